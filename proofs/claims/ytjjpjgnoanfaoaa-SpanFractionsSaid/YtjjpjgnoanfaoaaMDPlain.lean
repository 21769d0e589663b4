/- The program's Mul, Div, Times, Of of spans against the reference's, as plain functions. -/
import Derived.Test.YtjjpjgnoanfaoaaPartPlain
import Derived.Test.YtjjpjgnoanfaoaaSpanM
import Derived.Test.YtjjpjgnoanfaoaaSpanB
set_option linter.all false
namespace Go.Proofs.Ytjjpjgnoanfaoaa
open Go.RowKit

theorem partQ_one (n num : Int) (up : Bool) : partQ n num 1 up = n.natAbs * num.natAbs := by
  simp [partQ, Nat.mod_one]
theorem partS_one (n num : Int) (up : Bool) : partS n num 1 up = partS n num 1 false := by
  simp only [partS, partQ_one]
theorem partS_range (n num den : Int) (up : Bool) (h : (partS n num den up).2 = true) : -1152921504606846976 ≤ (partS n num den up).1 ∧ (partS n num den up).1 ≤ 1152921504606846976 := by
  unfold partS at h ⊢
  by_cases t : 1152921504606846976 < partQ n num den up
  · rw [if_pos t] at h; cases h
  · rw [if_neg t]
    by_cases s : sgnS n num den = true
    · rw [if_pos s]; simp only; omega
    · rw [if_neg s]; simp only; omega
theorem partS_le (n num den : Int) (h0 : (partS n num den false).2 = true) (h1 : (partS n num den true).2 = true) : (partS n num den false).1 ≤ (partS n num den true).1 := by
  unfold partS partQ at *
  generalize n.natAbs * num.natAbs / den.natAbs = q at *
  generalize n.natAbs * num.natAbs % den.natAbs = r at *
  cases hs : sgnS n num den <;> by_cases hr : r = 0 <;> simp only [hs, hr] at h0 h1 ⊢ <;> simp at h0 h1 ⊢
  all_goals
    by_cases t : 1152921504606846976 < q
    · simp [t] at h0 h1
      try omega
    · by_cases u : 1152921504606846976 < q + 1
      · simp [t, u, hr] at h0 h1
      · simp [t, u, hr]
        try omega
/-- A quotient of integers that fit is never too great. -/
theorem partS_ok (n d : Int) (up : Bool) (h1 : -1152921504606846976 ≤ n) (h2 : n ≤ 1152921504606846976) (d0 : d ≠ 0) : (partS n 1 d up).2 = true := by
  have hq : partQ n 1 d up ≤ 1152921504606846976 := by
    unfold partQ
    have e1 : (1 : Int).natAbs = 1 := rfl
    rw [e1, Nat.mul_one]
    by_cases hd : d.natAbs = 1
    · rw [hd, Nat.div_one, Nat.mod_one]
      simp; omega
    · have : n.natAbs / d.natAbs ≤ n.natAbs / 2 := Nat.div_le_div_left (by omega) (by omega)
      split <;> omega
  unfold partS
  rw [if_neg (by omega)]
  split <;> rfl

/-- What both answers of one quotient are. -/
theorem scaled_ok {a b c : Int} (h : (scaledS a b c).2.2 = true) : (scaledS a b c).1 = (partS a b c false).1 ∧ (scaledS a b c).2.1 = (partS a b c true).1 ∧ (partS a b c false).2 = true ∧ (partS a b c true).2 = true := by
  have h1 := (part_scaled a b c).1
  have h2 := (part_scaled a b c).2 h
  rw [h] at h1
  have h3 := (Bool.and_eq_true _ _).mp h1.symm
  exact ⟨by rw [h2], by rw [h2], h3.1, h3.2⟩
theorem scaled_no {a b c : Int} (h : (scaledS a b c).2.2 = false) : (partS a b c false).2 = false ∨ (partS a b c true).2 = false := by
  have h1 := (part_scaled a b c).1
  rw [h] at h1
  have := h1.symm
  rw [Bool.and_eq_false_iff] at this
  exact this

def scok (x : Int × Int × Int) : Bool := (scaledS x.1 x.2.1 x.2.2).2.2
def flP (x : Int × Int × Int) : Int := (partS x.1 x.2.1 x.2.2 false).1
def ceP (x : Int × Int × Int) : Int := (partS x.1 x.2.1 x.2.2 true).1
theorem hull_go (lo hi : Int) (x : Int × Int × Int) (l : List (Int × Int × Int)) : hullGo lo hi (x :: l) = if scok x = true then hullGo (min lo (flP x)) (max hi (ceP x)) l else (0, 0, 5) := by
  show (if (scaledS x.1 x.2.1 x.2.2).2.2 = true then _ else _) = _
  by_cases h : (scaledS x.1 x.2.1 x.2.2).2.2 = true
  · have := scaled_ok h
    unfold scok flP ceP
    rw [if_pos h, if_pos h, this.1, this.2.1]
  · unfold scok
    rw [if_neg h, if_neg h]
theorem fl_range {x : Int × Int × Int} (h : scok x = true) : -1152921504606846976 ≤ flP x ∧ flP x ≤ ceP x ∧ ceP x ≤ 1152921504606846976 := by
  have k := scaled_ok h
  exact ⟨(partS_range _ _ _ _ k.2.2.1).1, partS_le _ _ _ k.2.2.1 k.2.2.2, (partS_range _ _ _ _ k.2.2.2).2⟩
theorem fits_ok {lo hi : Int} (h1 : -1152921504606846976 ≤ lo) (h2 : lo ≤ hi) (h3 : hi ≤ 1152921504606846976) : fitsS lo hi = (lo, hi, 0) := by
  unfold fitsS vspan
  simp [h1, h2, h3]
theorem hull1 (x : Int × Int × Int) : hullS [x] = if scok x = true then (flP x, ceP x, 0) else (0, 0, 5) := by
  unfold hullS
  rw [hull_go]
  by_cases h : scok x = true
  · have := fl_range h
    rw [if_pos h, if_pos h]
    show (min _ _, max _ _, (0 : Int)) = _
    rw [Int.min_eq_right (by omega), Int.max_eq_right (by omega)]
  · rw [if_neg h, if_neg h]
theorem hull2 (x y : Int × Int × Int) : hullS [x, y] = if (scok x && scok y) = true then (min (flP x) (flP y), max (ceP x) (ceP y), 0) else (0, 0, 5) := by
  unfold hullS
  rw [hull_go]
  cases h : scok x
  · simp
  · have := fl_range h
    rw [if_pos rfl, hull_go]
    cases h2 : scok y
    · simp
    · have := fl_range h2
      show (min (min _ _) _, max (max _ _) _, (0 : Int)) = _
      rw [Int.min_eq_right (a := 1152921504606846976) (by omega), Int.max_eq_right (a := -1152921504606846976) (by omega)]
      rfl
theorem hull4 (x y z u : Int × Int × Int) : hullS [x, y, z, u] = if (scok x && scok y && scok z && scok u) = true then (min (min (min (flP x) (flP y)) (flP z)) (flP u), max (max (max (ceP x) (ceP y)) (ceP z)) (ceP u), 0) else (0, 0, 5) := by
  unfold hullS
  rw [hull_go]
  cases h : scok x
  · simp
  · have := fl_range h
    rw [if_pos rfl, hull_go, Int.min_eq_right (a := 1152921504606846976) (by omega), Int.max_eq_right (a := -1152921504606846976) (by omega)]
    cases h2 : scok y
    · simp
    · rw [if_pos rfl, hull_go]
      cases h3 : scok z
      · simp
      · rw [if_pos rfl, hull_go]
        cases h4 : scok u
        · simp
        · rfl

def pok (x y : Int) : Bool := (partS x y 1 false).2
def pv (x y : Int) : Int := (partS x y 1 false).1
def mulT (a b c d : Int) : T3 := if (pok a c && pok b c && pok a d && pok b d) = true then
  fitsS (min (min (min (pv a c) (pv b c)) (pv a d)) (pv b d)) (max (max (max (pv a c) (pv b c)) (pv a d)) (pv b d)) else (0, 0, 5)
theorem scok_one (x y : Int) : scok (x, y, 1) = pok x y := by
  show (scaledS x y 1).2.2 = _
  rw [(part_scaled x y 1).1, partS_one x y true]
  unfold pok
  cases (partS x y 1 false).2 <;> rfl
theorem fl_one (x y : Int) : flP (x, y, 1) = pv x y := rfl
theorem ce_one (x y : Int) : ceP (x, y, 1) = pv x y := by
  show (partS x y 1 true).1 = _
  rw [partS_one]; rfl
theorem pv_range {x y : Int} (h : pok x y = true) : -1152921504606846976 ≤ pv x y ∧ pv x y ≤ 1152921504606846976 := partS_range _ _ _ _ h

theorem mul_same (a b c d : Int) (h1 : vspan a b = true) (h2 : vspan c d = true) : mulS a b c d = mulT a b c d := by
  unfold mulS mulT
  rw [h1, h2, Bool.and_self, if_pos rfl, hull4]
  simp only [scok_one, fl_one, ce_one]
  cases k1 : pok a c
  · simp
  cases k2 : pok a d
  · simp
  cases k3 : pok b c
  · simp
  cases k4 : pok b d
  · simp
  have r1 := pv_range k1; have r2 := pv_range k2; have r3 := pv_range k3; have r4 := pv_range k4
  rw [if_pos (by rfl), if_pos (by rfl), fits_ok (by omega) (by omega) (by omega)]
  congr 2
  · omega
  · omega

def floD (n d : Int) : Int := (partS n 1 d false).1
def ceiD (n d : Int) : Int := (partS n 1 d true).1
def divT (a b c d : Int) : T3 := if hasS c d 0 = true then (0, 0, 16) else
  fitsS (min (min (min (floD a c) (floD a d)) (floD b c)) (floD b d)) (max (max (max (ceiD a c) (ceiD a d)) (ceiD b c)) (ceiD b d))
theorem scok_div {n d : Int} (h1 : -1152921504606846976 ≤ n) (h2 : n ≤ 1152921504606846976) (d0 : d ≠ 0) : scok (n, 1, d) = true := by
  show (scaledS n 1 d).2.2 = _
  rw [(part_scaled n 1 d).1, partS_ok n d false h1 h2 d0, partS_ok n d true h1 h2 d0]; rfl
theorem div_same (a b c d : Int) (h1 : vspan a b = true) (h2 : vspan c d = true) : divS a b c d = divT a b c d := by
  have b1 := vspan_bounds h1; have b2 := vspan_bounds h2
  unfold divS divT
  rw [h1, h2, Bool.and_self, if_pos rfl]
  by_cases z : c ≤ 0 ∧ 0 ≤ d
  · rw [if_pos z, if_pos (by simp [hasS, z])]
  · rw [if_neg z, if_neg (by simp [hasS]; omega), hull4]
    have k1 := scok_div (n := a) (d := c) (by omega) (by omega) (by omega)
    have k2 := scok_div (n := a) (d := d) (by omega) (by omega) (by omega)
    have k3 := scok_div (n := b) (d := c) (by omega) (by omega) (by omega)
    have k4 := scok_div (n := b) (d := d) (by omega) (by omega) (by omega)
    have r1 := fl_range k1; have r2 := fl_range k2; have r3 := fl_range k3; have r4 := fl_range k4
    rw [k1, k2, k3, k4, if_pos (by rfl)]
    show (min (min (min (floD a c) (floD a d)) (floD b c)) (floD b d), max (max (max (ceiD a c) (ceiD a d)) (ceiD b c)) (ceiD b d), (0 : Int)) = _
    have e : ∀ n d, flP (n, 1, d) = floD n d := fun _ _ => rfl
    have e' : ∀ n d, ceP (n, 1, d) = ceiD n d := fun _ _ => rfl
    simp only [e, e'] at r1 r2 r3 r4
    rw [fits_ok (by omega) (by omega) (by omega)]

def timesT (a b num den : Int) : T3 := if den = 0 then (0, 0, 16) else if wib num = false ∨ wib den = false then (0, 0, 2) else
  if ((partS a num den false).2 && (partS a num den true).2 && (partS b num den false).2 && (partS b num den true).2) = true then
    fitsS (min (partS a num den false).1 (partS b num den false).1) (max (partS a num den true).1 (partS b num den true).1) else (0, 0, 5)
theorem scok_part (a b c : Int) : scok (a, b, c) = ((partS a b c false).2 && (partS a b c true).2) := (part_scaled a b c).1
theorem times_same (a b num den : Int) (h1 : vspan a b = true) : timesS a b num den = timesT a b num den := by
  unfold timesS timesT
  rw [if_pos h1]
  by_cases z : den = 0
  · rw [if_pos z, if_pos z]
  · rw [if_neg z, if_neg z]
    cases k1 : wib num
    · simp
    cases k2 : wib den
    · simp
    rw [if_pos (by rfl), if_neg (by simp), hull2]
    simp only [scok_part]
    rw [Bool.and_assoc _ (partS b num den false).2]
    by_cases k : (((partS a num den false).2 && (partS a num den true).2) && ((partS b num den false).2 && (partS b num den true).2)) = true
    · rw [if_pos k, if_pos k]
      have k' := (Bool.and_eq_true _ _).mp k
      rw [← scok_part, ← scok_part] at k'
      have r1 := fl_range k'.1; have r2 := fl_range k'.2
      show (min (flP (a, num, den)) (flP (b, num, den)), max (ceP (a, num, den)) (ceP (b, num, den)), (0 : Int)) = fitsS (min (flP (a, num, den)) (flP (b, num, den))) (max (ceP (a, num, den)) (ceP (b, num, den)))
      rw [fits_ok (by omega) (by omega) (by omega)]
    · rw [if_neg k, if_neg k]
def ofT (n d unit : Int) : T3 := if unit < 1 ∨ 1099511627776 < unit then (0, 0, 2) else
  if ((partS n unit d false).2 && (partS n unit d true).2) = true then ((partS n unit d false).1, (partS n unit d true).1, 0) else (0, 0, 5)
theorem of_hull (n d unit : Int) : hullS [(n, unit, d)] = if ((partS n unit d false).2 && (partS n unit d true).2) = true then ((partS n unit d false).1, (partS n unit d true).1, 0) else (0, 0, 5) := by
  rw [hull1, scok_part]; rfl
end Go.Proofs.Ytjjpjgnoanfaoaa
