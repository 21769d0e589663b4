/- What spans of results enclose, as plain laws: quotients, products. -/
import Derived.Test.YtjjpjgnoanfaoaaMDPlain
set_option linter.all false
namespace Go.Proofs.Ytjjpjgnoanfaoaa
open Go.RowKit

theorem mul_le_of {m c a : Int} (y : Int) (d : Int) (h1 : m * c ≤ a) (h2 : m * d ≤ a) (hc : c ≤ y) (hd : y ≤ d) : m * y ≤ a := by
  rcases Int.le_total 0 m with hm | hm
  · exact Int.le_trans (Int.mul_le_mul_of_nonneg_left hd hm) h2
  · exact Int.le_trans (Int.mul_le_mul_of_nonpos_left hm hc) h1
theorem le_mul_of {m c a : Int} (y : Int) (d : Int) (h1 : a ≤ m * c) (h2 : a ≤ m * d) (hc : c ≤ y) (hd : y ≤ d) : a ≤ m * y := by
  rcases Int.le_total 0 m with hm | hm
  · exact Int.le_trans h1 (Int.mul_le_mul_of_nonneg_left hc hm)
  · exact Int.le_trans h2 (Int.mul_le_mul_of_nonpos_left hm hd)

/-- Part by 1 is the product. -/
theorem sgn_one (x y : Int) : sgnS x y 1 = !(decide (x < 0) == decide (y < 0)) := by
  unfold sgnS; cases decide (x < 0) <;> cases decide (y < 0) <;> rfl
theorem pv_mul {x y : Int} (h : pok x y = true) : pv x y = x * y := by
  unfold pv pok partS at *
  rw [partQ_one] at *
  by_cases t : 1152921504606846976 < x.natAbs * y.natAbs
  · rw [if_pos t] at h; cases h
  rw [if_neg t] at *
  have e := Int.natAbs_mul x y
  rw [← e, sgn_one]
  by_cases hx : x < 0 <;> by_cases hy : y < 0 <;> simp [hx, hy]
  · have := Int.mul_nonneg_of_nonpos_of_nonpos (Int.le_of_lt hx) (Int.le_of_lt hy); omega
  · have := Int.mul_nonpos_of_nonpos_of_nonneg (Int.le_of_lt hx) (Int.not_lt.1 hy); omega
  · have := Int.mul_nonpos_of_nonneg_of_nonpos (Int.not_lt.1 hx) (Int.le_of_lt hy); omega
  · have := Int.mul_nonneg (Int.not_lt.1 hx) (Int.not_lt.1 hy); omega
theorem pok_iff (x y : Int) : pok x y = true ↔ -1152921504606846976 ≤ x * y ∧ x * y ≤ 1152921504606846976 := by
  unfold pok partS
  rw [partQ_one, ← Int.natAbs_mul]
  by_cases t : 1152921504606846976 < (x * y).natAbs
  · rw [if_pos t]; simp; omega
  · rw [if_neg t]
    constructor
    · intro; omega
    · intro; split <;> rfl

/-- Rounded down, and up: what a number needs to be not greater, not less. -/
theorem floD_of {x y : Int} (hy : 0 < y) (ok : (partS x 1 y false).2 = true) : floD x y = x / y := by
  unfold floD partS at *
  by_cases t : 1152921504606846976 < partQ x 1 y false
  · rw [if_pos t] at ok; cases ok
  rw [if_neg t]
  have s : sgnS x 1 y = decide (x < 0) := by
    unfold sgnS; rw [decide_eq_false (p := (1 : Int) < 0) (by omega), decide_eq_false (p := y < 0) (by omega)]; cases decide (x < 0) <;> rfl
  unfold partQ
  rw [s, show (1 : Int).natAbs = 1 from rfl, Nat.mul_one]
  have hyn : ((y.natAbs : Nat) : Int) = y := by omega
  have hdm := Int.mul_ediv_add_emod x y
  have hm0 := Int.emod_nonneg x (by omega : y ≠ 0)
  have hm1 := Int.emod_lt_of_pos x hy
  by_cases h : x < 0
  · rw [decide_eq_true h]
    have ex : ((x.natAbs : Nat) : Int) = -x := by omega
    have e1 : ((x.natAbs / y.natAbs : Nat) : Int) = (-x) / y := by rw [Int.natCast_ediv, hyn, ex]
    have e2 : ((x.natAbs % y.natAbs : Nat) : Int) = (-x) % y := by rw [Int.natCast_emod, hyn, ex]
    by_cases r : x.natAbs % y.natAbs = 0
    · have r2 : (-x) % y = 0 := by rw [← e2, r]; rfl
      have hd2 := Int.mul_ediv_add_emod (-x) y
      simp only [r, ne_eq, not_true_eq_false, decide_false, Bool.false_and, Bool.false_eq_true, if_false, if_true, Nat.add_zero]
      rw [e1]
      have : y * (x / y + (-x) / y) + x % y = 0 := by rw [Int.mul_add]; omega
      have key : x / y + (-x) / y = 0 := by
        have h0 : x % y = 0 := by
          have : y ∣ x := by
            have := Int.dvd_of_emod_eq_zero r2
            exact (Int.dvd_neg.1 this)
          exact Int.emod_eq_zero_of_dvd this
        rw [h0, Int.add_zero] at this
        rcases Int.mul_eq_zero.1 this with h | h
        · omega
        · exact h
      omega
    · have hd2 := Int.mul_ediv_add_emod (-x) y
      have r2 : 0 < (-x) % y := by rw [← e2]; omega
      have r3 := Int.emod_lt_of_pos (-x) hy
      simp only [r, ne_eq, not_false_eq_true, decide_true, Bool.true_and, bne_iff_ne, Bool.true_eq_false, if_true]
      rw [Int.natCast_add, e1]
      have : y * (x / y + (-x) / y) = -(x % y) - (-x) % y := by rw [Int.mul_add]; omega
      have key : x / y + (-x) / y = -1 := by
        have hs : 0 < x % y := by
          rcases Int.lt_or_eq_of_le hm0 with h | h
          · exact h
          · have : y ∣ x := Int.dvd_of_emod_eq_zero h.symm
            have := Int.emod_eq_zero_of_dvd (Int.dvd_neg.2 this)
            omega
        generalize x / y + (-x) / y = k at *
        have a1 : k < 0 := by
          rcases Int.lt_or_le k 0 with h | h
          · exact h
          · have := Int.mul_nonneg (Int.le_of_lt hy) h; omega
        have a2 : -2 < k := by
          rcases Int.lt_or_le (-2) k with h | h
          · exact h
          · have := Int.mul_le_mul_of_nonneg_left h (Int.le_of_lt hy); omega
        omega
      simp
      omega
  · rw [decide_eq_false h]
    have ex : ((x.natAbs : Nat) : Int) = x := by omega
    have e1 : ((x.natAbs / y.natAbs : Nat) : Int) = x / y := by rw [Int.natCast_ediv, hyn, ex]
    simp only [bne_self_eq_false, Bool.and_false, Bool.false_eq_true, if_false, Nat.add_zero]
    exact e1
theorem floD_pos {x y : Int} (hy : 0 < y) (hx : -1152921504606846976 ≤ x) (hx2 : x ≤ 1152921504606846976) : floD x y = x / y :=
  floD_of hy (partS_ok x y false hx hx2 (by omega))
theorem part_neg2 (x y : Int) (up : Bool) (hx : x ≠ 0) : partS (-x) 1 (-y) up = partS x 1 y up ∨ y = 0 := by
  by_cases hy : y = 0
  · exact Or.inr hy
  left
  have s : sgnS (-x) 1 (-y) = sgnS x 1 y := by
    unfold sgnS
    by_cases a : x < 0 <;> by_cases b : y < 0
    · rw [decide_eq_false (p := -x < 0) (by omega), decide_eq_false (p := -y < 0) (by omega), decide_eq_true a, decide_eq_true b]; rfl
    · rw [decide_eq_false (p := -x < 0) (by omega), decide_eq_true (p := -y < 0) (by omega), decide_eq_true a, decide_eq_false b]; rfl
    · rw [decide_eq_true (p := -x < 0) (by omega), decide_eq_false (p := -y < 0) (by omega), decide_eq_false a, decide_eq_true b]; rfl
    · rw [decide_eq_true (p := -x < 0) (by omega), decide_eq_true (p := -y < 0) (by omega), decide_eq_false a, decide_eq_false b]; rfl
  unfold partS partQ
  rw [s, Int.natAbs_neg, Int.natAbs_neg]
theorem part_zero (y : Int) (up : Bool) : (partS 0 1 y up).1 = 0 := by
  unfold partS partQ
  simp
theorem floD_neg {x y : Int} (hy : y < 0) (hx : -1152921504606846976 ≤ x) (hx2 : x ≤ 1152921504606846976) : floD x y = (-x) / (-y) := by
  have h := floD_pos (x := -x) (y := -y) (by omega) (by omega) (by omega)
  rw [← h]
  unfold floD
  by_cases hz : x = 0
  · subst hz; rw [part_zero, Int.neg_zero, part_zero]
  · rcases part_neg2 x y false hz with e | e
    · rw [e]
    · omega
theorem ceiD_eq {x y : Int} (hx : -1152921504606846976 ≤ x) (hx2 : x ≤ 1152921504606846976) (hy : y ≠ 0) : ceiD x y = -floD (-x) y := by
  unfold ceiD floD
  by_cases hz : x = 0
  · subst hz; rw [part_zero, Int.neg_zero, part_zero]; rfl
  have o1 := partS_ok x y true hx hx2 hy
  have o2 := partS_ok (-x) y false (by omega) (by omega) hy
  have s : sgnS (-x) 1 y = !sgnS x 1 y := by
    unfold sgnS
    by_cases a : x < 0
    · rw [decide_eq_false (p := -x < 0) (by omega), decide_eq_true a]; cases decide (y < 0) <;> rfl
    · rw [decide_eq_true (p := -x < 0) (by omega), decide_eq_false a]; cases decide (y < 0) <;> rfl
  have q : partQ (-x) 1 y false = partQ x 1 y true := by
    unfold partQ
    rw [s, Int.natAbs_neg]
    cases sgnS x 1 y <;> rfl
  unfold partS at *
  rw [s, q] at *
  by_cases t : 1152921504606846976 < partQ x 1 y true
  · rw [if_pos t] at o1; cases o1
  · rw [if_neg t, if_neg t]
    cases sgnS x 1 y
    · simp
    · simp
theorem le_floD {m x y : Int} (hx : -1152921504606846976 ≤ x) (hx2 : x ≤ 1152921504606846976) (hy : 0 < y) : m ≤ floD x y ↔ m * y ≤ x := by
  rw [floD_pos hy hx hx2, Int.le_ediv_iff_mul_le hy]
theorem le_floD' {m x y : Int} (hx : -1152921504606846976 ≤ x) (hx2 : x ≤ 1152921504606846976) (hy : y < 0) : m ≤ floD x y ↔ x ≤ m * y := by
  rw [floD_neg hy hx hx2, Int.le_ediv_iff_mul_le (by omega), Int.mul_neg]; omega
theorem ceiD_le {m x y : Int} (hx : -1152921504606846976 ≤ x) (hx2 : x ≤ 1152921504606846976) (hy : 0 < y) : ceiD x y ≤ m ↔ x ≤ m * y := by
  rw [ceiD_eq hx hx2 (by omega)]
  have := le_floD (m := -m) (x := -x) (y := y) (by omega) (by omega) hy
  rw [Int.neg_mul] at this
  omega
theorem ceiD_le' {m x y : Int} (hx : -1152921504606846976 ≤ x) (hx2 : x ≤ 1152921504606846976) (hy : y < 0) : ceiD x y ≤ m ↔ m * y ≤ x := by
  rw [ceiD_eq hx hx2 (by omega)]
  have := le_floD' (m := -m) (x := -x) (y := y) (by omega) (by omega) hy
  rw [Int.neg_mul] at this
  omega

/-- A number's quotient lies in the span of the quotients. -/
theorem div_inside {a b c d x y m M : Int} (ha : -1152921504606846976 ≤ a) (hax : a ≤ x) (hxb : x ≤ b) (hb : b ≤ 1152921504606846976) (hcy : c ≤ y) (hyd : y ≤ d) (h0 : 0 < c ∨ d < 0)
    (m1 : m ≤ floD a c) (m2 : m ≤ floD a d) (m3 : m ≤ floD b c) (m4 : m ≤ floD b d) (M1 : ceiD a c ≤ M) (M2 : ceiD a d ≤ M) (M3 : ceiD b c ≤ M) (M4 : ceiD b d ≤ M) : m ≤ floD x y ∧ ceiD x y ≤ M := by
  rcases h0 with h | h
  · rw [le_floD (by omega) (by omega) (by omega)] at m1 m2 m3 m4 ⊢
    rw [ceiD_le (by omega) (by omega) (by omega)] at M1 M2 M3 M4 ⊢
    exact ⟨Int.le_trans (mul_le_of y d m1 m2 hcy hyd) hax, Int.le_trans hxb (le_mul_of y d M3 M4 hcy hyd)⟩
  · rw [le_floD' (by omega) (by omega) (by omega)] at m1 m2 m3 m4 ⊢
    rw [ceiD_le' (by omega) (by omega) (by omega)] at M1 M2 M3 M4 ⊢
    exact ⟨Int.le_trans hxb (le_mul_of y d m3 m4 hcy hyd), Int.le_trans (mul_le_of y d M1 M2 hcy hyd) hax⟩

/-- A product of numbers lies between the products of the ends. -/
theorem mul_inside {a b c d x y m M : Int} (hax : a ≤ x) (hxb : x ≤ b) (hcy : c ≤ y) (hyd : y ≤ d)
    (m1 : m ≤ a * c) (m2 : m ≤ a * d) (m3 : m ≤ b * c) (m4 : m ≤ b * d) (M1 : a * c ≤ M) (M2 : a * d ≤ M) (M3 : b * c ≤ M) (M4 : b * d ≤ M) : m ≤ x * y ∧ x * y ≤ M := by
  have p1 := le_mul_of y d m1 m2 hcy hyd; have p2 := le_mul_of y d m3 m4 hcy hyd
  have q1 := mul_le_of y d M1 M2 hcy hyd; have q2 := mul_le_of y d M3 M4 hcy hyd
  rw [Int.mul_comm] at p1 p2 q1 q2
  have p := le_mul_of x b p1 p2 hax hxb; have q := mul_le_of x b q1 q2 hax hxb
  rw [Int.mul_comm] at p q
  exact ⟨p, q⟩

/-- The program's answers, case by case. -/
theorem mulS_ok {a b c d m0 m1 m2 : Int} (h1 : vspan a b = true) (h2 : vspan c d = true) (h : mulS a b c d = (m0, m1, m2)) :
    (m2 = 5 ∧ ¬ (pok a c = true ∧ pok b c = true ∧ pok a d = true ∧ pok b d = true)) ∨
    (m2 = 0 ∧ pok a c = true ∧ pok b c = true ∧ pok a d = true ∧ pok b d = true ∧ m0 = min (min (min (a * c) (b * c)) (a * d)) (b * d) ∧ m1 = max (max (max (a * c) (b * c)) (a * d)) (b * d)) := by
  rw [mul_same a b c d h1 h2] at h
  unfold mulT at h
  by_cases k : (pok a c && pok b c && pok a d && pok b d) = true
  · rw [if_pos k] at h
    simp only [Bool.and_eq_true] at k
    obtain ⟨⟨⟨k1, k2⟩, k3⟩, k4⟩ := k
    have r1 := pv_range k1; have r2 := pv_range k2; have r3 := pv_range k3; have r4 := pv_range k4
    rw [fits_ok (by omega) (by omega) (by omega)] at h
    rw [pv_mul k1, pv_mul k2, pv_mul k3, pv_mul k4] at h
    cases h
    exact .inr ⟨rfl, k1, k2, k3, k4, rfl, rfl⟩
  · rw [if_neg k] at h
    cases h
    refine .inl ⟨rfl, fun ⟨a1, a2, a3, a4⟩ => k (by simp [a1, a2, a3, a4])⟩
theorem divS_ok {a b c d m0 m1 m2 : Int} (h1 : vspan a b = true) (h2 : vspan c d = true) (h : divS a b c d = (m0, m1, m2)) :
    (m2 = 16 ∧ hasS c d 0 = true) ∨ (m2 = 0 ∧ hasS c d 0 = false ∧ (0 < c ∨ d < 0) ∧ m0 = min (min (min (floD a c) (floD a d)) (floD b c)) (floD b d) ∧ m1 = max (max (max (ceiD a c) (ceiD a d)) (ceiD b c)) (ceiD b d)) := by
  have b1 := vspan_bounds h1; have b2 := vspan_bounds h2
  rw [div_same a b c d h1 h2] at h
  unfold divT at h
  cases k : hasS c d 0
  · have h0 : 0 < c ∨ d < 0 := by simp [hasS] at k; omega
    rw [if_neg (by simp [k])] at h
    have k1 := scok_div (n := a) (d := c) (by omega) (by omega) (by omega)
    have k2 := scok_div (n := a) (d := d) (by omega) (by omega) (by omega)
    have k3 := scok_div (n := b) (d := c) (by omega) (by omega) (by omega)
    have k4 := scok_div (n := b) (d := d) (by omega) (by omega) (by omega)
    have r1 := fl_range k1; have r2 := fl_range k2; have r3 := fl_range k3; have r4 := fl_range k4
    have e : ∀ n d, flP (n, 1, d) = floD n d := fun _ _ => rfl
    have e' : ∀ n d, ceP (n, 1, d) = ceiD n d := fun _ _ => rfl
    simp only [e, e'] at r1 r2 r3 r4
    rw [fits_ok (by omega) (by omega) (by omega)] at h
    cases h
    exact .inr ⟨rfl, rfl, h0, rfl, rfl⟩
  · rw [if_pos k] at h
    cases h
    exact .inl ⟨rfl, rfl⟩
theorem addS_ok {a b c d m0 m1 m2 : Int} (h1 : vspan a b = true) (h2 : vspan c d = true) (h : addS a b c d = (m0, m1, m2)) :
    (m2 = 5 ∧ ¬ (wib (a + c) = true ∧ wib (b + d) = true)) ∨ (m2 = 0 ∧ wib (a + c) = true ∧ wib (b + d) = true ∧ m0 = a + c ∧ m1 = b + d) := by
  unfold addS madeS at h
  rw [h1, h2, Bool.and_self, if_pos rfl] at h
  by_cases k : (wib (a + c) && wib (b + d)) = true
  · rw [if_pos k] at h; cases h
    rw [Bool.and_eq_true] at k
    exact .inr ⟨rfl, k.1, k.2, rfl, rfl⟩
  · rw [if_neg k] at h; cases h
    exact .inl ⟨rfl, fun ⟨x, y⟩ => k (by simp [x, y])⟩
theorem subS_ok {a b c d m0 m1 m2 : Int} (h1 : vspan a b = true) (h2 : vspan c d = true) (h : subS a b c d = (m0, m1, m2)) :
    (m2 = 5 ∧ ¬ (wib (a - d) = true ∧ wib (b - c) = true)) ∨ (m2 = 0 ∧ wib (a - d) = true ∧ wib (b - c) = true ∧ m0 = a - d ∧ m1 = b - c) := by
  unfold subS madeS at h
  rw [h1, h2, Bool.and_self, if_pos rfl] at h
  by_cases k : (wib (a - d) && wib (b - c)) = true
  · rw [if_pos k] at h; cases h
    rw [Bool.and_eq_true] at k
    exact .inr ⟨rfl, k.1, k.2, rfl, rfl⟩
  · rw [if_neg k] at h; cases h
    exact .inl ⟨rfl, fun ⟨x, y⟩ => k (by simp [x, y])⟩
end Go.Proofs.Ytjjpjgnoanfaoaa
