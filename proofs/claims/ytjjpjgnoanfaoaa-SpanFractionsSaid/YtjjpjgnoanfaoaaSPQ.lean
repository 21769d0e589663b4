/- SpanFractions of chapter 3: plain laws (the span of a fraction, times a unit). -/
import Derived.Test.YtjjpjgnoanfaoaaAtPlain
import Derived.Test.YtjjpjgnoanfaoaaRoot
import Derived.Test.YtjjpjgnoanfaoaaSpanB
set_option linter.all false
namespace Go.Proofs.Ytjjpjgnoanfaoaa
open Go.RowKit

theorem neg_div {m d : Int} (hd : 0 < d) : (m % d = 0 → (-m) / d = -(m / d)) ∧ (0 < m % d → (-m) / d = -(m / d) - 1) := by
  have h1 := Int.mul_ediv_add_emod m d
  have h2 := Int.mul_ediv_add_emod (-m) d
  have a1 := Int.emod_nonneg (-m) (by omega : d ≠ 0)
  have a2 := Int.emod_lt_of_pos (-m) hd
  have b1 := Int.emod_nonneg m (by omega : d ≠ 0)
  have b2 := Int.emod_lt_of_pos m hd
  have e : d * (m / d + (-m) / d) = -(m % d) - (-m) % d := by rw [Int.mul_add]; omega
  generalize (-m) / d = x at *
  generalize m / d = y at *
  have hk : y + x = 0 ∨ y + x = -1 := by
    generalize y + x = k at e
    have c1 : k ≤ 0 := by
      rcases Int.lt_or_le 0 k with h | h
      · have := Int.mul_pos hd h; omega
      · exact h
    have c2 : -2 < k := by
      rcases Int.lt_or_le (-2) k with h | h
      · exact h
      · have := Int.mul_le_mul_of_nonneg_left h (Int.le_of_lt hd); omega
    omega
  constructor
  · intro hz
    rcases hk with hk | hk
    · omega
    · rw [hk] at e; omega
  · intro hz
    rcases hk with hk | hk
    · rw [hk] at e; omega
    · omega
/-- A product with a positive number is the quotient of the product. -/
theorem part_unit {n unit d : Int} (hu : 0 < unit) (up : Bool) : partS n unit d up = partS (n * unit) 1 d up := by
  have s : sgnS n unit d = sgnS (n * unit) 1 d := by
    unfold sgnS
    have e1 : decide (unit < 0) = false := decide_eq_false (by omega)
    have e2 : decide ((1 : Int) < 0) = false := by decide
    have e3 : decide (n * unit < 0) = decide (n < 0) := by
      by_cases h : n < 0
      · rw [decide_eq_true h, decide_eq_true (Int.mul_neg_of_neg_of_pos h hu)]
      · rw [decide_eq_false h, decide_eq_false (Int.not_lt.2 (Int.mul_nonneg (Int.not_lt.1 h) (Int.le_of_lt hu)))]
    rw [e1, e2, e3]
  unfold partS partQ
  rw [s, Int.natAbs_mul, show (1 : Int).natAbs = 1 from rfl, Nat.mul_one]
theorem ceil_of {x y : Int} (hy : 0 < y) (ok : (partS x 1 y true).2 = true) : ceiD x y = -((-x) / y) := by
  by_cases hz : x = 0
  · subst hz; unfold ceiD; rw [part_zero]; simp
  have s : sgnS (-x) 1 y = !sgnS x 1 y := by
    unfold sgnS
    by_cases a : x < 0
    · rw [decide_eq_false (p := -x < 0) (by omega), decide_eq_true a]; cases decide (y < 0) <;> rfl
    · rw [decide_eq_true (p := -x < 0) (by omega), decide_eq_false a]; cases decide (y < 0) <;> rfl
  have q : partQ (-x) 1 y false = partQ x 1 y true := by
    unfold partQ
    rw [s, Int.natAbs_neg]
    cases sgnS x 1 y <;> rfl
  have ok2 : (partS (-x) 1 y false).2 = true := by
    unfold partS at ok ⊢
    rw [q]
    by_cases t : 1152921504606846976 < partQ x 1 y true
    · rw [if_pos t] at ok; cases ok
    · rw [if_neg t]; split <;> rfl
  rw [← floD_of hy ok2]
  unfold ceiD floD
  unfold partS at *
  rw [s, q] at *
  by_cases t : 1152921504606846976 < partQ x 1 y true
  · rw [if_pos t] at ok; cases ok
  · rw [if_neg t, if_neg t]
    cases sgnS x 1 y
    · simp
    · simp

theorem partQ_le {x d : Int} {q : Nat} (h : x.natAbs ≤ q * d.natAbs) (up : Bool) : partQ x 1 d up ≤ q := by
  unfold partQ
  rw [show (1 : Int).natAbs = 1 from rfl, Nat.mul_one]
  have h1 : x.natAbs / d.natAbs ≤ q := Nat.div_le_of_le_mul (by rw [Nat.mul_comm]; exact h)
  by_cases r : x.natAbs % d.natAbs = 0
  · simp [r]; exact h1
  · have h2 : x.natAbs / d.natAbs < q := by
      rcases Nat.lt_or_eq_of_le h1 with h3 | h3
      · exact h3
      · have h4 := Nat.div_add_mod x.natAbs d.natAbs
        rw [h3, Nat.mul_comm] at h4
        omega
    split <;> omega
theorem part_ok_of {x d : Int} {q : Nat} (h : x.natAbs ≤ q * d.natAbs) (hq : q ≤ 1152921504606846976) (up : Bool) : (partS x 1 d up).2 = true := by
  have := partQ_le h up
  unfold partS
  rw [if_neg (by omega)]; split <;> rfl

theorem vfrac_unit {u : Int} (h1 : 1 ≤ u) (h2 : u ≤ 1099511627776) : vfrac u 1 = true := by
  simp [vfrac]
  omega
theorem of_cases {n d u s0 s1 s2 : Int} (HV : vfrac n d = true) (u1 : 1 ≤ u) (u2 : u ≤ 1099511627776) (H : ofS n d u = (s0, s1, s2)) :
    (s2 = 5 ∧ ¬ ∃ q : Nat, q ≤ 1152921504606846976 ∧ (n * u).natAbs ≤ q * d.natAbs) ∨ (s2 = 0 ∧ s0 = (n * u) / d ∧ s1 = -((-(n * u)) / d) ∧ -1152921504606846976 ≤ s0 ∧ s0 ≤ s1 ∧ s1 ≤ 1152921504606846976) := by
  obtain ⟨d1, d2, n1, n2, hg⟩ := vfrac_bounds HV
  unfold ofS at H
  rw [HV, if_pos rfl, if_neg (by omega), hull1] at H
  by_cases k : scok (n, u, d) = true
  · rw [if_pos k] at H
    cases H
    have r := fl_range k
    have kk := k
    rw [scok_part, Bool.and_eq_true] at kk
    have e1 : flP (n, u, d) = (n * u) / d := by
      have o := kk.1
      rw [part_unit (by omega)] at o
      have := floD_of (by omega) o
      unfold flP
      simp only
      rw [part_unit (by omega)]
      exact this
    have e2 : ceP (n, u, d) = -((-(n * u)) / d) := by
      have o := kk.2
      rw [part_unit (by omega)] at o
      have := ceil_of (by omega) o
      unfold ceP
      simp only
      rw [part_unit (by omega)]
      exact this
    exact .inr ⟨rfl, e1, e2, r.1, r.2.1, r.2.2⟩
  · rw [if_neg k] at H
    cases H
    refine .inl ⟨rfl, fun ⟨q, hq, h⟩ => k ?_⟩
    rw [scok_part, part_unit (n := n) (unit := u) (by omega) false, part_unit (n := n) (unit := u) (by omega) true, part_ok_of h hq, part_ok_of h hq]; rfl
/-- Rounded down and up: at most 1 apart; the same exactly where nothing is left. -/
theorem round_width {m d : Int} (hd : 0 < d) : -((-m) / d) - m / d ≤ 1 ∧ m / d ≤ -((-m) / d) ∧ (m / d = -((-m) / d) ↔ m % d = 0) := by
  have h := neg_div (m := m) hd
  have r0 := Int.emod_nonneg m (by omega : d ≠ 0)
  rcases Int.lt_or_eq_of_le r0 with r | r
  · have e := h.2 r; omega
  · have e := h.1 r.symm; omega

theorem hasS_inside {a b c d : Int} (h1 : c ≤ a) (h2 : b ≤ d) : insideS a b c d = true := by simp [insideS, h1, h2]
/-- The span of a fraction, times a number of a span: both roads. -/
theorem wide_same {a b u : Int} (h : vspan a b = true) (u1 : 1 ≤ u) (u2 : u ≤ 1099511627776) : mulS a b u u = timesS a b u 1 := by
  have hv : vspan u u = true := by simp [vspan]; omega
  have w1 : wib u = true := by simp [wib]; omega
  have w2 : wib 1 = true := by decide
  unfold mulS timesS
  rw [h, hv, w1, w2]
  simp only [Bool.and_self, if_true]
  rw [if_neg (by decide), hull4, hull2]
  by_cases k1 : scok (a, u, 1) = true <;> by_cases k2 : scok (b, u, 1) = true <;> simp [k1, k2]
/-- The span of the product lies in the product of the spans. -/
theorem of_in_wide {n d u s0 s1 o0 o1 w0 w1 : Int} (hd : 0 < d) (hu : 0 < u) (ho : vspan o0 o1 = true) (hs0 : s0 = (n * u) / d) (hs1 : s1 = -((-(n * u)) / d)) (ho0 : o0 = n / d) (ho1 : o1 = -((-n) / d)) (u2 : u ≤ 1099511627776) (hw : mulS o0 o1 u u = (w0, w1, 0)) :
    w0 ≤ s0 ∧ s1 ≤ w1 := by
  have hv : vspan u u = true := by simp [vspan]; omega
  rcases mulS_ok ho hv hw with ⟨h, -⟩ | ⟨-, -, -, -, -, e0, e1⟩
  · cases h
  · have a1 : w0 ≤ o0 * u := by omega
    have a2 : o1 * u ≤ w1 := by omega
    have b1 : o0 * u ≤ s0 := by
      rw [hs0, Int.le_ediv_iff_mul_le hd]
      have h1 : o0 * d ≤ n := by rw [ho0, ← Int.le_ediv_iff_mul_le hd]; exact Int.le_refl _
      have := Int.mul_le_mul_of_nonneg_right h1 (Int.le_of_lt hu)
      rwa [Int.mul_right_comm] at this
    have b2 : s1 ≤ o1 * u := by
      have h1 : (-o1) * d ≤ -n := by rw [ho1, Int.neg_neg, ← Int.le_ediv_iff_mul_le hd]; exact Int.le_refl _
      have h2 := Int.mul_le_mul_of_nonneg_right h1 (Int.le_of_lt hu)
      rw [Int.mul_right_comm, Int.neg_mul n u] at h2
      have h3 := (Int.le_ediv_iff_mul_le hd).2 h2
      rw [hs1, Int.neg_mul] at *
      omega
    omega
end Go.Proofs.Ytjjpjgnoanfaoaa
