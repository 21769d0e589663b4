/- What a span inside of another one gives (plain). -/
import Derived.Test.YtjjpjgnoanfaoaaAtPlain
import Derived.Test.YtjjpjgnoanfaoaaRoot
import Derived.Test.YtjjpjgnoanfaoaaSpanB
set_option linter.all false
namespace Go.Proofs.Ytjjpjgnoanfaoaa
open Go.RowKit

/-- An answer for the inner spans, and one for the outer ones. -/
def narS (x y : T3) : Bool := decide (y.2.2 ≠ 0) || (decide (x.2.2 = 0) && insideS x.1 x.2.1 y.1 y.2.1)
theorem narS_of {x y : T3} (h : y.2.2 = 0 → x.2.2 = 0 ∧ y.1 ≤ x.1 ∧ x.2.1 ≤ y.2.1) : narS x y = true := by
  unfold narS insideS
  by_cases h0 : y.2.2 = 0
  · obtain ⟨h1, h2, h3⟩ := h h0
    simp [h1, h2, h3]
  · simp [h0]
section
variable {a b c d p q r s : Int} (h1 : vspan a b = true) (h2 : vspan c d = true) (k1 : vspan p q = true) (k2 : vspan r s = true) (i1 : a ≤ p ∧ q ≤ b) (i2 : c ≤ r ∧ s ≤ d)
include h1 h2 k1 k2 i1 i2
theorem narrow_add : narS (addS p q r s) (addS a b c d) = true := by
  refine narS_of fun h0 => ?_
  have b1 := vspan_bounds k1
  have b2 := vspan_bounds k2
  rcases addS_ok h1 h2 (m0 := (addS a b c d).1) (m1 := (addS a b c d).2.1) (m2 := (addS a b c d).2.2) rfl with ⟨e, _⟩ | ⟨_, w1, w2, e1, e2⟩
  · omega
  simp only [wib, Bool.and_eq_true, decide_eq_true_eq] at w1 w2
  rcases addS_ok k1 k2 (m0 := (addS p q r s).1) (m1 := (addS p q r s).2.1) (m2 := (addS p q r s).2.2) rfl with ⟨_, hn⟩ | ⟨f0, _, _, f1, f2⟩
  · exact absurd ⟨by simp [wib]; omega, by simp [wib]; omega⟩ hn
  · exact ⟨f0, by omega, by omega⟩
theorem narrow_sub : narS (subS p q r s) (subS a b c d) = true := by
  refine narS_of fun h0 => ?_
  have b1 := vspan_bounds k1
  have b2 := vspan_bounds k2
  rcases subS_ok h1 h2 (m0 := (subS a b c d).1) (m1 := (subS a b c d).2.1) (m2 := (subS a b c d).2.2) rfl with ⟨e, _⟩ | ⟨_, w1, w2, e1, e2⟩
  · omega
  simp only [wib, Bool.and_eq_true, decide_eq_true_eq] at w1 w2
  rcases subS_ok k1 k2 (m0 := (subS p q r s).1) (m1 := (subS p q r s).2.1) (m2 := (subS p q r s).2.2) rfl with ⟨_, hn⟩ | ⟨f0, _, _, f1, f2⟩
  · exact absurd ⟨by simp [wib]; omega, by simp [wib]; omega⟩ hn
  · exact ⟨f0, by omega, by omega⟩
theorem narrow_mul : narS (mulS p q r s) (mulS a b c d) = true := by
  refine narS_of fun h0 => ?_
  have b1 := vspan_bounds k1
  have b2 := vspan_bounds k2
  rcases mulS_ok h1 h2 (m0 := (mulS a b c d).1) (m1 := (mulS a b c d).2.1) (m2 := (mulS a b c d).2.2) rfl with ⟨e, _⟩ | ⟨_, w1, w2, w3, w4, e1, e2⟩
  · omega
  rw [pok_iff] at w1 w2 w3 w4
  have ins := fun x y hx1 hx2 hy1 hy2 => mul_inside (a := a) (b := b) (c := c) (d := d) (x := x) (y := y) (m := (mulS a b c d).1) (M := (mulS a b c d).2.1) hx1 hx2 hy1 hy2 (by omega) (by omega) (by omega) (by omega) (by omega) (by omega) (by omega) (by omega)
  have n1 := ins p r (by omega) (by omega) (by omega) (by omega)
  have n2 := ins q r (by omega) (by omega) (by omega) (by omega)
  have n3 := ins p s (by omega) (by omega) (by omega) (by omega)
  have n4 := ins q s (by omega) (by omega) (by omega) (by omega)
  rcases mulS_ok k1 k2 (m0 := (mulS p q r s).1) (m1 := (mulS p q r s).2.1) (m2 := (mulS p q r s).2.2) rfl with ⟨_, hn⟩ | ⟨f0, _, _, _, _, f1, f2⟩
  · exact absurd ⟨(pok_iff _ _).2 (by omega), (pok_iff _ _).2 (by omega), (pok_iff _ _).2 (by omega), (pok_iff _ _).2 (by omega)⟩ hn
  · exact ⟨f0, by omega, by omega⟩
theorem narrow_div : narS (divS p q r s) (divS a b c d) = true := by
  refine narS_of fun h0 => ?_
  have b1 := vspan_bounds k1
  have b2 := vspan_bounds k2
  have c1 := vspan_bounds h1
  rcases divS_ok h1 h2 (m0 := (divS a b c d).1) (m1 := (divS a b c d).2.1) (m2 := (divS a b c d).2.2) rfl with ⟨e, _⟩ | ⟨_, _, w, e1, e2⟩
  · omega
  have ins := fun x y hx1 hx2 hy1 hy2 => div_inside (a := a) (b := b) (c := c) (d := d) (x := x) (y := y) (m := (divS a b c d).1) (M := (divS a b c d).2.1) c1.1 hx1 hx2 c1.2.2 hy1 hy2 w (by omega) (by omega) (by omega) (by omega) (by omega) (by omega) (by omega) (by omega)
  have n1 := ins p r (by omega) (by omega) (by omega) (by omega)
  have n2 := ins p s (by omega) (by omega) (by omega) (by omega)
  have n3 := ins q r (by omega) (by omega) (by omega) (by omega)
  have n4 := ins q s (by omega) (by omega) (by omega) (by omega)
  rcases divS_ok k1 k2 (m0 := (divS p q r s).1) (m1 := (divS p q r s).2.1) (m2 := (divS p q r s).2.2) rfl with ⟨_, hn⟩ | ⟨f0, _, _, f1, f2⟩
  · exfalso
    simp [hasS] at hn
    omega
  · exact ⟨f0, by omega, by omega⟩
end
theorem rt_spec {n : Int} (h0 : 0 ≤ n) (h : n ≤ 1152921504606846976) : rt n * rt n ≤ n ∧ n < (rt n + 1) * (rt n + 1) := by
  obtain ⟨k, rfl⟩ := Int.eq_ofNat_of_zero_le h0
  have := isqrt_spec k (by omega)
  unfold rt
  rw [Int.toNat_natCast]
  constructor
  · have h := this.1
    rw [← Int.natCast_mul]
    omega
  · have h := this.2
    have e : ((isqrt k : Nat) : Int) + 1 = ((isqrt k + 1 : Nat) : Int) := by omega
    rw [e, ← Int.natCast_mul]
    omega
theorem rt_mono {m n : Int} (h0 : 0 ≤ m) (hmn : m ≤ n) (h : n ≤ 1152921504606846976) : rt m ≤ rt n := by
  obtain ⟨a1, _⟩ := rt_spec h0 (by omega)
  obtain ⟨_, b2⟩ := rt_spec (show 0 ≤ n by omega) h
  have p1 := (rt_bounds m (by omega)).1
  have p2 := (rt_bounds n h).1
  rcases Int.lt_or_le (rt n) (rt m) with hl | hl
  · have := Int.mul_le_mul (show rt n + 1 ≤ rt m by omega) (show rt n + 1 ≤ rt m by omega) (by omega) (by omega)
    omega
  · exact hl
/-- The root of an end, rounded up. -/
theorem rt_up {m n : Int} (h0 : 0 ≤ m) (hmn : m ≤ n) (h : n ≤ 1152921504606846976) : (if rt m * rt m < m then rt m + 1 else rt m) ≤ (if rt n * rt n < n then rt n + 1 else rt n) := by
  have hm := rt_mono h0 hmn h
  obtain ⟨a1, a2⟩ := rt_spec h0 (show m ≤ 1152921504606846976 by omega)
  obtain ⟨b1, b2⟩ := rt_spec (show 0 ≤ n by omega) h
  split
  · rename_i c1
    split
    · omega
    · rename_i c2
      rcases Int.lt_or_le (rt m) (rt n) with hl | hl
      · omega
      · have e : rt m = rt n := by omega
        rw [e] at c1
        omega
  · split <;> omega
theorem narrow_root {a b p q : Int} (h1 : vspan a b = true) (k1 : vspan p q = true) (i1 : a ≤ p ∧ q ≤ b) : narS (rootS p q) (rootS a b) = true := by
  refine narS_of fun h0 => ?_
  have b1 := vspan_bounds k1
  have c1 := vspan_bounds h1
  unfold rootS at *
  rw [if_pos h1] at h0 ⊢
  rw [if_pos k1]
  by_cases ha : a < 0
  · rw [if_pos ha] at h0; simp at h0
  rw [if_neg ha, if_neg (show ¬ p < 0 by omega)]
  exact ⟨rfl, rt_mono (by omega) i1.1 (by omega), rt_up (by omega) i1.2 (by omega)⟩
end Go.Proofs.Ytjjpjgnoanfaoaa
