/- The reference's quotient of a product, as a plain function, against the program's. -/
import Derived.Test.YtjjpjgnoanfaoaaSpanC
set_option linter.all false
namespace Go.Proofs.Ytjjpjgnoanfaoaa
open Go.RowKit

/-- The magnitude that ref03.Part rounds to. -/
def partQ (n num den : Int) (up : Bool) : Nat :=
  n.natAbs * num.natAbs / den.natAbs + if (decide (n.natAbs * num.natAbs % den.natAbs ≠ 0) && (sgnS n num den != up)) = true then 1 else 0
def partS (n num den : Int) (up : Bool) : Int × Bool :=
  if 1152921504606846976 < partQ n num den up then (0, false) else if sgnS n num den = true then (-(partQ n num den up : Int), true) else ((partQ n num den up : Int), true)

theorem natAbs_max (n : Int) : max n (-n) = (n.natAbs : Int) := by omega

theorem part_scaled (a b c : Int) : (scaledS a b c).2.2 = ((partS a b c false).2 && (partS a b c true).2) ∧
    ((scaledS a b c).2.2 = true → scaledS a b c = ((partS a b c false).1, (partS a b c true).1, true)) := by
  have e1 : max a (-a) * max b (-b) / max c (-c) = ((a.natAbs * b.natAbs / c.natAbs : Nat) : Int) := by simp only [natAbs_max]; norm_cast
  have e2 : max a (-a) * max b (-b) % max c (-c) = ((a.natAbs * b.natAbs % c.natAbs : Nat) : Int) := by simp only [natAbs_max]; norm_cast
  unfold partS partQ scaledS
  rw [e1, e2]
  generalize a.natAbs * b.natAbs / c.natAbs = q
  generalize a.natAbs * b.natAbs % c.natAbs = r
  by_cases t : (1152921504606846976 : Int) < (q : Int)
  · have t1 : 1152921504606846976 < q := by omega
    have t2 : ∀ k, 1152921504606846976 < q + k := fun k => by omega
    rw [if_pos t]
    simp [t2]
  · have t1 : ¬ 1152921504606846976 < q := by omega
    rw [if_neg t]
    cases hs : sgnS a b c
    · by_cases hr : r = 0
      · subst hr
        have w1 : wib (q : Int) = true := by simp [wib]; omega
        simp [w1, t1]
      · have p : 0 < r := by omega
        by_cases u : 1152921504606846976 < q + 1
        · have w1 : wib ((q : Int) + 1) = false := by simp [wib]; omega
          simp [p, hr, t1, u, w1]
        · have w1 : wib ((q : Int) + 1) = true := by simp [wib]; omega
          have w2 : wib (q : Int) = true := by simp [wib]; omega
          simp [p, hr, t1, u, w1, w2]
    · by_cases hr : r = 0
      · subst hr
        have w1 : wib (-(q : Int)) = true := by simp [wib]; omega
        simp [w1, t1]
      · have p : 0 < r := by omega
        by_cases u : 1152921504606846976 < q + 1
        · have w1 : wib (-((q : Int) + 1)) = false := by simp [wib]; omega
          simp [p, hr, t1, u, w1]
        · have w1 : wib (-((q : Int) + 1)) = true := by simp [wib]; omega
          have w2 : wib (-(q : Int)) = true := by simp [wib]; omega
          simp [p, hr, t1, u, w1, w2]
end Go.Proofs.Ytjjpjgnoanfaoaa
