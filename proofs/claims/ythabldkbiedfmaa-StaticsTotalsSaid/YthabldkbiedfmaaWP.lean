import Derived.Test.YthabldkbiedfmaaTB
import Derived.Test.YthabldkbiedfmaaWO
set_option linter.all false
namespace Go.Proofs.Ythabldkbiedfmaa.T
open Go Go.RowKit Lin
set_option linter.unusedSimpArgs false

def rowOk (n : Nat) (r : List Int) : Bool := decide (r.length = n) && withinP r 32
theorem validP_rows {m : List (List Int)} (h1 : 1 ≤ m.length) (h2 : m.length ≤ 6) (h3 : 1 ≤ wid m) (h4 : wid m ≤ 12) : validP m = m.all (rowOk (wid m)) := by
  unfold validP
  rw [decide_eq_true (by omega), Bool.true_and]
  show (decide (1 ≤ wid m ∧ wid m ≤ 12) && _) = _
  rw [decide_eq_true (by omega), Bool.true_and]
  rfl
theorem within_cons (x : Int) (l : List Int) : withinP (x :: l) 32 = (decide (-32 ≤ x ∧ x ≤ 32) && withinP l 32) := by
  unfold withinP
  rw [List.any_cons, Bool.not_or]
  congr 1
  by_cases h1 : x < -32
  · simp [h1]; omega
  · by_cases h2 : 32 < x
    · simp [h2]
    · simp [h1, h2]; omega
end Go.Proofs.Ythabldkbiedfmaa.T
