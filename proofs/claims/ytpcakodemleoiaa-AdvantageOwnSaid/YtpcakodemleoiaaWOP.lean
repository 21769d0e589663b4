import Derived.Test.YtpcakodemleoiaaTB
import Derived.Test.YtpcakodemleoiaaWIY
import Derived.Test.YtpcakodemleoiaaWJK
import Derived.Test.YtpcakodemleoiaaMinJ
import Derived.Test.YtpcakodemleoiaaWG
set_option linter.all false
section
namespace Go.Proofs.Ytpcakodemleoiaa.T
open Go Go.RowKit Lin
set_option linter.unusedSimpArgs false

def longP (m : List (List Int)) : Bool := decide (12 < m.length) || m.any fun r => decide (20 < r.length)
theorem longP_false {m : List (List Int)} (h : longP m = false) : m.length ≤ 12 ∧ ∀ r ∈ m, r.length ≤ 20 := by
  unfold longP at h
  rw [Bool.or_eq_false_iff] at h
  refine ⟨by simpa using h.1, fun r hr => ?_⟩
  have := List.any_eq_false.1 h.2 r hr
  simpa using this
end Go.Proofs.Ytpcakodemleoiaa.T
end

section
namespace Go.Proofs.Ytpcakodemleoiaa.T
open Go Go.RowKit Lin
set_option linter.unusedSimpArgs false

def rowOk (n : Nat) (r : List Int) : Bool := decide (r.length = n) && withinP r 32
theorem validP_rows {m : List (List Int)} (h1 : 1 ≤ m.length) (h2 : m.length ≤ 6) (h3 : 1 ≤ wid m) (h4 : wid m ≤ 12) : validP m = m.all (rowOk (wid m)) := by
  unfold validP
  rw [decide_eq_true (by omega), Bool.true_and]
  show (decide (1 ≤ wid m ∧ wid m ≤ 12) && _) = _
  rw [decide_eq_true (by omega), Bool.true_and]
  rfl
theorem within_cons (x : Int) (l : List Int) : withinP (x :: l) 32 = (decide (-32 ≤ x ∧ x ≤ 32) && withinP l 32) := by
  unfold withinP
  rw [List.any_cons, Bool.not_or]
  congr 1
  by_cases h1 : x < -32
  · simp [h1]; omega
  · by_cases h2 : 32 < x
    · simp [h2]
    · simp [h1, h2]; omega
end Go.Proofs.Ytpcakodemleoiaa.T
end

section
namespace Go.Proofs.Ytpcakodemleoiaa.T
open Go Go.RowKit Lin
set_option linter.unusedSimpArgs false

theorem rank_same {m : List (List Int)} {w n : Nat} (hs : Small m w n) : (elimBy mvR m n).pivots.length = rankP m n := by
  unfold rankP
  rw [elim_by, pivots_agree (ups_mover m w) (mvR_mover m w) hs.lens n hs.le]
end Go.Proofs.Ytpcakodemleoiaa.T
end
