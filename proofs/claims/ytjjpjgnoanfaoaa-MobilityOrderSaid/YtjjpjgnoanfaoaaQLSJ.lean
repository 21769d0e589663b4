import Derived.Test.YtjjpjgnoanfaoaaTB
import Derived.Test.YtjjpjgnoanfaoaaLSA
import Derived.Test.YtjjpjgnoanfaoaaWOP
import Derived.Test.YtjjpjgnoanfaoaaWRS
set_option linter.all false
section
namespace Go.Proofs.Ytjjpjgnoanfaoaa.T
open Go Go.RowKit Lin
set_option linter.unusedSimpArgs false

end Go.Proofs.Ytjjpjgnoanfaoaa.T
end

section
namespace Go.Proofs.Ytjjpjgnoanfaoaa.T
open Go Go.RowKit Lin
set_option linter.unusedSimpArgs false

end Go.Proofs.Ytjjpjgnoanfaoaa.T
end

section
namespace Go.Proofs.Ytjjpjgnoanfaoaa.T
open Go Go.RowKit Lin
set_option linter.unusedSimpArgs false

structure Nx (l : List Nat) (c nx : Nat) : Prop where
  le : nx ≤ l.length
  lt : ∀ j p, l[j]? = some p → (j < nx ↔ p < c)
theorem Nx.zero (l : List Nat) : Nx l 0 0 := ⟨Nat.zero_le _, fun j p _ => by omega⟩
def fillF (n k : Nat) : List (Int × Int) := List.replicate k (0, 1) ++ List.replicate (n - k) (0, 0)
theorem fillF_len {n k : Nat} (h : k ≤ n) : (fillF n k).length = n := by simp [fillF]; omega
theorem fillF_set {n k : Nat} (h : k < n) : (fillF n k).set k (0, 1) = fillF n (k + 1) := by
  unfold fillF
  rw [List.set_append_right _ _ (by simp)]
  obtain ⟨j, hj⟩ : ∃ j, n - k = j + 1 := ⟨n - k - 1, by omega⟩
  rw [hj, show n - (k + 1) = j by omega, List.replicate_succ' (n := k), List.replicate_succ (n := j)]
  simp
theorem fillF_end (n : Nat) : fillF n n = List.replicate n (0, 1) := by simp [fillF]
theorem fillF_zero (n : Nat) : fillF n 0 = List.replicate n (0, 0) := by simp [fillF]
end Go.Proofs.Ytjjpjgnoanfaoaa.T
end

