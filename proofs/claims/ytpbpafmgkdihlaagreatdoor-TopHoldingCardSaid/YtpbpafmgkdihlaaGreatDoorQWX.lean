import Derived.Test.YtpbpafmgkdihlaaGreatDoorQTB
import Derived.Test.YtpbpafmgkdihlaaGreatDoorQMinJ
set_option linter.all false
namespace Go.Proofs.YtpbpafmgkdihlaaGreatDoor.T
open Go Go.RowKit Lin
def colP (m : List (List Int)) (j : Nat) : List Int := m.map fun r => at_ r j
def Y5j (m : List (List Int)) (n : Nat) : List (List Int) := (List.range n).map (colP m)
theorem Ykx (m : List (List Int)) (n : Nat) : Y5j m (n + 1) = Y5j m n ++ [colP m n] := by simp [Y5j, List.range_succ]
theorem Y5i (m : List (List Int)) (n : Nat) : (Y5j m n).length = n := by simp [Y5j]
theorem Ygk {m : List (List Int)} {k j : Nat} {r : List Int} {v : Int} (hr : m[k]? = some r) (hv : r[j]? = some v) : colP (m.take (k + 1)) j = colP (m.take k) j ++ [v] := by
 unfold colP
 rw [List.take_add_one, hr, List.map_append]
 simp [at_, hv]
end Go.Proofs.YtpbpafmgkdihlaaGreatDoor.T
