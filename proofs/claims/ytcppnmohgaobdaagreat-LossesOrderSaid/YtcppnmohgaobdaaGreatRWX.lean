import Derived.Test.YtcppnmohgaobdaaGreatRTB
import Derived.Test.YtcppnmohgaobdaaGreatRMinJ
set_option linter.all false
namespace Go.Proofs.YtcppnmohgaobdaaGreat.T
open Go Go.RowKit Lin
def colP (m : List (List Int)) (j : Nat) : List Int := m.map fun r => at_ r j
def turnP (m : List (List Int)) (n : Nat) : List (List Int) := (List.range n).map (colP m)
theorem turnP_len (m : List (List Int)) (n : Nat) : (turnP m n).length = n := by simp [turnP]
theorem colP_take {m : List (List Int)} {k j : Nat} {r : List Int} {v : Int} (hr : m[k]? = some r) (hv : r[j]? = some v) : colP (m.take (k + 1)) j = colP (m.take k) j ++ [v] := by
  unfold colP
  rw [List.take_add_one, hr, List.map_append]
  simp [at_, hv]
end Go.Proofs.YtcppnmohgaobdaaGreat.T

