import Derived.Test.YtpcakodemleoiaaTB
import Derived.Test.YtpcakodemleoiaaMinJ
set_option linter.all false
namespace Go.Proofs.Ytpcakodemleoiaa.T
open Go Go.RowKit Lin
set_option linter.unusedSimpArgs false

theorem zzL_intsX (R : D → D) (m : Nat) (H2 : Hp) (l : List Int) : zzL R m H2 (l.map int) = l.map int := by
  induction l with
  | nil => simp [zzL]
  | cons x l ih => simp only [List.map_cons, zzL, zz, ih]
theorem zv_intsX (m : Nat) (H2 : Hp) (k : Nat) (l : List Int) : zv m H2 k (ints l) = ints l := by cases k <;> simp only [zv, zz, zzL_intsX]
theorem zzL_matX (R : D → D) (m : Nat) (H2 : Hp) (l : List (List Int)) : zzL R m H2 (l.map ints) = l.map ints := by
  induction l with
  | nil => simp [zzL]
  | cons x l ih => simp only [List.map_cons, zzL, zz, zzL_intsX, ih]
theorem zv_matX (m : Nat) (H2 : Hp) (k : Nat) (l : List (List Int)) : zv m H2 k (mat l) = mat l := by cases k <;> simp only [zv, zz, zzL_matX]
theorem zv_vX (m : Nat) (H2 : Hp) (k : Nat) (x : Value) : zv m H2 k (.v x) = .v x := by cases k <;> simp only [zv, zz]
/-- A column, and the matrix whose rows are the columns. -/
def colP (m : List (List Int)) (j : Nat) : List Int := m.map fun r => at_ r j
def turnP (m : List (List Int)) (n : Nat) : List (List Int) := (List.range n).map (colP m)
theorem turnP_succ (m : List (List Int)) (n : Nat) : turnP m (n + 1) = turnP m n ++ [colP m n] := by simp [turnP, List.range_succ]
theorem turnP_len (m : List (List Int)) (n : Nat) : (turnP m n).length = n := by simp [turnP]
theorem colP_take {m : List (List Int)} {k j : Nat} {r : List Int} {v : Int} (hr : m[k]? = some r) (hv : r[j]? = some v) : colP (m.take (k + 1)) j = colP (m.take k) j ++ [v] := by
  unfold colP
  rw [List.take_add_one, hr, List.map_append]
  simp [at_, hv]
end Go.Proofs.Ytpcakodemleoiaa.T
