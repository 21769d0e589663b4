import Derived.Test.YtcppnmohgaobdaaGreatRTB
import Derived.Test.YtcppnmohgaobdaaGreatRWJK
import Derived.Test.YtcppnmohgaobdaaGreatRWH
import Derived.Test.YtcppnmohgaobdaaGreatRMinJ
set_option linter.all false
namespace Go.Proofs.YtcppnmohgaobdaaGreat.T
open Go Go.RowKit Lin
theorem makeP_ok {n d : Int} (hn : -1152921504606846976 ≤ n ∧ n ≤ 1152921504606846976) (hd : -1152921504606846976 ≤ d ∧ d ≤ 1152921504606846976) (hd0 : d ≠ 0) : (makeP n d).2 = 0 := by
  unfold makeP signP
  rw [if_neg hd0]
  have l1 := Nat.div_le_self n.natAbs (Nat.gcd n.natAbs d.natAbs)
  have l2 := Nat.div_le_self d.natAbs (Nat.gcd n.natAbs d.natAbs)
  rw [if_neg (by omega)]
theorem zzL_ints (R : D → D) (m : Nat) (H2 : Hp) (l : List Int) : zzL R m H2 (l.map int) = l.map int := by
  induction l with
  | nil => simp [zzL]
  | cons x l ih => simp only [List.map_cons, zzL, zz, ih]
theorem zzL_mat (R : D → D) (m : Nat) (H2 : Hp) (l : List (List Int)) : zzL R m H2 (l.map ints) = l.map ints := by
  induction l with
  | nil => simp [zzL]
  | cons x l ih => simp only [List.map_cons, zzL, zz, zzL_ints, ih]
theorem zv_mat (m : Nat) (H2 : Hp) (k : Nat) (l : List (List Int)) : zv m H2 k (mat l) = mat l := by cases k <;> simp only [zv, zz, zzL_mat]
theorem zv_ints1 (m : Nat) (H2 : Hp) (k : Nat) (l : List Int) : zv m H2 k (ints l) = ints l := by cases k <;> simp only [zv, zz, zzL_ints]
theorem both_small {m : List (List Int)} {right : List Int} (hv : validP m = true) (hr : right.length = m.length) (hw : withinP right 67108864 = true) : Small (copyP m right) (wid m + 1) (wid m) := by
  obtain ⟨h1, h2, h3⟩ := validP_iff.1 hv
  have hb := withinP_spec hw
  have mem : ∀ r ∈ copyP m right, ∃ s ∈ m, ∃ v ∈ right, r = s ++ [v] := fun r hr' => by
    obtain ⟨i, hi⟩ := List.mem_iff_getElem?.1 hr'
    have hil : i < m.length := by have := (List.getElem?_eq_some_iff.1 hi).1; simpa [copyP] using this
    have hir : i < right.length := by omega
    simp only [copyP, List.getElem?_mapIdx, List.getElem?_eq_getElem hil, Option.map_some, List.getElem?_eq_getElem hir, Option.toList_some, Option.some.injEq] at hi
    exact ⟨m[i], List.getElem_mem hil, right[i], List.getElem_mem hir, hi.symm⟩
  refine ⟨by simp [copyP]; omega, fun r hr' => ?_, by omega, fun r hr' j hj => ?_, fun r hr' j => ?_⟩
  · obtain ⟨s, hs, v, _, rfl⟩ := mem r hr'
    simp [(h3 s hs).1]
  · obtain ⟨s, hs, v, _, rfl⟩ := mem r hr'
    have : Lin.at_ (s ++ [v]) j = Lin.at_ s j := by
      unfold Lin.at_
      rw [List.getElem?_append_left (by rw [(h3 s hs).1]; exact hj)]
    rw [this]
    exact at_bound (by decide) (h3 s hs).2 j
  · obtain ⟨s, hs, v, hv', rfl⟩ := mem r hr'
    refine at_bound (by decide) (fun x hx => ?_) j
    rcases List.mem_append.1 hx with h | h
    · have := (h3 s hs).2 x h; omega
    · simp only [List.mem_singleton] at h; subst h; exact hb x hv'
def solF (f : Frm) (n : Nat) : List (Int × Int) × Int :=
  if (f.rows.drop f.pivots.length).any (fun r => Lin.at_ r n != 0) then ([], 22) else if f.pivots.length < n then ([], 21) else ((List.range n).map fun k => (makeP (Lin.at_ (Lin.row f.rows k) n) f.den).1, 0)
def solveP (m : List (List Int)) (right : List Int) : List (Int × Int) × Int :=
  if validP m = true then (if right.length = m.length then (if withinP right 67108864 = true then solF (elim (copyP m right) (wid m)) (wid m) else ([], 2)) else ([], 3)) else ([], 1)
abbrev fse (x : List (Int × Int) × Int) : D := .tup [frs x.1, int x.2]
structure SB where
  k : Nat
  R : Hp
  cells : List D
  ga : Nat
  t : Nat
def SB.st (m : List (List Int)) (right : List Int) (n : Nat) (x : SB) : St := ⟨[(0, mat m), (1, ints right), (6, int n), (7, .own 1 0 x.ga 0 x.k), (35, mat m), (36, int m.length), (37, int x.k)], some ⟨101, x.ga, x.cells⟩ :: x.R, x.t⟩
theorem SB.st_mk (m : List (List Int)) (right : List Int) (n k : Nat) (R : Hp) (cells : List D) (ga t : Nat) : SB.st m right n ⟨k, R, cells, ga, t⟩ = ⟨[(0, mat m), (1, ints right), (6, int n), (7, .own 1 0 ga 0 k), (35, mat m), (36, int m.length), (37, int k)], some ⟨101, ga, cells⟩ :: R, t⟩ := rfl
end Go.Proofs.YtcppnmohgaobdaaGreat.T

