import Derived.Test.YtpcakodemleoiaaWN
import Derived.Test.YtpcakodemleoiaaWX
import Derived.Test.YtpcakodemleoiaaRSKM
set_option linter.all false
namespace Go.Proofs.Ytpcakodemleoiaa.T
open Go Go.RowKit Lin
set_option linter.unusedSimpArgs false

/-! The pulls, a row for each rope. -/
def trS (s : Sy) : List (List Int) := turnP (matS s) s.rs.length
theorem col_push {cells : List D} {n k : Nat} (hc : cells.length = k) (hk : k < n) (c d : D) : (cells ++ c :: List.replicate (n - (k + 1)) nilI).set k d = cells ++ d :: List.replicate (n - (k + 1)) nilI := by
  rw [List.set_append_right _ _ (by omega), hc, Nat.sub_self, List.set_cons_zero]
theorem col_get {cells : List D} {n k : Nat} (hc : cells.length = k) (c : D) : (cells ++ c :: List.replicate (n - (k + 1)) nilI)[k]? = some c := by
  rw [List.getElem?_append_right (by omega), hc, Nat.sub_self, List.getElem?_cons_zero]
theorem col_nil {cells : List D} {n k : Nat} (hk : k < n) : cells ++ List.replicate (n - k) nilI = cells ++ nilI :: List.replicate (n - (k + 1)) nilI := by
  rw [show n - k = (n - (k + 1)) + 1 by omega, List.replicate_succ]
theorem fz_nils (b g : Nat) (cs : List D) : ∀ k, fzL b g cs (List.replicate k nilI) = List.replicate k nilI
  | 0 => rfl
  | k + 1 => by simp only [List.replicate_succ, fzL, fz, fz_nils b g cs k]
theorem fzL_app (b g : Nat) (cs : List D) : ∀ x y : List D, fzL b g cs (x ++ y) = fzL b g cs x ++ fzL b g cs y
  | [], y => rfl
  | d :: x, y => by simp only [List.cons_append, fzL, fzL_app b g cs x y]
theorem OkS.tr_len {s : Sy} (_ok : OkS s) : (trS s).length = s.rs.length := turnP_len _ _
theorem OkS.tr_valid {s : Sy} (ok : OkS s) : validP (trS s) = true ∧ wid (trS s) = s.bs.length := by
  obtain ⟨m1, m2, m3⟩ := validP_iff.1 ok.mat_valid
  have ml := ok.mat_len
  have mw := ok.mat_wid
  have b1 := ok.b1
  have b6 := ok.b6
  have r1 := ok.r1
  have r6 := ok.r6
  have hrow : ∀ r ∈ trS s, r.length = s.bs.length ∧ ∀ x ∈ r, -32 ≤ x ∧ x ≤ 32 := fun r hr => by
    obtain ⟨j, hj, rfl⟩ := List.mem_map.1 hr
    refine ⟨by simp [colP, ml], fun x hx => ?_⟩
    obtain ⟨q, hq, rfl⟩ := List.mem_map.1 hx
    exact at_bound (by decide) (m3 q hq).2 j
  have hl := ok.tr_len
  have hw : wid (trS s) = s.bs.length := by
    obtain ⟨r, rs, e⟩ : ∃ r rs, trS s = r :: rs := by
      cases hr : trS s with
      | nil => rw [hr] at hl; simp at hl; omega
      | cons a b => exact ⟨a, b, rfl⟩
    unfold wid
    rw [e, List.headD_cons]
    exact (hrow r (by rw [e]; simp)).1
  exact ⟨validP_iff.2 ⟨by omega, by omega, fun r hr => ⟨by rw [hw]; exact (hrow r hr).1, (hrow r hr).2⟩⟩, hw⟩
theorem OkS.tr_fit {s : Sy} (ok : OkS s) : (trS s).length ≤ 1000000 ∧ (∀ r ∈ trS s, r.length ≤ 1000000) := by
  obtain ⟨h1, h2⟩ := ok.tr_valid
  obtain ⟨m1, m2, m3⟩ := validP_iff.1 h1
  exact ⟨by omega, fun r hr => by rw [(m3 r hr).1]; omega⟩
theorem tidy_frss (l : List (List (Int × Int))) : tidyL (l.map frs) = true := tidyL_all fun d hd => by
  obtain ⟨x, _, rfl⟩ := List.mem_map.1 hd
  simp only [tidyD, tidy_fr, Bool.not_false, Bool.and_self]
end Go.Proofs.Ytpcakodemleoiaa.T

