import Derived.Test.YtpcakodemleoiaaGreatHWN
import Derived.Test.YtpcakodemleoiaaGreatHWX
import Derived.Test.YtpcakodemleoiaaGreatHSKM
set_option linter.all false
namespace Go.Proofs.YtpcakodemleoiaaGreat.T
open Go Go.RowKit Lin
def trS (s : Sy) : List (List Int) := turnP (matS s) s.rs.length
theorem OkS.tr_len {s : Sy} (_ok : OkS s) : (trS s).length = s.rs.length := turnP_len _ _
theorem OkS.tr_valid {s : Sy} (ok : OkS s) : Y12 (trS s) = true ∧ wid (trS s) = s.bs.length := by
 obtain ⟨m1, m2, m3⟩ := Y0y.1 ok.mat_valid
 have ml := ok.mat_len
 have mw := ok.mat_wid
 have b1 := ok.b1
 have b6 := ok.b6
 have r1 := ok.r1
 have r6 := ok.r6
 have hrow : ∀ r ∈ trS s, r.length = s.bs.length ∧ ∀ x ∈ r, -32 ≤ x ∧ x ≤ 32 := fun r hr => by
  obtain ⟨j, hj, rfl⟩ := List.mem_map.1 hr
  refine ⟨by simp [colP, ml], fun x hx => ?_⟩
  obtain ⟨q, hq, rfl⟩ := List.mem_map.1 hx
  exact Y61 (by decide) (m3 q hq).2 j
 have hl := ok.tr_len
 have hw : wid (trS s) = s.bs.length := by
  obtain ⟨r, rs, e⟩ : ∃ r rs, trS s = r :: rs := by
   cases hr : trS s with
   | nil => rw [hr] at hl; simp at hl; omega
   | cons a b => exact ⟨a, b, rfl⟩
  unfold wid
  rw [e, List.headD_cons]
  exact (hrow r (by rw [e]; simp)).1
 exact ⟨Y0y.2 ⟨by omega, by omega, fun r hr => ⟨by rw [hw]; exact (hrow r hr).1, (hrow r hr).2⟩⟩, hw⟩
theorem Y58 (l : List (List (Int × Int))) : tidyL (l.map frs) = true := Y2n fun d hd => by
 obtain ⟨x, _, rfl⟩ := List.mem_map.1 hd
 simp only [tidyD, Y7f, Bool.not_false, Bool.and_self]
end Go.Proofs.YtpcakodemleoiaaGreat.T

