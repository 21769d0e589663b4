import Derived.Test.YtjjpjgnoanfaoaaMGI
set_option linter.all false

section
namespace Go.Proofs.Ytjjpjgnoanfaoaa.T
open Go Go.RowKit Lin
theorem virtual (F : Nat → Nat → Int) {nb nr : Nat} {w h X Y : Nat → Int} {D E : Int} (h1 : ∀ i, i < nb → sumN (fun k => F i k * Y k) nr = E * w i) (h2 : ∀ k, k < nr → sumN (fun i => F i k * X i) nb = D * h k) :
    sumN (fun i => w i * X i) nb * E = sumN (fun k => h k * Y k) nr * D := by
  have a : sumN (fun i => w i * X i) nb * E = sumN (fun i => sumN (fun k => F i k * Y k * X i) nr) nb := by
    rw [Int.mul_comm, ← sumN_mul]
    refine sumN_congr nb fun i hi => ?_
    rw [← Int.mul_assoc, ← h1 i hi, Int.mul_comm, ← sumN_mul]
    exact sumN_congr nr fun k _ => Int.mul_comm _ _
  have b : sumN (fun k => h k * Y k) nr * D = sumN (fun k => sumN (fun i => F i k * Y k * X i) nb) nr := by
    rw [Int.mul_comm, ← sumN_mul]
    refine sumN_congr nr fun k hk => ?_
    rw [← Int.mul_assoc, ← h2 k hk, Int.mul_comm, ← sumN_mul]
    exact sumN_congr nb fun i _ => by ac_rfl
  rw [a, b, sumN_swap (fun i k => F k i * Y i * X k)]
theorem at_wts {s : Sy} {i : Nat} {b : Bk} (h : s.bs[i]? = some b) : Lin.at_ (wtsS s) i = b.w := by simp [Lin.at_, wtsS, h]
theorem OkS.virtual {s : Sy} (ok : OkS s) {h : List Int} (hl : h.length = s.rs.length) {X Y : Nat → Int} {D E : Int} (h1 : SolQ (matS s) (wtsS s) Y E) (h2 : SolQ (trS s) h X D) :
    sumN (fun i => Lin.at_ (wtsS s) i * X i) s.bs.length * E = sumN (fun k => Lin.at_ h k * Y k) s.rs.length * D := by
  have ml := ok.mat_len
  have mw := ok.mat_wid
  have wl := ok.len
  obtain ⟨tv, tw⟩ := ok.tr_valid
  refine T.virtual (fun i k => Lin.at_ (Lin.row (matS s) i) k) (fun i hi => ?_) fun k hk => ?_
  · have hr : (matS s)[i]? = some (Lin.row (matS s) i) := by
      rw [Lin.row_get (by omega)]
      exact List.getElem?_eq_getElem (by omega)
    have hb : (wtsS s)[i]? = some (Lin.at_ (wtsS s) i) := by
      unfold Lin.at_
      rw [List.getElem?_eq_getElem (show i < (wtsS s).length by omega)]
      rfl
    have := h1 i _ _ hr hb
    rwa [mw] at this
  · have hr : (trS s)[k]? = some (colP (matS s) k) := by
      unfold trS turnP
      rw [List.getElem?_map, List.getElem?_range hk]
      rfl
    have hb : h[k]? = some (Lin.at_ h k) := by
      unfold Lin.at_
      rw [List.getElem?_eq_getElem (show k < h.length by omega)]
      rfl
    have := h2 k _ _ hr hb
    rw [tw] at this
    rw [← this]
    exact sumN_congr _ fun i _ => by rw [at_colP]
/-- One product more. -/
theorem work_step {c f : Int × Int} {n D : Int} {F G : Nat → Int} {k : Nat} (hn : -1152921504606846976 ≤ n ∧ n ≤ 1152921504606846976) (hg : F k = n) (hc : Val c (sumN (fun i => F i * G i) k) D) (hf : Val f (G k) D) (h1 : (mulP f (n, 1)).2 = 0) (h2 : (addP c (mulP f (n, 1)).1).2 = 0) : Val (addP c (mulP f (n, 1)).1).1 (sumN (fun i => F i * G i) (k + 1)) D := by
  have h1n := Val.one hn
  rw [mulP_ok hf.v h1n.v] at h1 h2 ⊢
  have hm := hf.mul h1n h1
  generalize (mulR f (n, 1)).1 = y at *
  rw [addP_ok hc.v hm.v] at h2 ⊢
  refine (hc.add hm h2).to hf.n0 ?_
  simp only [sumN, hg]
  grind
end Go.Proofs.Ytjjpjgnoanfaoaa.T
end
