import Derived.Test.YtjjpjgnoanfaoaaFW
import Derived.Test.YtjjpjgnoanfaoaaSG
set_option linter.all false
namespace Go.Proofs.Ytjjpjgnoanfaoaa.T
open Go Go.RowKit Lin
set_option linter.unusedSimpArgs false

/-! Copies of a system whose blocks, or ropes, are the caller's own. -/
theorem cellsC_bk (l : List Bk) : (bkC l).all isCell = true := by
  induction l with
  | nil => rfl
  | cons x r ih => simp only [bkC, List.flatMap_cons, List.all_append, Bool.and_eq_true] at ih ⊢; exact ⟨rfl, ih⟩
theorem cellsC_hd (l : List Hd) : (hdC l).all isCell = true := by
  induction l with
  | nil => rfl
  | cons x r ih => simp only [hdC, List.flatMap_cons, List.all_append, Bool.and_eq_true] at ih ⊢; exact ⟨rfl, ih⟩
set_option maxHeartbeats 4000000 in
theorem copyR (s : Sy) (ok : OkS s) : PFreshX Try.prog 34 [syD s] 61 3 s.rs.length (rpC s.rs) (fun o => .agg [bks s.bs, o]) := by
  refine PFreshX.intro (tup := false) (pre := [bks s.bs]) (post := []) (plain_rp _) (by simp only [plainL, plainD, plain_bk, Bool.and_self]) rfl fun t => ACall.enter tab_ok Try.func34 rfl rfl Try.ntmps34 (by simp) ?_
  simp only [enterTM]
  have hdr := rpC_div s.rs
  have hdb := bkC_div s.bs
  have hlb := bkC_len s.bs
  have b1 := ok.b1
  have b6 := ok.b6
  have r6 := ok.r6
  have hcb := cellsC_bk s.bs
  have hnb : (bkC s.bs = []) = False := by
    simp only [eq_iff_iff, iff_false]
    intro e
    rw [e] at hlb
    simp at hlb
    omega
  ((refine wqa ?_))
  ((refine wqb (F := _∧_∧_) ⟨hcb, hnb, hdb⟩ ?_))
  have hfb : List.take (s.bs.length * 2) (bkC s.bs) = bkC s.bs := List.take_of_length_le (by omega)
  ((refine AW.freeze (2) (by first | rfl | (simp only [setH, List.getElem?_cons_zero, List.getElem?_cons_succ, fz_bk, fz_rp, hfb, hlb, Nat.le_refl]; done)) ?_); simp (disch := omega) only [fzT, fz, fzL, fzL_ints, fzL_mat, fzH, fzB, eq_self, bb, bt, zDs, zD, eqCells, simprocAttr, fz_bk, fz_rp, hfb, hlb, Nat.le_refl])
  ((refine wqa ?_))
  refine AW.begin_cell 3 1 3 61 rfl rfl (by decide) ?_
  simp only [List.set_cons_succ, List.set_cons_zero, List.length_cons, List.length_nil, List.cons_append, List.nil_append, Nat.zero_add, Nat.reduceAdd]
  have hz1 : rpC [] = [] := rfl
  refine AW_mid (fun x : Nat × Nat => ⟨[(2, .ptr 1 (t + 1 + 1) 0), (3, .ptr 3 (t + 1 + 1 + 1 + 1) 0)], [none, some ⟨49, t + 1 + 1, [.sl 2 [] true, .sl 3 [] true]⟩, none, some ⟨49, t + 1 + 1 + 1 + 1, [bks s.bs, .own 3 4 x.1 0 s.rs.length]⟩, some ⟨61, x.1, rpC s.rs⟩], x.2⟩) (fun _ => True) ?_ ?_
  · refine AW_block ?_
    refine AW_loop_w (fun x : Nat × Nat × Nat => ⟨[(1, .ptr 0 (t + 1) 0), (2, .ptr 1 (t + 1 + 1) 0), (3, .ptr 3 (t + 1 + 1 + 1 + 1) 0), (4, int x.1)], [some ⟨49, t + 1, [bks s.bs, rps s.rs]⟩, some ⟨49, t + 1 + 1, [.sl 2 [] true, .sl 3 [] true]⟩, none, some ⟨49, t + 1 + 1 + 1 + 1, [bks s.bs, .own 3 4 x.2.1 0 x.1]⟩, some ⟨61, x.2.1, rpC (s.rs.take x.1)⟩], x.2.2⟩) (fun x => s.rs.length - x.1) (fun x => x.1 ≤ s.rs.length) (0, t + 1 + 1 + 1 + 1 + 1, t + 1 + 1 + 1 + 1 + 1) (Nat.zero_le _) (by (simp (disch := omega) only [StLe, tmLe, hpLe_refl, hpLe, bl, bb, bt, zDs, zD, eqCells, simprocAttr, List.take_zero, hz1])) ?_
    rintro ⟨k, g, tt⟩ hk
    simp only at hk
    by_cases hlt : k < s.rs.length
    · obtain ⟨r, hr⟩ : ∃ y, s.rs[k]? = some y := ⟨_, List.getElem?_eq_getElem hlt⟩
      have hra := rpC_read s.rs k r hr
      obtain ⟨ho1, ho2, _⟩ := ok.holds r (List.mem_of_getElem? hr)
      have hch := cellsC_hd r.hs
      have hlh := hdC_len r.hs
      have hdh := hdC_div r.hs
      have hnh : (hdC r.hs = []) = False := by
        simp only [eq_iff_iff, iff_false]
        intro e
        rw [e] at hlh
        simp at hlh
        omega
      have htk : s.rs.take (k + 1) = s.rs.take k ++ [r] := by rw [List.take_add_one, hr]; rfl
      have htl : (s.rs.take k).length = k := by simp; omega
      have hel := rpC_len (s.rs.take k)
      rw [htl] at hel
      have happ := rpC_app (s.rs.take k) r
      generalize s.rs.take k = E at *
      ((refine ggb0 (F := _∧_∧_) ⟨@Int.ofNat_lt, hlt, hdr⟩ ?_))
      ((repeat refine AW_seq ?_))
      refine AW_block ?_
      ((refine wqb (F := _∧_∧_) ⟨hlt, hdr, hra⟩ ?_))
      ((refine wqb (F := _∧_∧_) ⟨hch, hnh, hdh⟩ ?_))
      have hfh : List.take (r.hs.length * 4) (hdC r.hs) = hdC r.hs := List.take_of_length_le (by omega)
      ((refine AW.freeze (6) (by first | rfl | (simp only [setH, List.getElem?_cons_zero, List.getElem?_cons_succ, fz_bk, fz_rp, fz_hd, hfh, hlh, Nat.le_refl]; done)) ?_); simp (disch := omega) only [fzT, fz, fzL, fzL_ints, fzL_mat, fzH, fzB, eq_self, bb, bt, zDs, zD, eqCells, simprocAttr, fz_bk, fz_rp, fz_hd, hfh, hlh, Nat.le_refl])
      ((refine ggb0 hel ?_))
      refine ⟨(k + 1, tt + 1 + 1 + 1, tt + 1 + 1 + 1), hlt, by show s.rs.length - (k + 1) < s.rs.length - k; omega, ?_⟩
      simp only [htk, happ]
      (simp (disch := omega) only [StLe, tmLe, hpLe_refl, hpLe, bl, bb, bt, zDs, zD, eqCells, simprocAttr])
    · have hke : k = s.rs.length := by omega
      subst hke
      rw [List.take_length]
      ((refine wqb (F := _∧_) ⟨@Int.lt_irrefl, hdr⟩ ?_))
      ((refine wia ?_))
      ((refine wxa ?_))
      exact ⟨(g, tt), trivial, by (simp (disch := omega) only [StLe, tmLe, hpLe_refl, hpLe, bl, bb, bt, zDs, zD, eqCells, simprocAttr])⟩
  rintro ⟨g, tt⟩ -
  have hel := rpC_len s.rs
  have hfin : List.take (s.rs.length * 3) (rpC s.rs) = rpC s.rs := List.take_of_length_le (by omega)
  skip
  ((refine gga0 ?_))
  ((repeat refine AW_seq ?_); (refine wta ?_); simp (disch := omega) only [retQ, resD, oneD, bb, bt, zDs, zD, eqCells, simprocAttr, Try.results34])
  exact ⟨4, g, rfl, rfl⟩
/-! Weights changed one after the other. -/
end Go.Proofs.Ytjjpjgnoanfaoaa.T

