import Derived.Test.YthabldkbiedfmaaSG
set_option linter.all false
namespace Go.Proofs.Ythabldkbiedfmaa.T
open Go Go.RowKit Lin
set_option linter.unusedSimpArgs false

/-! The matrix and the weights: the walks. -/
theorem wts_take {s : Sy} {k : Nat} {b : Bk} (h : s.bs[k]? = some b) : (wtsS s).take (k + 1) = (wtsS s).take k ++ [b.w] := by
  rw [List.take_add_one]; simp [wtsS, h]
theorem pull_ref (r : Rp) (nm : ByteArray) (hl : r.hs.length ≤ 1000000) (hb : ∀ h ∈ r.hs, -2 ≤ h.p ∧ h.p ≤ 2) : PRet Try.prog 46 [.agg (rp1 r), str nm] (int (pull nm r.hs)) := by
  refine PRet.intro 1 fun t => ACall.enter tab_ok Try.func46 rfl rfl Try.ntmps46 (by simp) ?_
  simp only [enterTM]
  have hla := hdC_len r.hs
  have ha2 := hdC_div r.hs
  ((refine gga0 ?_))
  ((repeat refine AW_seq ?_))
  refine AW_block ?_
  refine AW_loop_w (fun k : Nat => ⟨[(1, str nm), (2, .ptr 0 (t + 1) 0), (5, int (pull nm (r.hs.take k))), (6, int k)], [some ⟨49, t + 1, rp1 r⟩], t + 1⟩) (fun k => r.hs.length - k) (fun k => k ≤ r.hs.length) 0 (Nat.zero_le _) (by (simp (disch := omega) only [StLe, tmLe, hpLe_refl, hpLe, bl, bb, bt, zDs, zD, eqCells, simprocAttr, List.take_zero, pull])) fun k hk => ?_
  by_cases hlt : k < r.hs.length
  · obtain ⟨x, hx⟩ : ∃ x, r.hs[k]? = some x := ⟨_, List.getElem?_eq_getElem hlt⟩
    have hst := pull_step (nm := nm) hx
    have hxb := hb x (List.mem_of_getElem? hx)
    have hpb := pull_bound (nm := nm) (hs := r.hs.take k) fun h hh => hb h (List.mem_of_mem_take hh)
    rw [List.length_take] at hpb
    have hnm := hdC_name r.hs k x hx
    have hp := hdC_cell r.hs k x hx 1 (by decide)
    have hp : (hdC r.hs)[k * 4 + 1]? = some (int x.p) := hp
    ((refine ggb0 (F := _∧_∧_) ⟨@Int.ofNat_lt, hlt, ha2⟩ ?_))
    ((repeat refine AW_seq ?_))
    refine AW_block ?_
    by_cases hpx : x.b = nm
    · rw [if_pos hpx] at hst
      ((refine ggb0 (F := _∧_∧_∧_∧_) ⟨ha2, hlt, hnm, hpx, hp⟩ ?_))
      refine ⟨k + 1, hlt, by omega, ?_⟩
      simp only [hst]
      (simp (disch := omega) only [StLe, tmLe, hpLe_refl, hpLe, bl, bb, bt, zDs, zD, eqCells, simprocAttr])
    · rw [if_neg hpx, Int.add_zero] at hst
      ((refine ggb0 (F := _∧_∧_∧_) ⟨ha2, hlt, hnm, hpx⟩ ?_))
      refine ⟨k + 1, hlt, by omega, ?_⟩
      simp only [hst]
      (simp (disch := omega) only [StLe, tmLe, hpLe_refl, hpLe, bl, bb, bt, zDs, zD, eqCells, simprocAttr])
  · have hke : k = r.hs.length := by omega
    subst hke
    rw [List.take_length]
    ((refine ggb0 (F := _∧_) ⟨@Int.lt_irrefl, ha2⟩ ?_))
    ((repeat refine AW_seq ?_); (refine wta ?_); simp (disch := omega) only [retQ, resD, oneD, rsv, rs, rsL, rsL_eq_map, List.map_map, bb, bt, zDs, zD, eqCells, simprocAttr, Try.results46])
theorem weights_ref (s : Sy) (hl : s.bs.length ≤ 1000000) : PRet Try.prog 116 [syD s] (ints (wtsS s)) := by
  refine PRet.intro 1 fun t => ACall.enter tab_ok Try.func116 rfl rfl Try.ntmps116 (by simp) ?_
  simp only [enterTM]
  have hla := bkC_len s.bs
  have ha2 := bkC_div s.bs
  have hwl : (wtsS s).length = s.bs.length := by simp [wtsS]
  ((refine wqa ?_))
  ((refine wqa ?_))
  ((refine wqa ?_))
  ((repeat refine AW_seq ?_))
  refine AW.begin 3 1 3 rfl (by decide) ?_
  simp only [putTM, List.length_cons, List.length_nil, Nat.reduceEqDiff, ↓reduceIte, List.cons_append, List.nil_append]
  refine AW_mid (fun x : Nat × Nat => ⟨[(3, .own 1 1 x.1 0 s.bs.length)], [none, some ⟨3, x.1, (wtsS s).map int⟩], x.2⟩) (fun _ => True) ?_ ?_
  · refine AW_block ?_
    refine AW_loop_w (fun x : Nat × Nat × Nat => ⟨[(1, .ptr 0 (t + 1) 0), (3, .own 1 1 x.2.1 0 x.1), (4, int x.1)], [some ⟨25, t + 1, [bks s.bs, rps s.rs]⟩, some ⟨3, x.2.1, ((wtsS s).take x.1).map int⟩], x.2.2⟩) (fun x => s.bs.length - x.1) (fun x => x.1 ≤ s.bs.length) (0, t + 1 + 1, t + 1 + 1) (Nat.zero_le _) (by (simp (disch := omega) only [StLe, tmLe, hpLe_refl, hpLe, bl, bb, bt, zDs, zD, eqCells, simprocAttr])) ?_
    rintro ⟨k, g, tt⟩ hk
    simp only at hk
    by_cases hlt : k < s.bs.length
    · obtain ⟨b, hb⟩ : ∃ y, s.bs[k]? = some y := ⟨_, List.getElem?_eq_getElem hlt⟩
      have hw : (bkC s.bs)[k * 2 + 1]? = some (int b.w) := bkC_cell s.bs k b hb 1 (by decide)
      have hst := wts_take hb
      have hcl : ((wtsS s).take k).length = k := by rw [List.length_take]; omega
      ((refine ggb0 (F := _∧_∧_) ⟨@Int.ofNat_lt, hlt, ha2⟩ ?_))
      ((repeat refine AW_seq ?_))
      refine AW_block ?_
      ((refine ggb0 (F := _∧_∧_∧_) ⟨hlt, ha2, hw, hcl⟩ ?_))
      refine ⟨(k + 1, tt + 1, tt + 1), hlt, by show s.bs.length - (k + 1) < s.bs.length - k; omega, ?_⟩
      simp only [hst, List.map_append, List.map_cons, List.map_nil]
      (simp (disch := omega) only [StLe, tmLe, hpLe_refl, hpLe, bl, bb, bt, zDs, zD, eqCells, simprocAttr])
    · have hke : k = s.bs.length := by omega
      subst hke
      rw [List.take_of_length_le (by omega)]
      ((refine wqb (F := _∧_) ⟨@Int.lt_irrefl, ha2⟩ ?_))
      ((refine wia ?_))
      ((refine wxa ?_))
      exact ⟨(g, tt), trivial, by (simp (disch := omega) only [StLe, tmLe, hpLe_refl, hpLe, bl, bb, bt, zDs, zD, eqCells, simprocAttr])⟩
  rintro ⟨g, tt⟩ -
  have hfin : List.take s.bs.length ((wtsS s).map int) = (wtsS s).map int := List.take_of_length_le (by simp [wtsS])
  ((refine AW.freeze (1) (by first | rfl | (simp only [setH, List.getElem?_cons_zero, List.getElem?_cons_succ, hfin, hwl]; done)) ?_); simp (disch := omega) only [fzT, fz, fzL, fzL_ints, fzL_mat, fzH, fzB, eq_self, bb, bt, zDs, zD, eqCells, simprocAttr, hfin, hwl])
  ((refine gga0 ?_))
  ((repeat refine AW_seq ?_); (refine wta ?_); simp (disch := omega) only [retQ, resD, oneD, bb, bt, zDs, zD, eqCells, simprocAttr, Try.results116])
  exact rsv_tidy _ _ (by simp only [tidyD, tidy_ints, Bool.not_false, Bool.and_self])
set_option maxHeartbeats 1000000 in
theorem weights_prog (s : Sy) (hf : Fits s) : PRet Try.prog 111 [syD s] (.tup (if validS s = true then [ints (wtsS s), int 0] else [ints [], int 1])) := by
  refine PRet.intro 1 fun t => ACall.enter tab_ok Try.func111 rfl rfl Try.ntmps111 (by simp) ?_
  simp only [enterTM]
  have hla := bkC_len s.bs
  have ha2 := bkC_div s.bs
  have hwl : (wtsS s).length = s.bs.length := by simp [wtsS]
  have hnb := hf.nb
  have hV := valid_prog s hf
  cases hv : validS s
  · rw [hv] at hV
    ((refine gga1 hV ?_))
    ((repeat refine AW_seq ?_); (refine wta ?_); simp (disch := omega) only [retQ, resD, oneD, rsv, rs, rsL, rsL_eq_map, List.map_map, bb, bt, zDs, zD, eqCells, simprocAttr, Try.results111, Bool.false_eq_true, if_false])
    rfl
  rw [hv] at hV
  simp only [if_true]
  ((refine wqa ?_))
  ((repeat refine AW_seq ?_); (refine AW_region_k tab_ok fun KR hKR => ?_)); ((refine wra ?_)); ((refine wka1 hV ?_)); ((refine wra ?_)); ((refine wea ?_); (try clear hKR KR))
  ((refine wia ?_))
  ((refine wsa ?_))
  ((refine wqa ?_))
  ((refine wqb ha2 ?_))
  ((repeat refine AW_seq ?_))
  refine AW.begin 4 1 3 rfl (by decide) ?_
  simp only [putTM, List.length_cons, List.length_nil, Nat.reduceEqDiff, ↓reduceIte, List.cons_append, List.nil_append]
  refine AW_mid (fun x : Nat × Nat => ⟨[(4, .own 1 1 x.1 0 s.bs.length)], [none, some ⟨3, x.1, (wtsS s).map int⟩], x.2⟩) (fun _ => True) ?_ ?_
  · refine AW_block ?_
    refine AW_loop_w (fun x : Nat × Nat × Nat => ⟨[(1, .ptr 0 (t + 1) 0), (4, .own 1 1 x.2.1 0 x.1), (11, bks s.bs), (12, int s.bs.length), (13, int x.1)], [some ⟨25, t + 1, [bks s.bs, rps s.rs]⟩, some ⟨3, x.2.1, ((wtsS s).take x.1).map int⟩], x.2.2⟩) (fun x => s.bs.length - x.1) (fun x => x.1 ≤ s.bs.length) (0, t + 1 + 1, t + 1 + 1) (Nat.zero_le _) (by (simp (disch := omega) only [StLe, tmLe, hpLe_refl, hpLe, bl, bb, bt, zDs, zD, eqCells, simprocAttr])) ?_
    rintro ⟨k, g, tt⟩ hk
    simp only at hk
    by_cases hlt : k < s.bs.length
    · obtain ⟨b, hb⟩ : ∃ y, s.bs[k]? = some y := ⟨_, List.getElem?_eq_getElem hlt⟩
      have hra := bkC_read s.bs k b hb
      have hst := wts_take hb
      have hcl : ((wtsS s).take k).length = k := by rw [List.length_take]; omega
      ((refine ggb0 (F := _∧_∧_) ⟨@Int.ofNat_lt, hlt, ha2⟩ ?_))
      ((repeat refine AW_seq ?_))
      refine AW_block ?_
      ((refine ggb0 (F := _∧_∧_∧_) ⟨hlt, ha2, hra, hcl⟩ ?_))
      refine ⟨(k + 1, tt + 1 + 1, tt + 1 + 1), hlt, by show s.bs.length - (k + 1) < s.bs.length - k; omega, ?_⟩
      simp only [hst, List.map_append, List.map_cons, List.map_nil]
      (simp (disch := omega) only [StLe, tmLe, hpLe_refl, hpLe, bl, bb, bt, zDs, zD, eqCells, simprocAttr])
    · have hke : k = s.bs.length := by omega
      subst hke
      rw [List.take_of_length_le (by omega)]
      ((refine wqb (F := _∧_) ⟨@Int.lt_irrefl, ha2⟩ ?_))
      ((refine wia ?_))
      ((refine wxa ?_))
      exact ⟨(g, tt), trivial, by (simp (disch := omega) only [StLe, tmLe, hpLe_refl, hpLe, bl, bb, bt, zDs, zD, eqCells, simprocAttr])⟩
  rintro ⟨g, tt⟩ -
  have hfin : List.take s.bs.length ((wtsS s).map int) = (wtsS s).map int := List.take_of_length_le (by simp [wtsS])
  ((refine AW.freeze (1) (by first | rfl | (simp only [setH, List.getElem?_cons_zero, List.getElem?_cons_succ, hfin, hwl]; done)) ?_); simp (disch := omega) only [fzT, fz, fzL, fzL_ints, fzL_mat, fzH, fzB, eq_self, bb, bt, zDs, zD, eqCells, simprocAttr, hfin, hwl])
  ((refine gga0 ?_))
  ((repeat refine AW_seq ?_); (refine wta ?_); simp (disch := omega) only [retQ, resD, oneD, bb, bt, zDs, zD, eqCells, simprocAttr, Try.results111])
  exact rsv_tidy _ _ (by simp only [tidyD, tidyL, tidy_ints, Bool.not_false, Bool.and_self])
end Go.Proofs.Ythabldkbiedfmaa.T
