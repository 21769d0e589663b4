import Derived.Test.YtjmmenfbcbagoaaMQX
import Derived.Test.YtjmmenfbcbagoaaVS
set_option linter.all false
namespace Go.Proofs.Ytjmmenfbcbagoaa.T
open Go Go.RowKit Lin
theorem gdob_MRN {F P Q : Prop} (f : F) (q : Q) (h : F → Q → P := by
  intro ff  hq
  (try with_reducible intro KR hKR)
  (repeat refine AW_seq ?_); (repeat refine AW_seq ?_); (refine AW_drawn_k tab_ok follows_mixed 1 fun KR hKR => ?_); simp only [List.replicate_succ, List.replicate_zero, List.append_nil, List.nil_append, List.cons_append, List.length_cons, List.length_nil, Nat.reduceAdd]; (repeat' ((first | refine awD_n rfl fun KK hKK => ?_ | refine awD_g rfl rfl fun KK hKK => ?_ | refine awD_gc rfl fun KK hKK => ?_ | refine awD_nc fun KK hKK => ?_); simp (disch := omega) only [bb, bt, zDs, zD, eqCells, simprocAttr, ff, bne_self_eq_false, Int.reduceBNe, Int.reduceBEq, Bool.bne_false, Bool.bne_true, Bool.false_bne, Bool.true_bne]; refine hKK _ _ _ ?_; clear hKK KK)); (refine awD_nil ?_); simp only [List.reverse_cons, List.reverse_nil, List.nil_append, List.cons_append]; (refine hKR _ _ (by first | rfl | kernel_rfl) ?_); (try clear hKR KR); (repeat (with_reducible first | refine q1 ?_ | refine q2 ?_ | refine q3 ?_ | refine q4 ?_ | refine q5 ?_ | refine q6 ?_ | (refine q7 ?_ ?_; (focus (with_unfolding_all rfl)))))
  (first | exact hq | (revert hKR; revert KR; exact hq))) : P := h f  q
set_option linter.unusedSimpArgs false

/-! Chapter 16: a system without a rope. -/
theorem cellsW_bk (l : List Bk) : (bkC l).all isCell = true := by
  induction l with
  | nil => rfl
  | cons x r ih => simp only [bkC, List.flatMap_cons, List.all_append, Bool.and_eq_true] at ih ⊢; exact ⟨rfl, ih⟩
theorem cellsW_hd (l : List Hd) : (hdC l).all isCell = true := by
  induction l with
  | nil => rfl
  | cons x r ih => simp only [hdC, List.flatMap_cons, List.all_append, Bool.and_eq_true] at ih ⊢; exact ⟨rfl, ih⟩
theorem cloneBk (x : Bk) (r : List Bk) (hl : r.length ≤ 1000) : PRet Try.prog 69 [bks (x :: r)] (bks (x :: r)) := by
  refine PRet.intro 1 fun t => ACall.enter tab_ok Try.func69 rfl rfl Try.ntmps69 (by simp) ?_
  simp only [enterTM]
  have f2 : bkC (x :: r) = str x.nm :: int x.w :: bkC r := rfl
  have hcl := cellsW_bk r
  have hld := bkC_div (x :: r)
  have hll := bkC_len (x :: r)
  have hfz := fz_bk
  have htd := tidy_bk (x :: r)
  have f1 : bks (x :: r) = .sl 2 (str x.nm :: int x.w :: bkC r) false := rfl
  rw [f2] at hld hll htd
  rw [f1]
  simp only [List.length_cons] at hll hld
  ((refine wqa ?_))
  ((refine wqa ?_))
  ((refine wia ?_))
  ((refine wsa ?_))
  ((repeat refine AW_seq ?_); (refine AW_region_k tab_ok fun KR hKR => ?_); (repeat ((first | refine awOps_n rfl fun KK hKK => ?_ | refine awOps_g rfl rfl fun KK hKK => ?_ | refine awOps_gc rfl fun KK hKK => ?_); simp (disch := omega) only [bb, bt, zDs, zD, eqCells, simprocAttr, isSlice, hcl, hld]; refine hKK _ ?_; clear hKK KK)); (refine awOps_nil ?_); (refine hKR _ ?_); (try clear hKR KR); (repeat (with_reducible first | refine q1 ?_ | refine q2 ?_ | refine q3 ?_ | refine q4 ?_ | refine q5 ?_ | refine q6 ?_ | (refine q7 ?_ ?_; (focus (with_unfolding_all rfl))))))
  have hfin : List.take ((r.length + 1) * 2) (str x.nm :: int x.w :: bkC r) = str x.nm :: int x.w :: bkC r := List.take_of_length_le (by simp only [List.length_cons]; omega)
  ((refine AW.freeze (0) (by first | rfl | (simp only [setH, List.getElem?_cons_zero, List.getElem?_cons_succ, hfz, hfin, hll, Nat.le_refl]; done)) ?_); simp (disch := omega) only [fzT, fz, fzL, fzL_ints, fzL_mat, fzH, fzB, eq_self, bb, bt, zDs, zD, eqCells, simprocAttr, hfz, hfin, hll, Nat.le_refl])
  ((repeat refine AW_seq ?_); (refine wta ?_); simp (disch := omega) only [retQ, resD, oneD, bb, bt, zDs, zD, eqCells, simprocAttr, Try.results69])
  exact rsv_tidy _ _ (by simp only [tidyD, htd, Bool.not_false, Bool.and_self])
theorem cloneHd (x : Hd) (r : List Hd) (hl : r.length ≤ 1000) : PRet Try.prog 70 [hds (x :: r)] (hds (x :: r)) := by
  refine PRet.intro 1 fun t => ACall.enter tab_ok Try.func70 rfl rfl Try.ntmps70 (by simp) ?_
  simp only [enterTM]
  have f2 : hdC (x :: r) = str x.b :: int x.p :: int x.n :: int x.d :: hdC r := rfl
  have hcl := cellsW_hd r
  have hld := hdC_div (x :: r)
  have hll := hdC_len (x :: r)
  have hfz := fz_hd
  have htd := tidy_hd (x :: r)
  have f1 : hds (x :: r) = .sl 4 (str x.b :: int x.p :: int x.n :: int x.d :: hdC r) false := rfl
  rw [f2] at hld hll htd
  rw [f1]
  simp only [List.length_cons] at hll hld
  ((refine wqa ?_))
  ((refine wqa ?_))
  ((refine wia ?_))
  ((refine wsa ?_))
  ((repeat refine AW_seq ?_); (refine AW_region_k tab_ok fun KR hKR => ?_); (repeat ((first | refine awOps_n rfl fun KK hKK => ?_ | refine awOps_g rfl rfl fun KK hKK => ?_ | refine awOps_gc rfl fun KK hKK => ?_); simp (disch := omega) only [bb, bt, zDs, zD, eqCells, simprocAttr, isSlice, hcl, hld]; refine hKK _ ?_; clear hKK KK)); (refine awOps_nil ?_); (refine hKR _ ?_); (try clear hKR KR); (repeat (with_reducible first | refine q1 ?_ | refine q2 ?_ | refine q3 ?_ | refine q4 ?_ | refine q5 ?_ | refine q6 ?_ | (refine q7 ?_ ?_; (focus (with_unfolding_all rfl))))))
  have hfin : List.take ((r.length + 1) * 4) (str x.b :: int x.p :: int x.n :: int x.d :: hdC r) = str x.b :: int x.p :: int x.n :: int x.d :: hdC r := List.take_of_length_le (by simp only [List.length_cons]; omega)
  ((refine AW.freeze (0) (by first | rfl | (simp only [setH, List.getElem?_cons_zero, List.getElem?_cons_succ, hfz, hfin, hll, Nat.le_refl]; done)) ?_); simp (disch := omega) only [fzT, fz, fzL, fzL_ints, fzL_mat, fzH, fzB, eq_self, bb, bt, zDs, zD, eqCells, simprocAttr, hfz, hfin, hll, Nat.le_refl])
  ((repeat refine AW_seq ?_); (refine wta ?_); simp (disch := omega) only [retQ, resD, oneD, bb, bt, zDs, zD, eqCells, simprocAttr, Try.results70])
  exact rsv_tidy _ _ (by simp only [tidyD, htd, Bool.not_false, Bool.and_self])
def erR (rs : List Rp) (a k : Nat) : List Rp := (rs.take k).eraseIdx a
theorem erR_step {rs : List Rp} {a k : Nat} {r : Rp} (hr : rs[k]? = some r) : erR rs a (k + 1) = if k = a then erR rs a k else erR rs a k ++ [r] := by
  have hk := (List.getElem?_eq_some_iff.1 hr).1
  have hl : (rs.take k).length = k := by simp; omega
  unfold erR
  rw [List.take_add_one, hr, Option.toList_some]
  by_cases e : k = a
  · subst e
    have e1 : (rs.take k ++ [r]).eraseIdx k = rs.take k ++ [r].eraseIdx (k - (rs.take k).length) := List.eraseIdx_append_of_length_le (by omega) _
    rw [if_pos rfl, e1, hl, Nat.sub_self, List.eraseIdx_of_length_le (l := rs.take k) (by omega)]
    simp
  · rw [if_neg e]
    by_cases h : a < k
    · rw [List.eraseIdx_append_of_lt_length (by omega)]
    · have e1 : (rs.take k ++ [r]).eraseIdx a = rs.take k ++ [r].eraseIdx (a - (rs.take k).length) := List.eraseIdx_append_of_length_le (by omega) _
      rw [e1, List.eraseIdx_of_length_le (l := rs.take k) (by omega), List.eraseIdx_of_length_le (l := [r]) (by simp; omega)]
theorem erR_len (rs : List Rp) (a k : Nat) : (erR rs a k).length ≤ k := by
  have h1 := List.length_eraseIdx_le (rs.take k) a
  have h2 := List.length_take_le k rs
  unfold erR
  omega
theorem erR_end (rs : List Rp) (a : Nat) : erR rs a rs.length = rs.eraseIdx a := by simp [erR]
def outP (s : Sy) (nm : ByteArray) : Sy × Int := if (findM s nm).2 ≠ 0 then (⟨[], []⟩, (findM s nm).2) else if s.rs.length = 1 then (⟨[], []⟩, 14) else (⟨s.bs, s.rs.eraseIdx (findM s nm).1.toNat⟩, 0)
set_option maxHeartbeats 4000000 in
theorem without_prog (s : Sy) (hf : Fits s) (nm : ByteArray) : PRet Try.prog 28 [syD s, str nm] (.tup [syD (outP s nm).1, int (outP s nm).2]) := by
  refine PRet.intro 1 fun t => ACall.enter tab_ok Try.func28 rfl rfl Try.ntmps28 (by simp) ?_
  simp only [enterTM]
  have hF := find_mob s hf nm
  have hdr := rpC_div s.rs
  by_cases h0 : (findM s nm).2 = 0
  rotate_left 1
  · have h0' : ((findM s nm).2 != 0) = true := by simpa using h0
    have e : outP s nm = (⟨[], []⟩, (findM s nm).2) := by simp [outP, h0]
    generalize findM s nm = Z at *
    ((refine gga1 hF ?_))
    ((repeat refine AW_seq ?_))
    refine AW_mid (fun _ : Nat => ⟨[], [], 0⟩) (fun _ => False) ?_ (fun _ h => h.elim)
    refine AW_block ?_
    ((refine ggb0 h0' ?_))
    ((repeat refine AW_seq ?_); (refine wta ?_); simp (disch := omega) only [retQ, resD, oneD, rsv, rs, rsL, rsL_eq_map, List.map_map, bb, bt, zDs, zD, eqCells, simprocAttr, Try.results28, e])
    rfl
  obtain ⟨hv, i, r0, hZ, hri, hrn⟩ := findM_ok h0
  rw [hZ] at hF
  by_cases h1 : s.rs.length = 1
  · have e : outP s nm = (⟨[], []⟩, 14) := by simp [outP, h0, h1]
    have h1' : ((s.rs.length : Int) == 1) = true := by simp [h1]
    ((refine gga1 hF ?_))
    ((repeat refine AW_seq ?_))
    refine AW_mid (fun _ : Nat => ⟨[], [], 0⟩) (fun _ => False) ?_ (fun _ h => h.elim)
    refine AW_block ?_
    ((refine ggb0 (F := _∧_) ⟨hdr, h1'⟩ ?_))
    ((repeat refine AW_seq ?_); (refine wta ?_); simp (disch := omega) only [retQ, resD, oneD, rsv, rs, rsL, rsL_eq_map, List.map_map, bb, bt, zDs, zD, eqCells, simprocAttr, Try.results28, e])
    rfl
  have e : outP s nm = (⟨s.bs, s.rs.eraseIdx i⟩, 0) := by
    unfold outP
    rw [if_neg (by simpa using h0), if_neg h1, hZ, Int.toNat_natCast]
  have h1' : ((s.rs.length : Int) == 1) = false := by simpa using fun h : (s.rs.length : Int) = 1 => h1 (by omega)
  rw [e]
  clear e
  have ok := validS_ok hv
  have hb6 := ok.b6
  have hb1 := ok.b1
  have hr6 := ok.r6
  have hB : PRet Try.prog 69 [bks s.bs] (bks s.bs) := by
    cases hbs : s.bs with
    | nil => rw [hbs] at hb1; simp at hb1
    | cons x l => exact cloneBk x l (by rw [hbs] at hb6; simp at hb6; omega)
  ((refine gga1 hF ?_))
  ((repeat refine AW_seq ?_))
  refine AW_mid (fun x : Nat => ⟨[(2, .ptr 0 (t + 1) 0), (4, .ptr 1 (t + 1 + 1) 0), (6, int i)], [some ⟨25, t + 1, [bks s.bs, rps s.rs]⟩, some ⟨25, t + 1 + 1, [.sl 2 [] true, .sl 3 [] true]⟩], x⟩) (fun _ => True) ?_ ?_
  · refine AW_block ?_
    ((refine ggb0 (F := _∧_) ⟨hdr, h1'⟩ ?_))
    exact ⟨t + 1 + 1, trivial, by (simp (disch := omega) only [StLe, tmLe, hpLe_refl, hpLe, bl, bb, bt, zDs, zD, eqCells, simprocAttr])⟩
  rintro t0 -
  ((refine ggb1 hdr hB ?_))
  refine AW.begin_cell 2 1 3 39 rfl rfl (by decide) ?_
  simp only [List.set_cons_succ, List.set_cons_zero, List.length_cons, List.length_nil, List.cons_append, List.nil_append, Nat.zero_add, Nat.reduceAdd]
  have hz0 : erR s.rs i 0 = [] := by simp [erR]
  have hz1 : rpC [] = [] := rfl
  refine AW_mid (fun x : Nat × Nat => ⟨[(4, .ptr 1 (t + 1 + 1) 0), (8, .ptr 2 (t0 + 1) 0)], [none, some ⟨25, t + 1 + 1, [.sl 2 [] true, .sl 3 [] true]⟩, some ⟨25, t0 + 1, [bks s.bs, .own 3 3 x.1 0 (s.rs.eraseIdx i).length]⟩, some ⟨39, x.1, rpC (s.rs.eraseIdx i)⟩], x.2⟩) (fun _ => True) ?_ ?_
  · refine AW_block ?_
    refine AW_loop_w (fun x : Nat × Nat × Nat => ⟨[(2, .ptr 0 (t + 1) 0), (4, .ptr 1 (t + 1 + 1) 0), (6, int i), (8, .ptr 2 (t0 + 1) 0), (33, rps s.rs), (34, int s.rs.length), (35, int x.1)], [some ⟨25, t + 1, [bks s.bs, rps s.rs]⟩, some ⟨25, t + 1 + 1, [.sl 2 [] true, .sl 3 [] true]⟩, some ⟨25, t0 + 1, [bks s.bs, .own 3 3 x.2.1 0 (erR s.rs i x.1).length]⟩, some ⟨39, x.2.1, rpC (erR s.rs i x.1)⟩], x.2.2⟩) (fun x => s.rs.length - x.1) (fun x => x.1 ≤ s.rs.length) (0, t0 + 1 + 1, t0 + 1 + 1) (Nat.zero_le _) (by (simp (disch := omega) only [StLe, tmLe, hpLe_refl, hpLe, bl, bb, bt, zDs, zD, eqCells, simprocAttr, hz0, hz1, List.length_nil])) ?_
    rintro ⟨k, g, tt⟩ hk
    simp only at hk
    by_cases hlt : k < s.rs.length
    · obtain ⟨r, hr⟩ : ∃ y, s.rs[k]? = some y := ⟨_, List.getElem?_eq_getElem hlt⟩
      have hra := rpC_read s.rs k r hr
      have hst := erR_step (a := i) hr
      obtain ⟨ho1, ho2, _⟩ := ok.holds r (List.mem_of_getElem? hr)
      have hH : PRet Try.prog 70 [hds r.hs] (hds r.hs) := by
        cases hhs : r.hs with
        | nil => rw [hhs] at ho1; simp at ho1
        | cons x l => exact cloneHd x l (by rw [hhs] at ho2; simp at ho2; omega)
      have hel := rpC_len (erR s.rs i k)
      have hel2 := erR_len s.rs i k
      have happ := rpC_app (erR s.rs i k) r
      generalize erR s.rs i k = E at *
      ((refine ggb0 (F := _∧_) ⟨@Int.ofNat_lt, hlt⟩ ?_))
      ((repeat refine AW_seq ?_))
      refine AW_block ?_
      by_cases hki : k = i
      · have hki' : ((k : Int) != (i : Int)) = false := by simp [hki]
        rw [if_pos hki] at hst
        ((refine ggb0 (F := _∧_∧_∧_) ⟨hlt, hdr, hra, hki'⟩ ?_))
        refine ⟨(k + 1, g, tt + 1), hlt, by show s.rs.length - (k + 1) < s.rs.length - k; omega, ?_⟩
        simp only [hst]
        (simp (disch := omega) only [StLe, tmLe, hpLe_refl, hpLe, bl, bb, bt, zDs, zD, eqCells, simprocAttr])
      · have hki' : ((k : Int) != (i : Int)) = true := by simp; omega
        rw [if_neg hki] at hst
        ((refine ggb1 (F := _∧_∧_∧_∧_) ⟨hlt, hdr, hra, hki', hel⟩ hH ?_))
        refine ⟨(k + 1, tt + 1 + 1, tt + 1 + 1), hlt, by show s.rs.length - (k + 1) < s.rs.length - k; omega, ?_⟩
        simp only [hst, happ, List.length_append, List.length_cons, List.length_nil]
        (simp (disch := omega) only [StLe, tmLe, hpLe_refl, hpLe, bl, bb, bt, zDs, zD, eqCells, simprocAttr])
    · have hke : k = s.rs.length := by omega
      subst hke
      rw [erR_end]
      ((refine wqb @Int.lt_irrefl ?_))
      ((refine wia ?_))
      ((refine wxa ?_))
      exact ⟨(g, tt), trivial, by (simp (disch := omega) only [StLe, tmLe, hpLe_refl, hpLe, bl, bb, bt, zDs, zD, eqCells, simprocAttr])⟩
  rintro ⟨g, tt⟩ -
  generalize s.rs.eraseIdx i = E
  have hel := rpC_len E
  have hfin : List.take (E.length * 3) (rpC E) = rpC E := List.take_of_length_le (by omega)
  ((refine AW.freeze (3) (by first | rfl | (simp only [setH, List.getElem?_cons_zero, List.getElem?_cons_succ, fz_bk, fz_rp, hfin, hel, Nat.le_refl]; done)) ?_); simp (disch := omega) only [fzT, fz, fzL, fzL_ints, fzL_mat, fzH, fzB, eq_self, bb, bt, zDs, zD, eqCells, simprocAttr, fz_bk, fz_rp, hfin, hel, Nat.le_refl])
  ((refine gga0 ?_))
  ((repeat refine AW_seq ?_); (refine wta ?_); simp (disch := omega) only [retQ, resD, oneD, bb, bt, zDs, zD, eqCells, simprocAttr, Try.results28])
  exact rsv_tidy _ _ (by simp only [tidyD, tidyL, tidy_bk, tidy_rp, Bool.not_false, Bool.and_self])
set_option maxHeartbeats 4000000 in
theorem copySy (s : Sy) (ok : OkS s) : PRet Try.prog 12 [syD s] (syD s) := by
  refine PRet.intro 1 fun t => ACall.enter tab_ok Try.func12 rfl rfl Try.ntmps12 (by simp) ?_
  simp only [enterTM]
  have hdr := rpC_div s.rs
  have hdb := bkC_div s.bs
  have hlb := bkC_len s.bs
  have b1 := ok.b1
  have b6 := ok.b6
  have r6 := ok.r6
  have hcb := cellsW_bk s.bs
  have hnb : (bkC s.bs = []) = False := by
    simp only [eq_iff_iff, iff_false]
    intro e
    rw [e] at hlb
    simp at hlb
    omega
  ((refine wqa ?_))
  ((refine wqb (F := _∧_∧_) ⟨hcb, hnb, hdb⟩ ?_))
  have hfb : List.take (s.bs.length * 2) (bkC s.bs) = bkC s.bs := List.take_of_length_le (by omega)
  ((refine AW.freeze (2) (by first | rfl | (simp only [setH, List.getElem?_cons_zero, List.getElem?_cons_succ, fz_bk, fz_rp, hfb, hlb, Nat.le_refl]; done)) ?_); simp (disch := omega) only [fzT, fz, fzL, fzL_ints, fzL_mat, fzH, fzB, eq_self, bb, bt, zDs, zD, eqCells, simprocAttr, fz_bk, fz_rp, hfb, hlb, Nat.le_refl])
  ((refine wqa ?_))
  refine AW.begin_cell 3 1 3 39 rfl rfl (by decide) ?_
  simp only [List.set_cons_succ, List.set_cons_zero, List.length_cons, List.length_nil, List.cons_append, List.nil_append, Nat.zero_add, Nat.reduceAdd]
  have hz1 : rpC [] = [] := rfl
  refine AW_mid (fun x : Nat × Nat => ⟨[(2, .ptr 1 (t + 1 + 1) 0), (3, .ptr 3 (t + 1 + 1 + 1 + 1) 0)], [none, some ⟨25, t + 1 + 1, [.sl 2 [] true, .sl 3 [] true]⟩, none, some ⟨25, t + 1 + 1 + 1 + 1, [bks s.bs, .own 3 4 x.1 0 s.rs.length]⟩, some ⟨39, x.1, rpC s.rs⟩], x.2⟩) (fun _ => True) ?_ ?_
  · refine AW_block ?_
    refine AW_loop_w (fun x : Nat × Nat × Nat => ⟨[(1, .ptr 0 (t + 1) 0), (2, .ptr 1 (t + 1 + 1) 0), (3, .ptr 3 (t + 1 + 1 + 1 + 1) 0), (4, int x.1)], [some ⟨25, t + 1, [bks s.bs, rps s.rs]⟩, some ⟨25, t + 1 + 1, [.sl 2 [] true, .sl 3 [] true]⟩, none, some ⟨25, t + 1 + 1 + 1 + 1, [bks s.bs, .own 3 4 x.2.1 0 x.1]⟩, some ⟨39, x.2.1, rpC (s.rs.take x.1)⟩], x.2.2⟩) (fun x => s.rs.length - x.1) (fun x => x.1 ≤ s.rs.length) (0, t + 1 + 1 + 1 + 1 + 1, t + 1 + 1 + 1 + 1 + 1) (Nat.zero_le _) (by (simp (disch := omega) only [StLe, tmLe, hpLe_refl, hpLe, bl, bb, bt, zDs, zD, eqCells, simprocAttr, List.take_zero, hz1])) ?_
    rintro ⟨k, g, tt⟩ hk
    simp only at hk
    by_cases hlt : k < s.rs.length
    · obtain ⟨r, hr⟩ : ∃ y, s.rs[k]? = some y := ⟨_, List.getElem?_eq_getElem hlt⟩
      have hra := rpC_read s.rs k r hr
      obtain ⟨ho1, ho2, _⟩ := ok.holds r (List.mem_of_getElem? hr)
      have hch := cellsW_hd r.hs
      have hlh := hdC_len r.hs
      have hdh := hdC_div r.hs
      have hnh : (hdC r.hs = []) = False := by
        simp only [eq_iff_iff, iff_false]
        intro e
        rw [e] at hlh
        simp at hlh
        omega
      have htk : s.rs.take (k + 1) = s.rs.take k ++ [r] := by rw [List.take_add_one, hr]; rfl
      have htl : (s.rs.take k).length = k := by simp; omega
      have hel := rpC_len (s.rs.take k)
      rw [htl] at hel
      have happ := rpC_app (s.rs.take k) r
      generalize s.rs.take k = E at *
      ((refine ggb0 (F := _∧_∧_) ⟨@Int.ofNat_lt, hlt, hdr⟩ ?_))
      ((repeat refine AW_seq ?_))
      refine AW_block ?_
      ((refine wqb (F := _∧_∧_) ⟨hlt, hdr, hra⟩ ?_))
      ((refine wqb (F := _∧_∧_) ⟨hch, hnh, hdh⟩ ?_))
      have hfh : List.take (r.hs.length * 4) (hdC r.hs) = hdC r.hs := List.take_of_length_le (by omega)
      ((refine AW.freeze (6) (by first | rfl | (simp only [setH, List.getElem?_cons_zero, List.getElem?_cons_succ, fz_bk, fz_rp, fz_hd, hfh, hlh, Nat.le_refl]; done)) ?_); simp (disch := omega) only [fzT, fz, fzL, fzL_ints, fzL_mat, fzH, fzB, eq_self, bb, bt, zDs, zD, eqCells, simprocAttr, fz_bk, fz_rp, fz_hd, hfh, hlh, Nat.le_refl])
      ((refine ggb0 hel ?_))
      refine ⟨(k + 1, tt + 1 + 1 + 1, tt + 1 + 1 + 1), hlt, by show s.rs.length - (k + 1) < s.rs.length - k; omega, ?_⟩
      simp only [htk, happ]
      (simp (disch := omega) only [StLe, tmLe, hpLe_refl, hpLe, bl, bb, bt, zDs, zD, eqCells, simprocAttr])
    · have hke : k = s.rs.length := by omega
      subst hke
      rw [List.take_length]
      ((refine wqb (F := _∧_) ⟨@Int.lt_irrefl, hdr⟩ ?_))
      ((refine wia ?_))
      ((refine wxa ?_))
      exact ⟨(g, tt), trivial, by (simp (disch := omega) only [StLe, tmLe, hpLe_refl, hpLe, bl, bb, bt, zDs, zD, eqCells, simprocAttr])⟩
  rintro ⟨g, tt⟩ -
  have hel := rpC_len s.rs
  have hfin : List.take (s.rs.length * 3) (rpC s.rs) = rpC s.rs := List.take_of_length_le (by omega)
  ((refine AW.freeze (4) (by first | rfl | (simp only [setH, List.getElem?_cons_zero, List.getElem?_cons_succ, fz_bk, fz_rp, hfin, hel, Nat.le_refl]; done)) ?_); simp (disch := omega) only [fzT, fz, fzL, fzL_ints, fzL_mat, fzH, fzB, eq_self, bb, bt, zDs, zD, eqCells, simprocAttr, fz_bk, fz_rp, hfin, hel, Nat.le_refl])
  ((refine gga0 ?_))
  ((repeat refine AW_seq ?_); (refine wta ?_); simp (disch := omega) only [retQ, resD, oneD, bb, bt, zDs, zD, eqCells, simprocAttr, Try.results12])
  exact rsv_tidy _ _ (tidy_sy s)
/-! Chapter 16: what vanishes, and what depends on the set of the fixed ropes alone (plain). -/
theorem ex_sum (g : Nat → Int) (C : List Nat) (L : List Row) : ∀ n, sumN (fun j => w L (j :: C) * g j) n = ex (fun r rest => sumN (fun j => r j * g j) n * w rest C) L
  | 0 => by
    simp only [sumN, Int.zero_mul]
    exact ex_zero.symm
  | n + 1 => by
    simp only [sumN]
    rw [ex_sum g C L n, w_col, Int.mul_comm _ (g n), ← ex_mul, ← ex_add]
    exact ex_congr fun r rest => by grind
theorem ker_row {S : List Row} {C : List Nat} {n : Nat} {y : Row} {Z : Nat → Int} (hv : ∀ j, j < n → w (y :: S) (j :: C) = 0) (hs : ∀ s ∈ S, sumN (fun j => s j * Z j) n = 0) : sumN (fun j => y j * Z j) n * w S C = 0 := by
  have h := ex_sum Z C (y :: S) n
  rw [sumN_congr (G := fun _ => 0) n fun j hj => by rw [hv j hj, Int.zero_mul], sumN_zero] at h
  simp only [ex] at h
  have e : ex (fun r rest => sumN (fun j => r j * Z j) n * w (y :: rest) C) S = 0 := ex_zero_mem fun r rest hr => by rw [hs r hr, Int.zero_mul]
  omega
theorem ker_of_rank {A B : List (List Int)} {n r : Nat} (hA : IsRank (A.map at_) n r) (hB : IsRank (B.map at_) n r) (h : ∀ x ∈ A, x ∈ B) {Z : Nat → Int} (hZ : ∀ q ∈ A, sumN (fun k => at_ q k * Z k) n = 0) : ∀ q ∈ B, sumN (fun k => at_ q k * Z k) n = 0 := fun q hq => by
  obtain ⟨S, C, k1, k2, k3, k4, k5, _⟩ := hA
  have hS : ∀ s ∈ S, s ∈ B.map at_ := fun s hs => by
    obtain ⟨x, hx, rfl⟩ := List.mem_map.1 (k1 s hs)
    exact List.mem_map.2 ⟨x, h x hx, rfl⟩
  have hv : ∀ j, j < n → w (at_ q :: S) (j :: C) = 0 := fun j hj => van_of hB hS k2 k4 j hj (at_ q) (List.mem_map.2 ⟨q, hq, rfl⟩)
  have := ker_row (Z := Z) hv fun s hs => by
    obtain ⟨x, hx, rfl⟩ := List.mem_map.1 (k1 s hs)
    exact hZ x hx
  rcases Int.mul_eq_zero.1 this with e | e
  · exact e
  · exact absurd e k5
theorem nulls_has (f : Frm) (n : Nat) : ∀ c d, d < c → f.pivots.contains d = false → nvec f n d f.pivots.length ∈ nulls f n c
  | 0, d, h, _ => by omega
  | c + 1, d, h, hd => by
    simp only [nulls]
    by_cases e : d = c
    · subst e
      rw [hd]
      simp
    · have ih := nulls_has f n c d (by omega) hd
      split
      · exact ih
      · exact List.mem_append_left _ ih
theorem nX_at {f : Frm} (hnd : f.pivots.Pairwise (· < ·)) {c i p : Nat} (hp : f.pivots[i]? = some p) : ∀ k, i < k → k ≤ f.pivots.length → nX f c k p = -(at_ (Lin.row f.rows i) c)
  | 0, h, _ => by omega
  | k + 1, h, hk => by
    simp only [nX]
    by_cases e : i = k
    · subst e
      rw [hp, Option.getD_some, if_pos rfl]
    · rw [if_neg, nX_at hnd hp k (by omega) (by omega)]
      have hi := (List.getElem?_eq_some_iff.1 hp)
      obtain ⟨hil, hie⟩ := hi
      rw [List.getElem?_eq_getElem (show k < f.pivots.length by omega), Option.getD_some]
      have := List.pairwise_iff_getElem.1 hnd i k hil (by omega) (by omega)
      omega
/-- What is 0 in all null vectors is 0 in all that the rows send to 0. -/
theorem null_all_zero {m : List (List Int)} (hv : validP m = true) {k : Nat} (hk : k < wid m) (hz : ∀ v ∈ (nullP m).1, (v.getD k (0, 0)).1 = 0) {Z : Nat → Int} (hZ : Ker m Z) : Z k = 0 := by
  have hs := valid_small hv
  have iv := elim_inv (ups_mover m (wid m)) hs.lens (wid m) (Nat.le_refl _)
  rw [← elim_by] at iv
  have in2 := iv.small2 hs (Nat.le_refl _)
  have hd2 := iv.den_small2 hs (Nat.le_refl _)
  have e0 : (nullP m).1 = nulls (elim m (wid m)) (wid m) (wid m) := by unfold nullP; rw [if_pos hv]
  rw [e0] at hz
  generalize elim m (wid m) = f at *
  cases hc : f.pivots.contains k
  · have h1 := hz _ (nulls_has f (wid m) (wid m) k hk hc)
    rw [List.getD_eq_getElem?_getD, nvec_one iv hk hc f.pivots.length (Nat.le_refl _)] at h1
    simp at h1
  · obtain ⟨i, hi⟩ := List.mem_iff_getElem?.1 (List.contains_iff_mem.1 hc)
    obtain ⟨hil, hie⟩ := List.getElem?_eq_some_iff.1 hi
    have hCC : CC f = (f.pivots.drop (i + 1)).reverse ++ k :: (f.pivots.take i).reverse := by
      have e : f.pivots = f.pivots.take i ++ k :: f.pivots.drop (i + 1) := by
        conv => lhs; rw [← List.take_append_drop i f.pivots, List.drop_eq_getElem_cons hil, hie]
      unfold CC
      conv => lhs; rw [e]
      simp
    have hpost : (f.pivots.take i).reverse.length = i := by simp; omega
    have hpv := fun j (hj : j < wid m) => iv.piv _ _ k hCC j hj
    rw [hpost] at hpv
    have hSS : ∀ r ∈ SS m f, phi Z 0 (wid m) r = 0 := fun r hr => by
      obtain ⟨s, hs', rfl⟩ := SS_mem iv r hr
      unfold phi
      rw [hZ s hs']
      simp
    have h0 := phi_span (w_span_at (SS m f) (f.pivots.drop (i + 1)).reverse (f.pivots.take i).reverse) hSS
    unfold phi at h0
    simp only [Int.zero_mul, Int.sub_zero] at h0
    have hsum : sumN (fun j => w (SS m f) ((f.pivots.drop (i + 1)).reverse ++ j :: (f.pivots.take i).reverse) * Z j) (wid m) = Z k * f.den := by
      have e : ∀ j, j < wid m → w (SS m f) ((f.pivots.drop (i + 1)).reverse ++ j :: (f.pivots.take i).reverse) * Z j = Z j * (if j = k then f.den else 0) := fun j hj => by
        by_cases hjk : j = k
        · subst hjk
          rw [if_pos rfl, ← hCC, ← iv.den, Int.mul_comm]
        · rw [if_neg hjk, Int.mul_zero]
          cases hcj : f.pivots.contains j
          · rw [← hpv j hj]
            have ok : ∀ k c, k < f.pivots.length → c < wid m → (makeP (-(at_ (Lin.row f.rows k) c)) f.den).2 = 0 := fun k c hk hc => by
              have := in2 k c hk hc
              exact makeP_ok (by omega) hd2 iv.den0
            obtain ⟨q1', q2'⟩ := nvec_q iv ok hj f.pivots.length (Nat.le_refl _)
            have hvm := hz _ (nulls_has f (wid m) (wid m) j hj hcj)
            have hvl := nvec_len f (wid m) j f.pivots.length
            obtain ⟨p, hp⟩ : ∃ y, (nvec f (wid m) j f.pivots.length)[k]? = some y := ⟨_, List.getElem?_eq_getElem (by omega)⟩
            rw [List.getD_eq_getElem?_getD, hp, Option.getD_some] at hvm
            have h2 := q2' k p hp
            rw [hvm, Int.zero_mul, nX_at iv.nd hi _ hil (Nat.le_refl _)] at h2
            have hp2 := vfrac_ne (allV_at q1' hp)
            rcases Int.mul_eq_zero.1 h2.symm with h3 | h3
            · rw [show at_ (Lin.row f.rows i) j = 0 by omega, Int.zero_mul]
            · exact absurd h3 hp2
          · rw [piv_same (ci := k) (d := j) ?_ hjk, Int.zero_mul]
            rw [← hCC]
            unfold CC
            exact List.mem_reverse.2 (List.contains_iff_mem.1 hcj)
      rw [sumN_congr (wid m) e, sumN_one Z k f.den (wid m) hk]
    rw [hsum] at h0
    rcases Int.mul_eq_zero.1 h0 with e | e
    · exact e
    · exact absurd e iv.den0
/-- Which blocks move. -/
theorem moves_iff {s : Sy} (hv : validS s = true) {k : Nat} (hk : k < s.bs.length) : (modesP s).1.any (movB k) = true ↔ ∃ Z : Nat → Int, (∀ r ∈ rowsF s (fixA s), sumN (fun j => at_ r j * Z j) s.bs.length = 0) ∧ Z k ≠ 0 := by
  have ok := validS_ok hv
  obtain ⟨_, _, _, ml⟩ := modes_law hv
  obtain ⟨z1, _, _⟩ := modesP_facts s
  have hrl : ∀ r ∈ rowsF s (fixA s), r.length = s.bs.length := fun r hr => by
    obtain ⟨i, hi, rfl⟩ := List.mem_map.1 hr
    rw [trS_getD s (fixP_lt hi)]
    simp [colP, ok.mat_len]
  constructor
  · intro h
    obtain ⟨v, hvm, hm⟩ := List.any_eq_true.1 h
    obtain ⟨_, Z, D, hD, hK, hX⟩ := ml v hvm
    have hvl := z1 v hvm
    obtain ⟨f, hf⟩ : ∃ y, v[k]? = some y := ⟨_, List.getElem?_eq_getElem (by omega)⟩
    refine ⟨Z, fun r hr => by rw [← hrl r hr]; exact hK r hr, fun e => ?_⟩
    have hx := (hX k f hf).e
    rw [e, Int.zero_mul] at hx
    unfold movB at hm
    rw [List.getD_eq_getElem?_getD, hf, Option.getD_some] at hm
    rcases Int.mul_eq_zero.1 hx with h1 | h1
    · rw [h1] at hm; simp at hm
    · exact hD h1
  · rintro ⟨Z, hZ, hne⟩
    refine Classical.byContradiction fun hno => hne ?_
    have hall : ∀ v ∈ (modesP s).1, (v.getD k (0, 0)).1 = 0 := fun v hvm => by
      refine Classical.byContradiction fun hx => hno (List.any_eq_true.2 ⟨v, hvm, ?_⟩)
      unfold movB
      simpa using hx
    by_cases h0 : fixA s = []
    · have e : modesP s = (unitM s.bs.length, 0) := by simp [modesP, hv, h0]
      rw [e] at hall
      have := hall (unitR s.bs.length k) (List.mem_map.2 ⟨k, List.mem_range.2 hk, rfl⟩)
      unfold unitR at this
      rw [List.getD_eq_getElem?_getD, List.getElem?_map, List.getElem?_range hk] at this
      simp at this
    · obtain ⟨rv, rw', rm⟩ := rowsF_valid ok h0 (fixA_le ok) (fun i hi => fixP_lt hi)
      have e : modesP s = nullP (rowsF s (fixA s)) := by simp [modesP, hv, h0]
      rw [e] at hall
      exact null_all_zero rv (by omega) hall (fun r hr => by rw [rw']; exact hZ r hr)
/-! The fixed ropes as a list. -/
def rowR (bs : List Bk) (r : Rp) : List Int := bs.map fun b => pull b.nm r.hs
def fxR (s : Sy) : List Rp := s.rs.filter fun r => !r.hl
theorem colP_row {s : Sy} {i : Nat} {r : Rp} (hr : s.rs[i]? = some r) : colP (matS s) i = rowR s.bs r := by
  unfold colP matS rowR
  rw [List.map_map]
  refine List.map_congr_left fun b _ => ?_
  simp [at_, hr]
theorem fxR_take (s : Sy) : ∀ k, k ≤ s.rs.length → (fixP s.rs (-1) k).map (fun i => s.rs[i]?) = ((s.rs.take k).filter fun r => !r.hl).map some
  | 0, _ => rfl
  | k + 1, hk => by
    obtain ⟨r, hr⟩ : ∃ y, s.rs[k]? = some y := ⟨_, List.getElem?_eq_getElem (by omega)⟩
    have ih := fxR_take s k (by omega)
    rw [fixP_step hr, List.take_add_one, hr, Option.toList_some, List.filter_append, List.map_append, ← ih]
    cases hh : r.hl
    · have hk1 : (!((k : Int) == -1)) = true := by simp
      rw [if_pos (by simpa using hk1), List.map_append]
      simp [hr, hh]
    · simp [hh]
theorem fxR_get (s : Sy) : (fixA s).map (fun i => s.rs[i]?) = (fxR s).map some := by
  have := fxR_take s s.rs.length (Nat.le_refl _)
  rw [List.take_length] at this
  exact this
theorem fxR_at {s : Sy} {k : Nat} {r : Rp} : (fxR s)[k]? = some r ↔ ∃ i, (fixA s)[k]? = some i ∧ s.rs[i]? = some r := by
  have h := congrArg (·[k]?) (fxR_get s)
  simp only [List.getElem?_map] at h
  constructor
  · intro hr
    rw [hr] at h
    cases hi : (fixA s)[k]? with
    | none => rw [hi] at h; simp at h
    | some i => rw [hi] at h; exact ⟨i, rfl, by simpa using h⟩
  · rintro ⟨i, hi, hr⟩
    rw [hi] at h
    simp only [Option.map_some, hr] at h
    cases hx : (fxR s)[k]? with
    | none => rw [hx] at h; simp at h
    | some q => rw [hx] at h; simp at h; rw [h]
theorem fxR_len (s : Sy) : (fxR s).length = (fixA s).length := by
  have := congrArg List.length (fxR_get s)
  simpa using this.symm
theorem rowsF_fx (s : Sy) : rowsF s (fixA s) = (fxR s).map (rowR s.bs) := by
  refine List.ext_getElem? fun k => ?_
  unfold rowsF
  rw [List.getElem?_map, List.getElem?_map]
  cases hi : (fixA s)[k]? with
  | none =>
    have : (fixA s).length ≤ k := List.getElem?_eq_none_iff.1 hi
    rw [List.getElem?_eq_none (by rw [fxR_len]; omega)]
    rfl
  | some i =>
    have hil : i < s.rs.length := fixP_lt (List.mem_of_getElem? hi)
    obtain ⟨r, hr⟩ : ∃ y, s.rs[i]? = some y := ⟨_, List.getElem?_eq_getElem hil⟩
    rw [fxR_at.2 ⟨i, hi, hr⟩]
    simp only [Option.map_some]
    rw [trS_getD s hil, colP_row hr]
/-! The rank of some ropes' rows. -/
def rkB (bs : List Bk) (M : List Rp) : Nat := rankP (M.map (rowR bs)) bs.length
theorem rkB_is {s : Sy} (ok : OkS s) {M : List Rp} (hM : M.length ≤ 6) (h : ∀ r ∈ M, r ∈ s.rs) : IsRank ((M.map (rowR s.bs)).map at_) s.bs.length (rkB s.bs M) := by
  have hent : ∀ r ∈ M.map (rowR s.bs), r.length = s.bs.length ∧ ∀ x ∈ r, -32 ≤ x ∧ x ≤ 32 := fun r hr => by
    obtain ⟨q, hq, rfl⟩ := List.mem_map.1 hr
    refine ⟨by simp [rowR], fun x hx => ?_⟩
    obtain ⟨b, _, rfl⟩ := List.mem_map.1 hx
    have h1 := pull_bound (nm := b.nm) (ok.pulls q (h q hq))
    have h2 := (ok.holds q (h q hq)).2.1
    omega
  exact rk_isRank ⟨by simpa using hM, fun r hr => (hent r hr).1, Nat.le_refl _, fun r hr j _ => at_bound (by decide) (hent r hr).2 j, fun r hr j => by
    have := at_bound (x := 32) (by decide) (hent r hr).2 j
    omega⟩
theorem rkB_rows {s t : Sy} (ok : OkS s) (ok' : OkS t) (hb : t.bs = s.bs) {M N : List Rp} (hM : M.length ≤ 6) (hN : N.length ≤ 6) (h1 : ∀ r ∈ M, r ∈ s.rs) (h2 : ∀ r ∈ N, r ∈ t.rs) (h : ∀ x, x ∈ M.map (rowR s.bs) ↔ x ∈ N.map (rowR s.bs)) : rkB s.bs M = rkB s.bs N := by
  have i1 := rkB_is ok hM h1
  have i2 := rkB_is ok' hN h2
  rw [hb] at i2
  refine (isRank_mem i1 fun x => ?_).uniq i2
  constructor
  · intro hx
    obtain ⟨y, hy, rfl⟩ := List.mem_map.1 hx
    exact List.mem_map.2 ⟨y, (h y).1 hy, rfl⟩
  · intro hx
    obtain ⟨y, hy, rfl⟩ := List.mem_map.1 hx
    exact List.mem_map.2 ⟨y, (h y).2 hy, rfl⟩
theorem rkB_mono {s : Sy} (ok : OkS s) {M N : List Rp} (hM : M.length ≤ 6) (hN : N.length ≤ 6) (h2 : ∀ r ∈ N, r ∈ s.rs) (h : ∀ r ∈ M, r ∈ N) : rkB s.bs M ≤ rkB s.bs N :=
  (rkB_is ok hM fun r hr => h2 r (h r hr)).le (rkB_is ok hN h2) fun x hx => by
    obtain ⟨y, hy, rfl⟩ := List.mem_map.1 hx
    obtain ⟨r, hr, rfl⟩ := List.mem_map.1 hy
    exact List.mem_map.2 ⟨_, List.mem_map.2 ⟨r, h r hr, rfl⟩, rfl⟩
theorem rkB_grow {s : Sy} (ok : OkS s) {M N : List Rp} {q : Rp} (hM : M.length ≤ 6) (hN : N.length ≤ 6) (h1 : ∀ r ∈ M, r ∈ s.rs) (h2 : ∀ r ∈ N, r ∈ s.rs) (h : ∀ r ∈ N, r ∈ M ∨ r = q) : rkB s.bs N ≤ rkB s.bs M + 1 :=
  (rkB_is ok hM h1).grow (x := at_ (rowR s.bs q)) (rkB_is ok hN h2) fun x hx => by
    obtain ⟨y, hy, rfl⟩ := List.mem_map.1 hx
    obtain ⟨r, hr, rfl⟩ := List.mem_map.1 hy
    rcases h r hr with h | rfl
    · exact .inl (List.mem_map.2 ⟨_, List.mem_map.2 ⟨r, h, rfl⟩, rfl⟩)
    · exact .inr rfl
theorem fxR_sub {s : Sy} : ∀ r ∈ fxR s, r ∈ s.rs := fun _ hr => (List.mem_filter.1 hr).1
theorem fxR_six {s : Sy} (ok : OkS s) : (fxR s).length ≤ 6 := by rw [fxR_len]; exact fixA_le ok
theorem rowsF_list (s : Sy) {L : List Nat} {X : List Rp} (h : L.map (fun i => s.rs[i]?) = X.map some) : rowsF s L = X.map (rowR s.bs) := by
  refine List.ext_getElem? fun k => ?_
  have hk := congrArg (·[k]?) h
  simp only [List.getElem?_map] at hk
  unfold rowsF
  rw [List.getElem?_map, List.getElem?_map]
  cases hi : L[k]? with
  | none =>
    rw [hi] at hk
    cases hx : X[k]? with
    | none => rfl
    | some r => rw [hx] at hk; simp at hk
  | some i =>
    rw [hi] at hk
    cases hx : X[k]? with
    | none => rw [hx] at hk; simp at hk
    | some r =>
      rw [hx] at hk
      have hr : s.rs[i]? = some r := by simpa using hk
      simp only [Option.map_some]
      rw [trS_getD s (List.getElem?_eq_some_iff.1 hr).1, colP_row hr]
theorem rankP_nil (n : Nat) : rankP ([] : List (List Int)) n = 0 := by
  obtain ⟨S, C, h1, h2, _⟩ := rk_isRank (m := []) (w := n) ⟨by simp, by simp, Nat.le_refl _, by simp, by simp⟩
  cases S with
  | nil => simpa using h2.symm
  | cons a l => exact absurd (h1 a (by simp)) (by simp)
theorem rkF_list {s : Sy} (ok : OkS s) {L : List Nat} {X : List Rp} (hl : L.length ≤ 6) (h : L.map (fun i => s.rs[i]?) = X.map some) : rkF s L = rkB s.bs X := by
  unfold rkF rkB
  rw [← rowsF_list s h]
  by_cases h0 : L = []
  · subst h0
    have e2 : rowsF s [] = [] := rfl
    rw [e2, rankP_nil, rankP_nil]
  · have hL : ∀ i ∈ L, i < s.rs.length := fun i hi => by
      obtain ⟨k, hk⟩ := List.mem_iff_getElem?.1 hi
      have h1 := congrArg (·[k]?) h
      simp only [List.getElem?_map, hk, Option.map_some] at h1
      cases hx : X[k]? with
      | none => rw [hx] at h1; simp at h1
      | some r =>
        rw [hx] at h1
        exact (List.getElem?_eq_some_iff.1 (show s.rs[i]? = some r by simpa using h1)).1
    rw [(rowsF_valid ok h0 hl hL).2.1]
theorem freedom_is {s : Sy} (hv : validS s = true) : (modesP s).2 = 0 ∧ (modesP s).1.length + rkB s.bs (fxR s) = s.bs.length := by
  have ok := validS_ok hv
  obtain ⟨m1, m2, m3, _⟩ := modes_law hv
  refine ⟨m1, ?_⟩
  have e := rkF_list ok (fixA_le ok) (fxR_get s)
  unfold rkF at e
  rw [← e]
  by_cases h0 : fixA s = []
  · have e2 : rowsF s [] = [] := rfl
    have e3 : rankP ([] : List (List Int)) (wid []) = 0 := rfl
    rw [m3 h0, h0, e2, e3]
    rfl
  · have := m2 h0
    omega
theorem moves_fx {s : Sy} (hv : validS s = true) {k : Nat} (hk : k < s.bs.length) : (modesP s).1.any (movB k) = true ↔ ∃ Z : Nat → Int, (∀ r ∈ (fxR s).map (rowR s.bs), sumN (fun j => at_ r j * Z j) s.bs.length = 0) ∧ Z k ≠ 0 := by
  rw [← rowsF_fx]
  exact moves_iff hv hk
/-! The redundant ropes by their names. -/
theorem fxR_inj {s : Sy} (ok : OkS s) {i j : Nat} {x y : Rp} (hi : (fxR s)[i]? = some x) (hj : (fxR s)[j]? = some y) (h : x.nm = y.nm) : i = j := by
  obtain ⟨a, ha, hx⟩ := fxR_at.1 hi
  obtain ⟨b, hb, hy⟩ := fxR_at.1 hj
  have := ok.rinj a b x y hx hy h
  subst this
  exact (List.getElem?_inj (List.getElem?_eq_some_iff.1 ha).1 (fixA_nodup s)).1 (ha.trans hb.symm)
def butR (s : Sy) (nm : ByteArray) : List Rp := (fxR s).filter fun q => !decide (q.nm = nm)
theorem butR_mem {s : Sy} {nm : ByteArray} {q : Rp} : q ∈ butR s nm ↔ q ∈ fxR s ∧ q.nm ≠ nm := by simp [butR]
theorem butR_six {s : Sy} (ok : OkS s) (nm : ByteArray) : (butR s nm).length ≤ 6 := Nat.le_trans (List.length_filter_le _ _) (fxR_six ok)
def redR (s : Sy) (r : Rp) : Bool := decide (rkB s.bs (butR s r.nm) = rkB s.bs (fxR s))
theorem filt_range {α β : Type} (X : List α) (p : Nat → Bool) (q : α → Bool) (g : Nat → β) (h : α → β) (hp : ∀ i x, X[i]? = some x → p i = q x) (hg : ∀ i x, X[i]? = some x → g i = h x) : ∀ k, k ≤ X.length → ((List.range k).filter p).map g = ((X.take k).filter q).map h
  | 0, _ => rfl
  | k + 1, hk => by
    obtain ⟨x, hx⟩ : ∃ y, X[k]? = some y := ⟨_, List.getElem?_eq_getElem (by omega)⟩
    have ih := filt_range X p q g h hp hg k (by omega)
    rw [List.range_succ, List.take_add_one, hx, Option.toList_some, List.filter_append, List.filter_append, List.map_append, List.map_append, ih]
    congr 1
    have e := hp k x hx
    cases hq : q x
    · rw [hq] at e
      simp [e, hq]
    · rw [hq] at e
      simp [e, hq, hg k x hx]
theorem map_erase_some {s : Sy} {L : List Nat} {X : List Rp} (h : L.map (fun i => s.rs[i]?) = X.map some) (k : Nat) : (L.eraseIdx k).map (fun i => s.rs[i]?) = (X.eraseIdx k).map some := by
  rw [← erase_map, ← erase_map, h]
theorem redB_is {s : Sy} (ok : OkS s) {k : Nat} {r : Rp} (hr : (fxR s)[k]? = some r) : redB s (fixA s) k = redR s r := by
  have hkl := (List.getElem?_eq_some_iff.1 hr).1
  have h6 := fixA_le ok
  have hel : ((fixA s).eraseIdx k).length ≤ 6 := Nat.le_trans (List.length_eraseIdx_le _ _) h6
  have e1 := rkF_list ok h6 (fxR_get s)
  have e2 := rkF_list ok hel (map_erase_some (fxR_get s) k)
  have e3 : rkB s.bs ((fxR s).eraseIdx k) = rkB s.bs (butR s r.nm) := by
    refine rkB_rows ok ok rfl (Nat.le_trans (List.length_eraseIdx_le _ _) (fxR_six ok)) (butR_six ok _) (fun q hq => fxR_sub q (List.mem_of_mem_eraseIdx hq)) (fun q hq => fxR_sub q (butR_mem.1 hq).1) fun x => ?_
    have hm : ∀ q, q ∈ (fxR s).eraseIdx k ↔ q ∈ butR s r.nm := fun q => by
      rw [butR_mem, List.mem_eraseIdx_iff_getElem?]
      constructor
      · rintro ⟨i, hne, hi⟩
        exact ⟨List.mem_of_getElem? hi, fun e => hne (fxR_inj ok hi hr e)⟩
      · rintro ⟨hq, hne⟩
        obtain ⟨i, hi⟩ := List.mem_iff_getElem?.1 hq
        refine ⟨i, fun e => hne ?_, hi⟩
        subst e
        rw [hr] at hi
        cases hi
        rfl
    simp only [List.mem_map, hm]
  unfold redB redR
  rw [e1, e2, e3, Bool.eq_iff_iff]
  simp
theorem redP_fx {s : Sy} (hv : validS s = true) : redP s = (((fxR s).filter (redR s)).map (·.nm), 0) := by
  have ok := validS_ok hv
  have e : redP s = (redN s (fixA s) (fixA s).length, 0) := by simp [redP, hv]
  rw [e]
  congr 1
  unfold redN
  have h := filt_range (fxR s) (redB s (fixA s)) (redR s) (fun i => (s.rs.getD ((fixA s).getD i 0) ⟨ByteArray.empty, [], false⟩).nm) (·.nm) (fun i x hx => redB_is ok hx) (fun i x hx => by
    obtain ⟨a, ha, hr⟩ := fxR_at.1 hx
    rw [List.getD_eq_getElem?_getD (l := fixA s), ha, Option.getD_some, List.getD_eq_getElem?_getD, hr]
    rfl) (fxR s).length (Nat.le_refl _)
  rw [List.take_length, fxR_len] at h
  exact h
theorem redP_has {s : Sy} (hv : validS s = true) {r : Rp} (hr : r ∈ s.rs) : (redP s).1.contains r.nm = (!r.hl && redR s r) := by
  have ok := validS_ok hv
  rw [redP_fx hv, Bool.eq_iff_iff, List.contains_iff_mem, List.mem_map]
  constructor
  · rintro ⟨q, hq, e⟩
    obtain ⟨h1, h2⟩ := List.mem_filter.1 hq
    obtain ⟨h3, h4⟩ := List.mem_filter.1 h1
    obtain ⟨i, hi⟩ := List.mem_iff_getElem?.1 h3
    obtain ⟨j, hj⟩ := List.mem_iff_getElem?.1 hr
    have := ok.rinj i j q r hi hj e
    subst this
    rw [hi] at hj
    cases hj
    simp only [Bool.and_eq_true]
    exact ⟨h4, h2⟩
  · intro h
    simp only [Bool.and_eq_true] at h
    exact ⟨r, List.mem_filter.2 ⟨List.mem_filter.2 ⟨hr, h.1⟩, h.2⟩, rfl⟩
/-! Other systems of the same ropes. -/
theorem VS_of {s t : Sy} (h : VS s) (hb : t.bs = s.bs) (h1 : 1 ≤ t.rs.length ∧ t.rs.length ≤ 6) (hm : ∀ r ∈ t.rs, r ∈ s.rs) (hn : (bNames t.bs ++ rNames t.rs).Nodup) (hh : hauls t.rs ≤ 1) : VS t :=
  ⟨by rw [hb]; exact h.b, h1, hn, by rw [hb]; exact h.bk, fun r hr => by rw [hb]; exact h.rp r (hm r hr), hh⟩
theorem valid_erase {s : Sy} (hv : validS s = true) (h2 : 2 ≤ s.rs.length) (i : Nat) : validS ⟨s.bs, s.rs.eraseIdx i⟩ = true := by
  have h := validS_iff.1 hv
  have hl := List.length_eraseIdx_le s.rs i
  have hl2 : s.rs.length - 1 ≤ (s.rs.eraseIdx i).length := by
    rw [List.length_eraseIdx]
    split <;> omega
  have h6 := h.r
  refine validS_iff.2 (VS_of h rfl ⟨by show 1 ≤ (s.rs.eraseIdx i).length; omega, by show (s.rs.eraseIdx i).length ≤ 6; omega⟩ (fun r hr => List.mem_of_mem_eraseIdx hr) ?_ ?_)
  · exact h.nd.sublist ((List.Sublist.refl _).append ((List.eraseIdx_sublist s.rs i).map _))
  · exact Nat.le_trans (((List.eraseIdx_sublist s.rs i).filter _).length_le) h.h
theorem valid_revR {s : Sy} (hv : validS s = true) : validS ⟨s.bs, s.rs.reverse⟩ = true := by
  have h := validS_iff.1 hv
  refine validS_iff.2 (VS_of h rfl (by simpa using h.r) (fun r hr => List.mem_reverse.1 hr) ?_ ?_)
  · refine (List.Perm.nodup_iff ?_).1 h.nd
    refine List.Perm.append_left _ ?_
    unfold rNames
    rw [List.map_reverse]
    exact (List.reverse_perm _).symm
  · have : hauls s.rs.reverse = hauls s.rs := by
      unfold hauls
      rw [List.filter_reverse, List.length_reverse]
    rw [this]
    exact h.h
theorem jamN_congr {bs : List Bk} {L M : List (List (Int × Int))} (h : ∀ k, k < bs.length → L.any (movB k) = M.any (movB k)) : jamN bs L bs.length = jamN bs M bs.length := by
  unfold jamN
  congr 1
  refine List.filter_congr fun i hi => ?_
  rw [h i (List.mem_range.1 hi)]
/-- What the reverse order of the ropes does. -/
theorem turned_law {s : Sy} (hv : validS s = true) : (modesP ⟨s.bs, s.rs.reverse⟩).1.length = (modesP s).1.length ∧ (modesP ⟨s.bs, s.rs.reverse⟩).2 = 0 ∧ jamP ⟨s.bs, s.rs.reverse⟩ = jamP s ∧ redP ⟨s.bs, s.rs.reverse⟩ = ((redP s).1.reverse, 0) := by
  have hv2 := valid_revR hv
  have ok := validS_ok hv
  have ok2 := validS_ok hv2
  have hfx : fxR ⟨s.bs, s.rs.reverse⟩ = (fxR s).reverse := by unfold fxR; rw [List.filter_reverse]
  have hmem : ∀ x, x ∈ (fxR ⟨s.bs, s.rs.reverse⟩).map (rowR s.bs) ↔ x ∈ (fxR s).map (rowR s.bs) := fun x => by
    rw [hfx, List.map_reverse, List.mem_reverse]
  have hrk : rkB s.bs (fxR ⟨s.bs, s.rs.reverse⟩) = rkB s.bs (fxR s) := rkB_rows ok2 ok rfl (fxR_six ok2) (fxR_six ok) fxR_sub fxR_sub hmem
  obtain ⟨f1, f2⟩ := freedom_is hv
  obtain ⟨g1, g2⟩ := freedom_is hv2
  simp only at g2
  rw [hrk] at g2
  refine ⟨by omega, g1, ?_, ?_⟩
  · have e1 : jamP s = (jamN s.bs (modesP s).1 s.bs.length, 0) := by unfold jamP; rw [if_pos f1]
    have e2 : jamP ⟨s.bs, s.rs.reverse⟩ = (jamN s.bs (modesP ⟨s.bs, s.rs.reverse⟩).1 s.bs.length, 0) := by unfold jamP; rw [if_pos g1]
    rw [e1, e2]
    congr 1
    refine jamN_congr fun k hk => ?_
    have i1 := moves_fx hv hk
    have i2 := moves_fx hv2 (k := k) hk
    simp only [hmem] at i2
    rw [Bool.eq_iff_iff, i1, i2]
  · rw [redP_fx hv, redP_fx hv2]
    simp only [hfx]
    congr 1
    rw [← List.map_reverse, ← List.filter_reverse]
    congr 1
    refine List.filter_congr fun r hr => ?_
    unfold redR
    have hb : rkB s.bs (butR ⟨s.bs, s.rs.reverse⟩ r.nm) = rkB s.bs (butR s r.nm) := by
      refine rkB_rows ok2 ok rfl (butR_six ok2 _) (butR_six ok _) (fun q hq => fxR_sub q (butR_mem.1 hq).1) (fun q hq => fxR_sub q (butR_mem.1 hq).1) fun x => ?_
      have : ∀ q, q ∈ butR ⟨s.bs, s.rs.reverse⟩ r.nm ↔ q ∈ butR s r.nm := fun q => by rw [butR_mem, butR_mem, hfx, List.mem_reverse]
      simp only [List.mem_map, this]
    simp only [hb, hrk]
/-- What a rope more, with the same holds, does. -/
theorem twice_law {s : Sy} (hv : validS s = true) {r : Rp} (hr : r ∈ s.rs) (hh : r.hl = false) {nm : ByteArray} (hv2 : validS ⟨s.bs, s.rs ++ [⟨nm, r.hs, false⟩]⟩ = true) : (modesP ⟨s.bs, s.rs ++ [⟨nm, r.hs, false⟩]⟩).1.length = (modesP s).1.length ∧ (modesP ⟨s.bs, s.rs ++ [⟨nm, r.hs, false⟩]⟩).2 = 0 ∧ (redP ⟨s.bs, s.rs ++ [⟨nm, r.hs, false⟩]⟩).2 = 0 ∧ (redP ⟨s.bs, s.rs ++ [⟨nm, r.hs, false⟩]⟩).1.contains r.nm = true ∧ (redP ⟨s.bs, s.rs ++ [⟨nm, r.hs, false⟩]⟩).1.contains nm = true := by
  have ok := validS_ok hv
  have ok2 := validS_ok hv2
  have hrf : r ∈ fxR s := List.mem_filter.2 ⟨hr, by simp [hh]⟩
  have hfx : fxR ⟨s.bs, s.rs ++ [⟨nm, r.hs, false⟩]⟩ = fxR s ++ [⟨nm, r.hs, false⟩] := by unfold fxR; simp
  have hne : r.nm ≠ nm := fun e => by
    obtain ⟨i, hi⟩ := List.mem_iff_getElem?.1 hr
    have hil := (List.getElem?_eq_some_iff.1 hi).1
    have := ok2.rinj i s.rs.length r ⟨nm, r.hs, false⟩ (by rw [List.getElem?_append_left hil]; exact hi) (by simp) e
    omega
  have hrow : rowR s.bs ⟨nm, r.hs, false⟩ = rowR s.bs r := rfl
  have hmem : ∀ x, x ∈ (fxR ⟨s.bs, s.rs ++ [⟨nm, r.hs, false⟩]⟩).map (rowR s.bs) ↔ x ∈ (fxR s).map (rowR s.bs) := fun x => by
    rw [hfx, List.map_append, List.mem_append]
    constructor
    · rintro (h | h)
      · exact h
      · rw [List.map_cons, List.map_nil, List.mem_singleton, hrow] at h
        subst h
        exact List.mem_map.2 ⟨r, hrf, rfl⟩
    · exact .inl
  have hrk : rkB s.bs (fxR ⟨s.bs, s.rs ++ [⟨nm, r.hs, false⟩]⟩) = rkB s.bs (fxR s) := rkB_rows ok2 ok rfl (fxR_six ok2) (fxR_six ok) fxR_sub fxR_sub hmem
  obtain ⟨f1, f2⟩ := freedom_is hv
  obtain ⟨g1, g2⟩ := freedom_is hv2
  simp only at g2
  rw [hrk] at g2
  have hred : ∀ q : Rp, (q = r ∨ q = ⟨nm, r.hs, false⟩) → redR ⟨s.bs, s.rs ++ [⟨nm, r.hs, false⟩]⟩ q = true := fun q hq => by
    unfold redR
    simp only [decide_eq_true_eq]
    rw [hrk]
    refine rkB_rows ok2 ok rfl (butR_six ok2 _) (fxR_six ok) (fun q hq => fxR_sub q (butR_mem.1 hq).1) fxR_sub fun x => ?_
    constructor
    · intro hx
      obtain ⟨y, hy, rfl⟩ := List.mem_map.1 hx
      exact (hmem _).1 (List.mem_map.2 ⟨y, (butR_mem.1 hy).1, rfl⟩)
    · intro hx
      obtain ⟨y, hy, rfl⟩ := List.mem_map.1 hx
      by_cases e : y.nm = q.nm
      · rcases hq with rfl | rfl
        · have : y = q := by
            obtain ⟨i, hi⟩ := List.mem_iff_getElem?.1 hy
            obtain ⟨j, hj⟩ := List.mem_iff_getElem?.1 hrf
            have := fxR_inj ok hi hj e
            subst this
            rw [hi] at hj
            exact Option.some.inj hj
          subst this
          exact List.mem_map.2 ⟨⟨nm, y.hs, false⟩, butR_mem.2 ⟨by rw [hfx]; simp, fun h => hne h.symm⟩, rfl⟩
        · have : (⟨nm, r.hs, false⟩ : Rp) = y := by
            obtain ⟨i, hi⟩ := List.mem_iff_getElem?.1 (fxR_sub y hy)
            have hil := (List.getElem?_eq_some_iff.1 hi).1
            have := ok2.rinj i s.rs.length y ⟨nm, r.hs, false⟩ (by rw [List.getElem?_append_left hil]; exact hi) (by simp) e
            omega
          subst this
          exact List.mem_map.2 ⟨r, butR_mem.2 ⟨by rw [hfx]; exact List.mem_append_left _ hrf, hne⟩, rfl⟩
      · exact List.mem_map.2 ⟨y, butR_mem.2 ⟨by rw [hfx]; exact List.mem_append_left _ hy, e⟩, rfl⟩
  refine ⟨by omega, g1, by rw [redP_fx hv2], ?_, ?_⟩
  · rw [redP_has hv2 (r := r) (List.mem_append_left _ hr), hh, hred r (.inl rfl)]
    rfl
  · have := redP_has hv2 (r := ⟨nm, r.hs, false⟩) (by simp)
    rw [hred _ (.inr rfl)] at this
    exact this
/-- What a rope less does. -/
theorem less_law {s : Sy} (hv : validS s = true) (h2 : 2 ≤ s.rs.length) {i : Nat} {r : Rp} (hr : s.rs[i]? = some r) :
    validS ⟨s.bs, s.rs.eraseIdx i⟩ = true ∧ (modesP ⟨s.bs, s.rs.eraseIdx i⟩).1.length = (modesP s).1.length + (if (!r.hl && !(redP s).1.contains r.nm) = true then 1 else 0) ∧ (∀ nm ∈ (jamP ⟨s.bs, s.rs.eraseIdx i⟩).1, (jamP s).1.contains nm = true) ∧ ((modesP ⟨s.bs, s.rs.eraseIdx i⟩).1.length = (modesP s).1.length → (jamP ⟨s.bs, s.rs.eraseIdx i⟩).1 = (jamP s).1) := by
  have hv2 := valid_erase hv h2 i
  have ok := validS_ok hv
  have ok2 := validS_ok hv2
  have hrm := List.mem_of_getElem? hr
  have hmem : ∀ q, q ∈ fxR ⟨s.bs, s.rs.eraseIdx i⟩ ↔ q ∈ butR s r.nm := fun q => by
    rw [butR_mem]
    unfold fxR
    rw [List.mem_filter, List.mem_filter, List.mem_eraseIdx_iff_getElem?]
    constructor
    · rintro ⟨⟨j, hne, hj⟩, hf⟩
      exact ⟨⟨List.mem_of_getElem? hj, hf⟩, fun e => hne (ok.rinj j i q r hj hr e)⟩
    · rintro ⟨⟨hq, hf⟩, hne⟩
      obtain ⟨j, hj⟩ := List.mem_iff_getElem?.1 hq
      refine ⟨⟨j, fun e => hne ?_, hj⟩, hf⟩
      subst e
      rw [hr] at hj
      cases hj
      rfl
  have hrk : rkB s.bs (fxR ⟨s.bs, s.rs.eraseIdx i⟩) = rkB s.bs (butR s r.nm) := rkB_rows ok2 ok rfl (fxR_six ok2) (butR_six ok _) fxR_sub (fun q hq => fxR_sub q (butR_mem.1 hq).1) fun x => by simp only [List.mem_map, hmem]
  have hle : rkB s.bs (butR s r.nm) ≤ rkB s.bs (fxR s) := rkB_mono ok (butR_six ok _) (fxR_six ok) fxR_sub fun q hq => (butR_mem.1 hq).1
  have hgr : rkB s.bs (fxR s) ≤ rkB s.bs (butR s r.nm) + 1 := rkB_grow (q := r) ok (butR_six ok _) (fxR_six ok) (fun q hq => fxR_sub q (butR_mem.1 hq).1) fxR_sub fun q hq => by
    by_cases e : q.nm = r.nm
    · right
      obtain ⟨j, hj⟩ := List.mem_iff_getElem?.1 (fxR_sub q hq)
      have := ok.rinj j i q r hj hr e
      subst this
      rw [hj] at hr
      exact Option.some.inj hr
    · exact .inl (butR_mem.2 ⟨hq, e⟩)
  obtain ⟨f1, f2⟩ := freedom_is hv
  obtain ⟨g1, g2⟩ := freedom_is hv2
  simp only at g2
  rw [hrk] at g2
  have e1 : jamP s = (jamN s.bs (modesP s).1 s.bs.length, 0) := by unfold jamP; rw [if_pos f1]
  have e2 : jamP ⟨s.bs, s.rs.eraseIdx i⟩ = (jamN s.bs (modesP ⟨s.bs, s.rs.eraseIdx i⟩).1 s.bs.length, 0) := by unfold jamP; rw [if_pos g1]
  have hker : ∀ k, k < s.bs.length → (modesP s).1.any (movB k) = true → (modesP ⟨s.bs, s.rs.eraseIdx i⟩).1.any (movB k) = true := fun k hk h => by
    obtain ⟨Z, hZ, hne⟩ := (moves_fx hv hk).1 h
    refine (moves_fx hv2 (k := k) hk).2 ⟨Z, fun q hq => ?_, hne⟩
    obtain ⟨y, hy, rfl⟩ := List.mem_map.1 hq
    exact hZ _ (List.mem_map.2 ⟨y, (butR_mem.1 ((hmem y).1 hy)).1, rfl⟩)
  refine ⟨hv2, ?_, ?_, ?_⟩
  · have hc := redP_has hv hrm
    rw [hc]
    cases hh : r.hl
    · simp only [Bool.not_false, Bool.true_and]
      cases hd : redR s r
      · unfold redR at hd
        have := of_decide_eq_false hd
        simp
        omega
      · unfold redR at hd
        have := of_decide_eq_true hd
        simp
        omega
    · have hb : rkB s.bs (butR s r.nm) = rkB s.bs (fxR s) := rkB_rows ok ok rfl (butR_six ok _) (fxR_six ok) (fun q hq => fxR_sub q (butR_mem.1 hq).1) fxR_sub fun x => by
        have : ∀ q, q ∈ butR s r.nm ↔ q ∈ fxR s := fun q => by
          rw [butR_mem]
          refine ⟨fun h => h.1, fun h => ⟨h, fun e => ?_⟩⟩
          obtain ⟨j, hj⟩ := List.mem_iff_getElem?.1 (fxR_sub q h)
          have := ok.rinj j i q r hj hr e
          subst this
          rw [hj] at hr
          cases hr
          have := (List.mem_filter.1 h).2
          rw [hh] at this
          cases this
        simp only [List.mem_map, this]
      simp
      omega
  · rw [e1, e2]
    intro nm hnm
    unfold jamN at hnm
    obtain ⟨k, hk, rfl⟩ := List.mem_map.1 hnm
    obtain ⟨hk1, hk2⟩ := List.mem_filter.1 hk
    rw [List.mem_range] at hk1
    obtain ⟨b, hb⟩ : ∃ y, s.bs[k]? = some y := ⟨_, List.getElem?_eq_getElem hk1⟩
    have eb : (s.bs.getD k ⟨ByteArray.empty, 0⟩) = b := by rw [List.getD_eq_getElem?_getD, hb]; rfl
    rw [eb, jamN_mem ok hb]
    cases hm : (modesP s).1.any (movB k)
    · rfl
    · rw [hker k hk1 hm] at hk2
      cases hk2
  · intro hmn
    rw [e1, e2]
    simp only
    refine jamN_congr fun k hk => ?_
    have hrr : rkB s.bs (butR s r.nm) = rkB s.bs (fxR s) := by omega
    rw [Bool.eq_iff_iff]
    refine ⟨fun h => ?_, hker k hk⟩
    obtain ⟨Z, hZ, hne⟩ := (moves_fx hv2 (k := k) hk).1 h
    have i1 := rkB_is ok (butR_six ok r.nm) (fun q hq => fxR_sub q (butR_mem.1 hq).1)
    have i2 := rkB_is ok (fxR_six ok) fxR_sub
    rw [hrr] at i1
    refine (moves_fx hv hk).2 ⟨Z, ker_of_rank i1 i2 (fun x hx => ?_) (fun q hq => ?_), hne⟩
    · obtain ⟨y, hy, rfl⟩ := List.mem_map.1 hx
      exact List.mem_map.2 ⟨y, (butR_mem.1 hy).1, rfl⟩
    · obtain ⟨y, hy, rfl⟩ := List.mem_map.1 hq
      exact hZ _ (List.mem_map.2 ⟨y, (hmem y).2 hy, rfl⟩)
/-! MobilityRemoves. -/
theorem small_erase {s : Sy} (h : smallS s = true) (i : Nat) : smallS ⟨s.bs, s.rs.eraseIdx i⟩ = true := by
  have hl := List.length_eraseIdx_le s.rs i
  simp only [smallS, Bool.and_eq_true, decide_eq_true_eq, List.all_eq_true] at h ⊢
  obtain ⟨⟨⟨h1, h2⟩, h3⟩, h4⟩ := h
  exact ⟨⟨⟨h1, by omega⟩, h3⟩, fun r hr => h4 r (List.mem_of_mem_eraseIdx hr)⟩
theorem outP_own {s : Sy} (hv : validS s = true) (h2 : 2 ≤ s.rs.length) {i : Nat} {r : Rp} (hr : s.rs[i]? = some r) : outP s r.nm = (⟨s.bs, s.rs.eraseIdx i⟩, 0) := by
  unfold outP
  rw [findM_own hv (validS_ok hv) hr, if_neg (by simp), if_neg (by omega), Int.toNat_natCast]
set_option maxHeartbeats 8000000 in
theorem law_removes (s : Sy) (k : Int) (hk : 0 ≤ k ∧ k < 256) : PRet Try.prog 8 [syD s, .v (.int .u8 k)] (bool true) := by
  refine PRet.intro 1 fun t => ACall.enter tab_ok Try.func8 rfl rfl Try.ntmps8 (by simp) ?_
  simp only [enterTM]
  have hL : PRet Try.prog 20 [syD s, .v (.string ⟨#[]⟩)] (bool (longM s ⟨#[]⟩)) := long16 s ⟨#[]⟩
  have hdr := rpC_div s.rs
  cases hlo : longM s ⟨#[]⟩
  rotate_left 1
  · rw [hlo] at hL
    ((refine gga2 awake16 hL ?_))
    ((repeat refine AW_seq ?_); (refine wta ?_); simp (disch := omega) only [retQ, resD, oneD, rsv, rs, rsL, rsL_eq_map, List.map_map, bb, bt, zDs, zD, eqCells, simprocAttr, Try.results8])
  rw [hlo] at hL
  have hs : smallS s = true := by
    unfold longM at hlo
    rw [Bool.or_eq_false_iff] at hlo
    simpa using hlo.1
  have hf := small_fits hs
  have hV := valid_ref s hf
  cases hv : validS s
  · rw [hv] at hV
    ((refine gga3 awake16 hL hV ?_))
    ((repeat refine AW_seq ?_); (refine wta ?_); simp (disch := omega) only [retQ, resD, oneD, rsv, rs, rsL, rsL_eq_map, List.map_map, bb, bt, zDs, zD, eqCells, simprocAttr, Try.results8])
  rw [hv] at hV
  by_cases h2 : s.rs.length < 2
  · have h2' : (s.rs.length : Int) < 2 := by omega
    ((refine ggb3 (F := _∧_) ⟨hdr, h2'⟩ awake16 hL hV ?_))
    ((repeat refine AW_seq ?_); (refine wta ?_); simp (disch := omega) only [retQ, resD, oneD, rsv, rs, rsL, rsL_eq_map, List.map_map, bb, bt, zDs, zD, eqCells, simprocAttr, Try.results8])
  have h2' : ¬ (s.rs.length : Int) < 2 := by omega
  obtain ⟨nk, rfl⟩ : ∃ n : Nat, k = (n : Int) := ⟨k.toNat, by omega⟩
  have ek : Int.tmod (nk : Int) (s.rs.length : Int) = ((nk % s.rs.length : Nat) : Int) := rfl
  have hA : nk % s.rs.length < s.rs.length := Nat.mod_lt _ (by omega)
  have hl0 : ¬ (s.rs.length : Int) = 0 := by omega
  generalize nk % s.rs.length = i at *
  obtain ⟨r, hr⟩ : ∃ y, s.rs[i]? = some y := ⟨_, List.getElem?_eq_getElem hA⟩
  have hra := rpC_read s.rs i r hr
  have ho := outP_own hv (by omega) hr
  have hW := without_prog s hf r.nm
  rw [ho] at hW
  simp only at hW
  have hf2 := small_fits (small_erase hs i)
  have hFd := freedom_prog s hf
  have hFl := freedom_prog _ hf2
  have hRd := redundant_prog s hf
  have hJ := jammed_prog s hf
  have hJl := jammed_prog _ hf2
  have hVl := valid_prog _ hf2
  obtain ⟨l1, l2, l3, l4⟩ := less_law hv (by omega) hr
  rw [l1] at hVl
  have hrl : (s.rs.eraseIdx i).length = s.rs.length - 1 := List.length_eraseIdx_of_lt hA
  have hdl := rpC_div (s.rs.eraseIdx i)
  have ok := validS_ok hv
  have hr6 := ok.r6
  have hRl := redP_len hv
  have e0 : (redP s).2 = 0 := by simp [redP, hv]
  have f0 := (freedom_is hv).1
  have hn6 : (modesP s).1.length ≤ 6 := by
    have h1 := (freedom_is hv).2
    have h2 := ok.b6
    omega
  have f1 := (freedom_is l1).1
  have j0 : (jamP s).2 = 0 := by unfold jamP; rw [if_pos f0]
  have j1 : (jamP ⟨s.bs, s.rs.eraseIdx i⟩).2 = 0 := by unfold jamP; rw [if_pos f1]
  have hjl : (jamP s).1.length ≤ 6 := by
    have hb6 := ok.b6
    have := jamN_len s.bs (modesP s).1 s.bs.length
    unfold jamP
    rw [if_pos f0]
    show (jamN s.bs (modesP s).1 s.bs.length).length ≤ 6
    omega
  have hjl2 : (jamP ⟨s.bs, s.rs.eraseIdx i⟩).1.length ≤ 6 := by
    have hb6 := ok.b6
    have := jamN_len s.bs (modesP ⟨s.bs, s.rs.eraseIdx i⟩).1 s.bs.length
    unfold jamP
    rw [if_pos f1]
    show (jamN s.bs (modesP ⟨s.bs, s.rs.eraseIdx i⟩).1 s.bs.length).length ≤ 6
    omega
  rw [f0] at hFd
  rw [f1] at hFl
  rw [e0] at hRd
  rw [j0] at hJ
  rw [j1] at hJl
  have hC := containsStrs (redP s).1 r.nm (by omega)
  have hCj := fun x => containsStrs (jamP s).1 x (by omega)
  have hE := equalStrs (jamP s).1 (jamP ⟨s.bs, s.rs.eraseIdx i⟩).1 (by omega) (by omega)
  generalize (modesP ⟨s.bs, s.rs.eraseIdx i⟩).1.length = m at *
  generalize (modesP s).1.length = n at *
  generalize (jamP ⟨s.bs, s.rs.eraseIdx i⟩).1 = B at *
  generalize (jamP s).1 = A at *
  generalize hct : (redP s).1.contains r.nm = ct at *
  generalize (redP s).1 = R at *
  ((refine ggb3 (F := _∧_) ⟨hdr, h2'⟩ awake16 hL hV ?_))
  ((repeat refine AW_seq ?_); (refine gdob_MRN (F := _∧_∧_∧_∧_) ⟨hdr, ek, hl0, hA, hra⟩ ?_))
  ((refine gga3 hW hFd hFl ?_))
  ((refine gga2 hRd hVl ?_))
  have hne : (((s.rs.eraseIdx i).length : Int) != (s.rs.length : Int) - 1) = false := by simp; omega
  ((refine wib (F := _∧_∧_) ⟨hdr, hdl, hne⟩ ?_))
  ((refine wsa ?_))
  ((refine wqa ?_))
  ((repeat refine AW_seq ?_))
  refine AW_mid (fun x : Nat => ⟨[(2, .ptr 0 (t + 1) 0), (6, .ptr 2 (t + 1 + 1 + 1) 0), (8, int n), (10, int m), (14, int n), (107, bool (!r.hl && !ct))], [some ⟨25, t + 1, [bks s.bs, rps s.rs]⟩, none, some ⟨25, t + 1 + 1 + 1, [bks s.bs, rps (s.rs.eraseIdx i)]⟩], x⟩) (fun _ => True) ?_ ?_
  · cases hh : r.hl
    · ((refine ggb1 hh hC ?_))
      exact ⟨t + 1 + 1 + 1, trivial, by (simp (disch := omega) only [StLe, tmLe, hpLe_refl, hpLe, bl, bb, bt, zDs, zD, eqCells, simprocAttr, Bool.not_false, Bool.true_and])⟩
    · ((refine ggb1 hh hC ?_))
      exact ⟨t + 1 + 1 + 1, trivial, by (simp (disch := omega) only [StLe, tmLe, hpLe_refl, hpLe, bl, bb, bt, zDs, zD, eqCells, simprocAttr, Bool.not_true, Bool.false_and])⟩
  rintro t4 -
  generalize (!r.hl && !ct) = c at *
  refine AW_mid (fun x : Nat => ⟨[(2, .ptr 0 (t + 1) 0), (6, .ptr 2 (t + 1 + 1 + 1) 0), (8, int n), (10, int m), (14, int m)], [some ⟨25, t + 1, [bks s.bs, rps s.rs]⟩, none, some ⟨25, t + 1 + 1 + 1, [bks s.bs, rps (s.rs.eraseIdx i)]⟩], x⟩) (fun _ => True) ?_ ?_
  · cases c
    · obtain rfl : m = n := by simpa using l2
      ((refine gga0 ?_))
      exact ⟨t4, trivial, by (simp (disch := omega) only [StLe, tmLe, hpLe_refl, hpLe, bl, bb, bt, zDs, zD, eqCells, simprocAttr])⟩
    · obtain rfl : m = n + 1 := by simpa using l2
      ((refine gga0 ?_))
      exact ⟨t4, trivial, by (simp (disch := omega) only [StLe, tmLe, hpLe_refl, hpLe, bl, bb, bt, zDs, zD, eqCells, simprocAttr])⟩
  rintro t5 -
  have hmm : ((m : Int) != (m : Int)) = false := by simp
  ((refine ggb2 hmm hJ hJl ?_))
  ((repeat refine AW_seq ?_))
  refine AW_mid (fun x : Nat => ⟨[(8, int n), (10, int m), (15, strsD A), (17, strsD B)], [], x⟩) (fun _ => True) ?_ ?_
  · refine AW_block ?_
    refine AW_loop_w (fun x : Nat × Nat => ⟨[(8, int n), (10, int m), (15, strsD A), (17, strsD B), (129, strsD B), (130, int B.length), (131, int x.1)], [], x.2⟩) (fun x => B.length - x.1) (fun x => x.1 ≤ B.length) (0, t5) (Nat.zero_le _) (by (simp (disch := omega) only [StLe, tmLe, hpLe_refl, hpLe, bl, bb, bt, zDs, zD, eqCells, simprocAttr])) ?_
    rintro ⟨j, tt⟩ hj
    simp only at hj
    by_cases hlt : j < B.length
    · obtain ⟨nm, hnm⟩ : ∃ y, B[j]? = some y := ⟨_, List.getElem?_eq_getElem hlt⟩
      have hCn := hCj nm
      rw [l3 nm (List.mem_of_getElem? hnm)] at hCn
      ((refine ggb0 (F := _∧_) ⟨@Int.ofNat_lt, hlt⟩ ?_))
      ((repeat refine AW_seq ?_))
      refine AW_block ?_
      ((refine ggb1 (F := _∧_) ⟨hlt, hnm⟩ hCn ?_))
      refine ⟨(j + 1, tt), hlt, by show B.length - (j + 1) < B.length - j; omega, ?_⟩
      (simp (disch := omega) only [StLe, tmLe, hpLe_refl, hpLe, bl, bb, bt, zDs, zD, eqCells, simprocAttr])
    · have hje : j = B.length := by omega
      subst hje
      ((refine wqb @Int.lt_irrefl ?_))
      ((refine wia ?_))
      ((refine wxa ?_))
      exact ⟨tt, trivial, by (simp (disch := omega) only [StLe, tmLe, hpLe_refl, hpLe, bl, bb, bt, zDs, zD, eqCells, simprocAttr])⟩
  rintro t6 -
  by_cases hmn : m = n
  · have hBA := l4 hmn
    subst hmn
    subst hBA
    have hEt : (B == B) = true := by simp
    rw [hEt] at hE
    have hgt : ¬ (m : Int) < (m : Int) := by omega
    ((refine ggb1 hgt hE ?_))
    ((repeat refine AW_seq ?_); (refine wta ?_); simp (disch := omega) only [retQ, resD, oneD, rsv, rs, rsL, rsL_eq_map, List.map_map, bb, bt, zDs, zD, eqCells, simprocAttr, Try.results8])
  · have hgt : (n : Int) < (m : Int) := by
      cases c <;> simp at l2 <;> omega
    ((refine ggb0 hgt ?_))
    ((repeat refine AW_seq ?_); (refine wta ?_); simp (disch := omega) only [retQ, resD, oneD, rsv, rs, rsL, rsL_eq_map, List.map_map, bb, bt, zDs, zD, eqCells, simprocAttr, Try.results8])
end Go.Proofs.Ytjmmenfbcbagoaa.T
