import Derived.Test.YtjmmenfbcbagoaaMQG
set_option linter.all false
namespace Go.Proofs.Ytjmmenfbcbagoaa.T
open Go Go.RowKit Lin
theorem gga4_MRW {C1 C2 C3 C4 P Q : Prop} (c1 : C1) (c2 : C2) (c3 : C3) (c4 : C4) (q : Q) (h : C1 → C2 → C3 → C4 → Q → P := by
  intro cc1 cc2 cc3 cc4 hq
  (try with_reducible intro KR hKR)
  (repeat' (first | (with_reducible refine AW_seq ?_) | (with_reducible refine AW_region_k tab_ok fun KR hKR => ?_) | ((first | with_reducible refine AW_skip ?_ | with_reducible refine AW_exit ?_ | ((with_reducible refine awOps_nil ?_); refine hKR _ ?_; (try clear hKR KR))); (repeat (with_reducible first | refine q1 ?_ | refine q2 ?_ | refine q3 ?_ | refine q4 ?_ | refine q5 ?_ | refine q6 ?_ | (refine q7 ?_ ?_; (focus (with_unfolding_all rfl)))))) | ((first | ((with_reducible refine at_ops ?_); (first | refine awOps_n rfl fun KK hKK => ?_ | refine awOps_g rfl rfl fun KK hKK => ?_ | refine awOps_gc rfl fun KK hKK => ?_ | refine awOps_nc fun KK hKK => ?_)) | with_reducible refine AW_cond_k (tab := tab) fun KK hKK => ?_); simp (disch := omega) only [bb, bt, zDs, zD, eqCells, simprocAttr, bne_self_eq_false, Int.reduceBNe, Int.reduceBEq, Bool.bne_false, Bool.bne_true, Bool.false_bne, Bool.true_bne, goC, callO_fn, argsD, and_self]; (try ((first | (with_reducible refine ACall.of_pret (cc1) ?_ ?_; (focus (first | (simp only [um]; done) | rfl))) | (with_reducible refine ACall.of_pret (cc2) ?_ ?_; (focus (first | (simp only [um]; done) | rfl))) | (with_reducible refine ACall.of_pret (cc3) ?_ ?_; (focus (first | (simp only [um]; done) | rfl))) | (with_reducible refine ACall.of_pret (cc4) ?_ ?_; (focus (first | (simp only [um]; done) | rfl)))); simp only [afterC, St.put, putTM, ↓reduceIte, Nat.reduceEqDiff])); refine hKK _ ?_; clear hKK KK; (first | with_reducible refine at_ops ?_ | with_reducible refine i1 ?_ | with_reducible refine i0 ?_))))
  (first | exact hq | (revert hKR; revert KR; exact hq))) : P := h c1 c2 c3 c4 q
set_option linter.unusedSimpArgs false

/-! Chapter 16: a system without a rope. -/
theorem cellsW_bk (l : List Bk) : (bkC l).all isCell = true := by
  induction l with
  | nil => rfl
  | cons x r ih => simp only [bkC, List.flatMap_cons, List.all_append, Bool.and_eq_true] at ih ⊢; exact ⟨rfl, ih⟩
theorem cellsW_hd (l : List Hd) : (hdC l).all isCell = true := by
  induction l with
  | nil => rfl
  | cons x r ih => simp only [hdC, List.flatMap_cons, List.all_append, Bool.and_eq_true] at ih ⊢; exact ⟨rfl, ih⟩
theorem cloneBk (x : Bk) (r : List Bk) (hl : r.length ≤ 1000) : PRet Try.prog 69 [bks (x :: r)] (bks (x :: r)) := by
  refine PRet.intro 1 fun t => ACall.enter tab_ok Try.func69 rfl rfl Try.ntmps69 (by simp) ?_
  simp only [enterTM]
  have f2 : bkC (x :: r) = str x.nm :: int x.w :: bkC r := rfl
  have hcl := cellsW_bk r
  have hld := bkC_div (x :: r)
  have hll := bkC_len (x :: r)
  have hfz := fz_bk
  have htd := tidy_bk (x :: r)
  have f1 : bks (x :: r) = .sl 2 (str x.nm :: int x.w :: bkC r) false := rfl
  rw [f2] at hld hll htd
  rw [f1]
  simp only [List.length_cons] at hll hld
  ((refine wqa ?_))
  ((refine wqa ?_))
  ((refine wia ?_))
  ((refine wsa ?_))
  ((repeat refine AW_seq ?_); (refine AW_region_k tab_ok fun KR hKR => ?_); (repeat ((first | refine awOps_n rfl fun KK hKK => ?_ | refine awOps_g rfl rfl fun KK hKK => ?_ | refine awOps_gc rfl fun KK hKK => ?_); simp (disch := omega) only [bb, bt, zDs, zD, eqCells, simprocAttr, isSlice, hcl, hld]; refine hKK _ ?_; clear hKK KK)); (refine awOps_nil ?_); (refine hKR _ ?_); (try clear hKR KR); (repeat (with_reducible first | refine q1 ?_ | refine q2 ?_ | refine q3 ?_ | refine q4 ?_ | refine q5 ?_ | refine q6 ?_ | (refine q7 ?_ ?_; (focus (with_unfolding_all rfl))))))
  have hfin : List.take ((r.length + 1) * 2) (str x.nm :: int x.w :: bkC r) = str x.nm :: int x.w :: bkC r := List.take_of_length_le (by simp only [List.length_cons]; omega)
  ((refine AW.freeze (0) (by first | rfl | (simp only [setH, List.getElem?_cons_zero, List.getElem?_cons_succ, hfz, hfin, hll, Nat.le_refl]; done)) ?_); simp (disch := omega) only [fzT, fz, fzL, fzL_ints, fzL_mat, fzH, fzB, eq_self, bb, bt, zDs, zD, eqCells, simprocAttr, hfz, hfin, hll, Nat.le_refl])
  ((repeat refine AW_seq ?_); (refine wta ?_); simp (disch := omega) only [retQ, resD, oneD, bb, bt, zDs, zD, eqCells, simprocAttr, Try.results69])
  exact rsv_tidy _ _ (by simp only [tidyD, htd, Bool.not_false, Bool.and_self])
theorem cloneHd (x : Hd) (r : List Hd) (hl : r.length ≤ 1000) : PRet Try.prog 70 [hds (x :: r)] (hds (x :: r)) := by
  refine PRet.intro 1 fun t => ACall.enter tab_ok Try.func70 rfl rfl Try.ntmps70 (by simp) ?_
  simp only [enterTM]
  have f2 : hdC (x :: r) = str x.b :: int x.p :: int x.n :: int x.d :: hdC r := rfl
  have hcl := cellsW_hd r
  have hld := hdC_div (x :: r)
  have hll := hdC_len (x :: r)
  have hfz := fz_hd
  have htd := tidy_hd (x :: r)
  have f1 : hds (x :: r) = .sl 4 (str x.b :: int x.p :: int x.n :: int x.d :: hdC r) false := rfl
  rw [f2] at hld hll htd
  rw [f1]
  simp only [List.length_cons] at hll hld
  ((refine wqa ?_))
  ((refine wqa ?_))
  ((refine wia ?_))
  ((refine wsa ?_))
  ((repeat refine AW_seq ?_); (refine AW_region_k tab_ok fun KR hKR => ?_); (repeat ((first | refine awOps_n rfl fun KK hKK => ?_ | refine awOps_g rfl rfl fun KK hKK => ?_ | refine awOps_gc rfl fun KK hKK => ?_); simp (disch := omega) only [bb, bt, zDs, zD, eqCells, simprocAttr, isSlice, hcl, hld]; refine hKK _ ?_; clear hKK KK)); (refine awOps_nil ?_); (refine hKR _ ?_); (try clear hKR KR); (repeat (with_reducible first | refine q1 ?_ | refine q2 ?_ | refine q3 ?_ | refine q4 ?_ | refine q5 ?_ | refine q6 ?_ | (refine q7 ?_ ?_; (focus (with_unfolding_all rfl))))))
  have hfin : List.take ((r.length + 1) * 4) (str x.b :: int x.p :: int x.n :: int x.d :: hdC r) = str x.b :: int x.p :: int x.n :: int x.d :: hdC r := List.take_of_length_le (by simp only [List.length_cons]; omega)
  ((refine AW.freeze (0) (by first | rfl | (simp only [setH, List.getElem?_cons_zero, List.getElem?_cons_succ, hfz, hfin, hll, Nat.le_refl]; done)) ?_); simp (disch := omega) only [fzT, fz, fzL, fzL_ints, fzL_mat, fzH, fzB, eq_self, bb, bt, zDs, zD, eqCells, simprocAttr, hfz, hfin, hll, Nat.le_refl])
  ((repeat refine AW_seq ?_); (refine wta ?_); simp (disch := omega) only [retQ, resD, oneD, bb, bt, zDs, zD, eqCells, simprocAttr, Try.results70])
  exact rsv_tidy _ _ (by simp only [tidyD, htd, Bool.not_false, Bool.and_self])
def erR (rs : List Rp) (a k : Nat) : List Rp := (rs.take k).eraseIdx a
theorem erR_step {rs : List Rp} {a k : Nat} {r : Rp} (hr : rs[k]? = some r) : erR rs a (k + 1) = if k = a then erR rs a k else erR rs a k ++ [r] := by
  have hk := (List.getElem?_eq_some_iff.1 hr).1
  have hl : (rs.take k).length = k := by simp; omega
  unfold erR
  rw [List.take_add_one, hr, Option.toList_some]
  by_cases e : k = a
  · subst e
    have e1 : (rs.take k ++ [r]).eraseIdx k = rs.take k ++ [r].eraseIdx (k - (rs.take k).length) := List.eraseIdx_append_of_length_le (by omega) _
    rw [if_pos rfl, e1, hl, Nat.sub_self, List.eraseIdx_of_length_le (l := rs.take k) (by omega)]
    simp
  · rw [if_neg e]
    by_cases h : a < k
    · rw [List.eraseIdx_append_of_lt_length (by omega)]
    · have e1 : (rs.take k ++ [r]).eraseIdx a = rs.take k ++ [r].eraseIdx (a - (rs.take k).length) := List.eraseIdx_append_of_length_le (by omega) _
      rw [e1, List.eraseIdx_of_length_le (l := rs.take k) (by omega), List.eraseIdx_of_length_le (l := [r]) (by simp; omega)]
theorem erR_len (rs : List Rp) (a k : Nat) : (erR rs a k).length ≤ k := by
  have h1 := List.length_eraseIdx_le (rs.take k) a
  have h2 := List.length_take_le k rs
  unfold erR
  omega
theorem erR_end (rs : List Rp) (a : Nat) : erR rs a rs.length = rs.eraseIdx a := by simp [erR]
def outP (s : Sy) (nm : ByteArray) : Sy × Int := if (findM s nm).2 ≠ 0 then (⟨[], []⟩, (findM s nm).2) else if s.rs.length = 1 then (⟨[], []⟩, 14) else (⟨s.bs, s.rs.eraseIdx (findM s nm).1.toNat⟩, 0)
set_option maxHeartbeats 4000000 in
theorem without_prog (s : Sy) (hf : Fits s) (nm : ByteArray) : PRet Try.prog 28 [syD s, str nm] (.tup [syD (outP s nm).1, int (outP s nm).2]) := by
  refine PRet.intro 1 fun t => ACall.enter tab_ok Try.func28 rfl rfl Try.ntmps28 (by simp) ?_
  simp only [enterTM]
  have hF := find_mob s hf nm
  have hdr := rpC_div s.rs
  by_cases h0 : (findM s nm).2 = 0
  rotate_left 1
  · have h0' : ((findM s nm).2 != 0) = true := by simpa using h0
    have e : outP s nm = (⟨[], []⟩, (findM s nm).2) := by simp [outP, h0]
    generalize findM s nm = Z at *
    ((refine gga1 hF ?_))
    ((repeat refine AW_seq ?_))
    refine AW_mid (fun _ : Nat => ⟨[], [], 0⟩) (fun _ => False) ?_ (fun _ h => h.elim)
    refine AW_block ?_
    ((refine ggb0 h0' ?_))
    ((repeat refine AW_seq ?_); (refine wta ?_); simp (disch := omega) only [retQ, resD, oneD, rsv, rs, rsL, rsL_eq_map, List.map_map, bb, bt, zDs, zD, eqCells, simprocAttr, Try.results28, e])
    rfl
  obtain ⟨hv, i, r0, hZ, hri, hrn⟩ := findM_ok h0
  rw [hZ] at hF
  by_cases h1 : s.rs.length = 1
  · have e : outP s nm = (⟨[], []⟩, 14) := by simp [outP, h0, h1]
    have h1' : ((s.rs.length : Int) == 1) = true := by simp [h1]
    ((refine gga1 hF ?_))
    ((repeat refine AW_seq ?_))
    refine AW_mid (fun _ : Nat => ⟨[], [], 0⟩) (fun _ => False) ?_ (fun _ h => h.elim)
    refine AW_block ?_
    ((refine ggb0 (F := _∧_) ⟨hdr, h1'⟩ ?_))
    ((repeat refine AW_seq ?_); (refine wta ?_); simp (disch := omega) only [retQ, resD, oneD, rsv, rs, rsL, rsL_eq_map, List.map_map, bb, bt, zDs, zD, eqCells, simprocAttr, Try.results28, e])
    rfl
  have e : outP s nm = (⟨s.bs, s.rs.eraseIdx i⟩, 0) := by
    unfold outP
    rw [if_neg (by simpa using h0), if_neg h1, hZ, Int.toNat_natCast]
  have h1' : ((s.rs.length : Int) == 1) = false := by simpa using fun h : (s.rs.length : Int) = 1 => h1 (by omega)
  rw [e]
  clear e
  have ok := validS_ok hv
  have hb6 := ok.b6
  have hb1 := ok.b1
  have hr6 := ok.r6
  have hB : PRet Try.prog 69 [bks s.bs] (bks s.bs) := by
    cases hbs : s.bs with
    | nil => rw [hbs] at hb1; simp at hb1
    | cons x l => exact cloneBk x l (by rw [hbs] at hb6; simp at hb6; omega)
  ((refine gga1 hF ?_))
  ((repeat refine AW_seq ?_))
  refine AW_mid (fun x : Nat => ⟨[(2, .ptr 0 (t + 1) 0), (4, .ptr 1 (t + 1 + 1) 0), (6, int i)], [some ⟨25, t + 1, [bks s.bs, rps s.rs]⟩, some ⟨25, t + 1 + 1, [.sl 2 [] true, .sl 3 [] true]⟩], x⟩) (fun _ => True) ?_ ?_
  · refine AW_block ?_
    ((refine ggb0 (F := _∧_) ⟨hdr, h1'⟩ ?_))
    exact ⟨t + 1 + 1, trivial, by (simp (disch := omega) only [StLe, tmLe, hpLe_refl, hpLe, bl, bb, bt, zDs, zD, eqCells, simprocAttr])⟩
  rintro t0 -
  ((refine ggb1 hdr hB ?_))
  refine AW.begin_cell 2 1 3 39 rfl rfl (by decide) ?_
  simp only [List.set_cons_succ, List.set_cons_zero, List.length_cons, List.length_nil, List.cons_append, List.nil_append, Nat.zero_add, Nat.reduceAdd]
  have hz0 : erR s.rs i 0 = [] := by simp [erR]
  have hz1 : rpC [] = [] := rfl
  refine AW_mid (fun x : Nat × Nat => ⟨[(4, .ptr 1 (t + 1 + 1) 0), (8, .ptr 2 (t0 + 1) 0)], [none, some ⟨25, t + 1 + 1, [.sl 2 [] true, .sl 3 [] true]⟩, some ⟨25, t0 + 1, [bks s.bs, .own 3 3 x.1 0 (s.rs.eraseIdx i).length]⟩, some ⟨39, x.1, rpC (s.rs.eraseIdx i)⟩], x.2⟩) (fun _ => True) ?_ ?_
  · refine AW_block ?_
    refine AW_loop_w (fun x : Nat × Nat × Nat => ⟨[(2, .ptr 0 (t + 1) 0), (4, .ptr 1 (t + 1 + 1) 0), (6, int i), (8, .ptr 2 (t0 + 1) 0), (33, rps s.rs), (34, int s.rs.length), (35, int x.1)], [some ⟨25, t + 1, [bks s.bs, rps s.rs]⟩, some ⟨25, t + 1 + 1, [.sl 2 [] true, .sl 3 [] true]⟩, some ⟨25, t0 + 1, [bks s.bs, .own 3 3 x.2.1 0 (erR s.rs i x.1).length]⟩, some ⟨39, x.2.1, rpC (erR s.rs i x.1)⟩], x.2.2⟩) (fun x => s.rs.length - x.1) (fun x => x.1 ≤ s.rs.length) (0, t0 + 1 + 1, t0 + 1 + 1) (Nat.zero_le _) (by (simp (disch := omega) only [StLe, tmLe, hpLe_refl, hpLe, bl, bb, bt, zDs, zD, eqCells, simprocAttr, hz0, hz1, List.length_nil])) ?_
    rintro ⟨k, g, tt⟩ hk
    simp only at hk
    by_cases hlt : k < s.rs.length
    · obtain ⟨r, hr⟩ : ∃ y, s.rs[k]? = some y := ⟨_, List.getElem?_eq_getElem hlt⟩
      have hra := rpC_read s.rs k r hr
      have hst := erR_step (a := i) hr
      obtain ⟨ho1, ho2, _⟩ := ok.holds r (List.mem_of_getElem? hr)
      have hH : PRet Try.prog 70 [hds r.hs] (hds r.hs) := by
        cases hhs : r.hs with
        | nil => rw [hhs] at ho1; simp at ho1
        | cons x l => exact cloneHd x l (by rw [hhs] at ho2; simp at ho2; omega)
      have hel := rpC_len (erR s.rs i k)
      have hel2 := erR_len s.rs i k
      have happ := rpC_app (erR s.rs i k) r
      generalize erR s.rs i k = E at *
      ((refine ggb0 (F := _∧_) ⟨@Int.ofNat_lt, hlt⟩ ?_))
      ((repeat refine AW_seq ?_))
      refine AW_block ?_
      by_cases hki : k = i
      · have hki' : ((k : Int) != (i : Int)) = false := by simp [hki]
        rw [if_pos hki] at hst
        ((refine ggb0 (F := _∧_∧_∧_) ⟨hlt, hdr, hra, hki'⟩ ?_))
        refine ⟨(k + 1, g, tt + 1), hlt, by show s.rs.length - (k + 1) < s.rs.length - k; omega, ?_⟩
        simp only [hst]
        (simp (disch := omega) only [StLe, tmLe, hpLe_refl, hpLe, bl, bb, bt, zDs, zD, eqCells, simprocAttr])
      · have hki' : ((k : Int) != (i : Int)) = true := by simp; omega
        rw [if_neg hki] at hst
        ((refine ggb1 (F := _∧_∧_∧_∧_) ⟨hlt, hdr, hra, hki', hel⟩ hH ?_))
        refine ⟨(k + 1, tt + 1 + 1, tt + 1 + 1), hlt, by show s.rs.length - (k + 1) < s.rs.length - k; omega, ?_⟩
        simp only [hst, happ, List.length_append, List.length_cons, List.length_nil]
        (simp (disch := omega) only [StLe, tmLe, hpLe_refl, hpLe, bl, bb, bt, zDs, zD, eqCells, simprocAttr])
    · have hke : k = s.rs.length := by omega
      subst hke
      rw [erR_end]
      ((refine wqb @Int.lt_irrefl ?_))
      ((refine wia ?_))
      ((refine wxa ?_))
      exact ⟨(g, tt), trivial, by (simp (disch := omega) only [StLe, tmLe, hpLe_refl, hpLe, bl, bb, bt, zDs, zD, eqCells, simprocAttr])⟩
  rintro ⟨g, tt⟩ -
  generalize s.rs.eraseIdx i = E
  have hel := rpC_len E
  have hfin : List.take (E.length * 3) (rpC E) = rpC E := List.take_of_length_le (by omega)
  ((refine AW.freeze (3) (by first | rfl | (simp only [setH, List.getElem?_cons_zero, List.getElem?_cons_succ, fz_bk, fz_rp, hfin, hel, Nat.le_refl]; done)) ?_); simp (disch := omega) only [fzT, fz, fzL, fzL_ints, fzL_mat, fzH, fzB, eq_self, bb, bt, zDs, zD, eqCells, simprocAttr, fz_bk, fz_rp, hfin, hel, Nat.le_refl])
  ((refine gga0 ?_))
  ((repeat refine AW_seq ?_); (refine wta ?_); simp (disch := omega) only [retQ, resD, oneD, bb, bt, zDs, zD, eqCells, simprocAttr, Try.results28])
  exact rsv_tidy _ _ (by simp only [tidyD, tidyL, tidy_bk, tidy_rp, Bool.not_false, Bool.and_self])
set_option maxHeartbeats 4000000 in
theorem copySy (s : Sy) (ok : OkS s) : PRet Try.prog 12 [syD s] (syD s) := by
  refine PRet.intro 1 fun t => ACall.enter tab_ok Try.func12 rfl rfl Try.ntmps12 (by simp) ?_
  simp only [enterTM]
  have hdr := rpC_div s.rs
  have hdb := bkC_div s.bs
  have hlb := bkC_len s.bs
  have b1 := ok.b1
  have b6 := ok.b6
  have r6 := ok.r6
  have hcb := cellsW_bk s.bs
  have hnb : (bkC s.bs = []) = False := by
    simp only [eq_iff_iff, iff_false]
    intro e
    rw [e] at hlb
    simp at hlb
    omega
  ((refine wqa ?_))
  ((refine wqb (F := _∧_∧_) ⟨hcb, hnb, hdb⟩ ?_))
  have hfb : List.take (s.bs.length * 2) (bkC s.bs) = bkC s.bs := List.take_of_length_le (by omega)
  ((refine AW.freeze (2) (by first | rfl | (simp only [setH, List.getElem?_cons_zero, List.getElem?_cons_succ, fz_bk, fz_rp, hfb, hlb, Nat.le_refl]; done)) ?_); simp (disch := omega) only [fzT, fz, fzL, fzL_ints, fzL_mat, fzH, fzB, eq_self, bb, bt, zDs, zD, eqCells, simprocAttr, fz_bk, fz_rp, hfb, hlb, Nat.le_refl])
  ((refine wqa ?_))
  refine AW.begin_cell 3 1 3 39 rfl rfl (by decide) ?_
  simp only [List.set_cons_succ, List.set_cons_zero, List.length_cons, List.length_nil, List.cons_append, List.nil_append, Nat.zero_add, Nat.reduceAdd]
  have hz1 : rpC [] = [] := rfl
  refine AW_mid (fun x : Nat × Nat => ⟨[(2, .ptr 1 (t + 1 + 1) 0), (3, .ptr 3 (t + 1 + 1 + 1 + 1) 0)], [none, some ⟨25, t + 1 + 1, [.sl 2 [] true, .sl 3 [] true]⟩, none, some ⟨25, t + 1 + 1 + 1 + 1, [bks s.bs, .own 3 4 x.1 0 s.rs.length]⟩, some ⟨39, x.1, rpC s.rs⟩], x.2⟩) (fun _ => True) ?_ ?_
  · refine AW_block ?_
    refine AW_loop_w (fun x : Nat × Nat × Nat => ⟨[(1, .ptr 0 (t + 1) 0), (2, .ptr 1 (t + 1 + 1) 0), (3, .ptr 3 (t + 1 + 1 + 1 + 1) 0), (4, int x.1)], [some ⟨25, t + 1, [bks s.bs, rps s.rs]⟩, some ⟨25, t + 1 + 1, [.sl 2 [] true, .sl 3 [] true]⟩, none, some ⟨25, t + 1 + 1 + 1 + 1, [bks s.bs, .own 3 4 x.2.1 0 x.1]⟩, some ⟨39, x.2.1, rpC (s.rs.take x.1)⟩], x.2.2⟩) (fun x => s.rs.length - x.1) (fun x => x.1 ≤ s.rs.length) (0, t + 1 + 1 + 1 + 1 + 1, t + 1 + 1 + 1 + 1 + 1) (Nat.zero_le _) (by (simp (disch := omega) only [StLe, tmLe, hpLe_refl, hpLe, bl, bb, bt, zDs, zD, eqCells, simprocAttr, List.take_zero, hz1])) ?_
    rintro ⟨k, g, tt⟩ hk
    simp only at hk
    by_cases hlt : k < s.rs.length
    · obtain ⟨r, hr⟩ : ∃ y, s.rs[k]? = some y := ⟨_, List.getElem?_eq_getElem hlt⟩
      have hra := rpC_read s.rs k r hr
      obtain ⟨ho1, ho2, _⟩ := ok.holds r (List.mem_of_getElem? hr)
      have hch := cellsW_hd r.hs
      have hlh := hdC_len r.hs
      have hdh := hdC_div r.hs
      have hnh : (hdC r.hs = []) = False := by
        simp only [eq_iff_iff, iff_false]
        intro e
        rw [e] at hlh
        simp at hlh
        omega
      have htk : s.rs.take (k + 1) = s.rs.take k ++ [r] := by rw [List.take_add_one, hr]; rfl
      have htl : (s.rs.take k).length = k := by simp; omega
      have hel := rpC_len (s.rs.take k)
      rw [htl] at hel
      have happ := rpC_app (s.rs.take k) r
      generalize s.rs.take k = E at *
      ((refine ggb0 (F := _∧_∧_) ⟨@Int.ofNat_lt, hlt, hdr⟩ ?_))
      ((repeat refine AW_seq ?_))
      refine AW_block ?_
      ((refine wqb (F := _∧_∧_) ⟨hlt, hdr, hra⟩ ?_))
      ((refine wqb (F := _∧_∧_) ⟨hch, hnh, hdh⟩ ?_))
      have hfh : List.take (r.hs.length * 4) (hdC r.hs) = hdC r.hs := List.take_of_length_le (by omega)
      ((refine AW.freeze (6) (by first | rfl | (simp only [setH, List.getElem?_cons_zero, List.getElem?_cons_succ, fz_bk, fz_rp, fz_hd, hfh, hlh, Nat.le_refl]; done)) ?_); simp (disch := omega) only [fzT, fz, fzL, fzL_ints, fzL_mat, fzH, fzB, eq_self, bb, bt, zDs, zD, eqCells, simprocAttr, fz_bk, fz_rp, fz_hd, hfh, hlh, Nat.le_refl])
      ((refine ggb0 hel ?_))
      refine ⟨(k + 1, tt + 1 + 1 + 1, tt + 1 + 1 + 1), hlt, by show s.rs.length - (k + 1) < s.rs.length - k; omega, ?_⟩
      simp only [htk, happ]
      (simp (disch := omega) only [StLe, tmLe, hpLe_refl, hpLe, bl, bb, bt, zDs, zD, eqCells, simprocAttr])
    · have hke : k = s.rs.length := by omega
      subst hke
      rw [List.take_length]
      ((refine wqb (F := _∧_) ⟨@Int.lt_irrefl, hdr⟩ ?_))
      ((refine wia ?_))
      ((refine wxa ?_))
      exact ⟨(g, tt), trivial, by (simp (disch := omega) only [StLe, tmLe, hpLe_refl, hpLe, bl, bb, bt, zDs, zD, eqCells, simprocAttr])⟩
  rintro ⟨g, tt⟩ -
  have hel := rpC_len s.rs
  have hfin : List.take (s.rs.length * 3) (rpC s.rs) = rpC s.rs := List.take_of_length_le (by omega)
  ((refine AW.freeze (4) (by first | rfl | (simp only [setH, List.getElem?_cons_zero, List.getElem?_cons_succ, fz_bk, fz_rp, hfin, hel, Nat.le_refl]; done)) ?_); simp (disch := omega) only [fzT, fz, fzL, fzL_ints, fzL_mat, fzH, fzB, eq_self, bb, bt, zDs, zD, eqCells, simprocAttr, fz_bk, fz_rp, hfin, hel, Nat.le_refl])
  ((refine gga0 ?_))
  ((repeat refine AW_seq ?_); (refine wta ?_); simp (disch := omega) only [retQ, resD, oneD, bb, bt, zDs, zD, eqCells, simprocAttr, Try.results12])
  exact rsv_tidy _ _ (tidy_sy s)
set_option maxHeartbeats 4000000 in
theorem without_ref (s : Sy) (hf : Fits s) (nm : ByteArray) : PRet Try.prog 29 [syD s, str nm] (.tup [syD (outP s nm).1, int (outP s nm).2]) := by
  refine PRet.intro 1 fun t => ACall.enter tab_ok Try.func29 rfl rfl Try.ntmps29 (by simp) ?_
  simp only [enterTM]
  have hV := valid_ref s hf
  have hdr := rpC_div s.rs
  cases hv : validS s
  · rw [hv] at hV
    have e : outP s nm = (⟨[], []⟩, 1) := by simp [outP, findM, hv]
    ((refine gga1 hV ?_))
    ((repeat refine AW_seq ?_); (refine wta ?_); simp (disch := omega) only [retQ, resD, oneD, rsv, rs, rsL, rsL_eq_map, List.map_map, bb, bt, zDs, zD, eqCells, simprocAttr, Try.results29, e])
    rfl
  rw [hv] at hV
  have ok := validS_ok hv
  have hr6 := ok.r6
  have hF := refFindRope s nm (by omega)
  by_cases hb : findR s.rs nm < 0
  · have e : outP s nm = (⟨[], []⟩, 9) := by simp [outP, findM, hv, hb]
    generalize findR s.rs nm = K at *
    ((refine ggb2 hb hV hF ?_))
    ((repeat refine AW_seq ?_); (refine wta ?_); simp (disch := omega) only [retQ, resD, oneD, rsv, rs, rsL, rsL_eq_map, List.map_map, bb, bt, zDs, zD, eqCells, simprocAttr, Try.results29, e])
    rfl
  have hfm : findM s nm = (findR s.rs nm, 0) := by simp [findM, hv, hb]
  obtain ⟨_, i, r0, hZ, hri, hrn⟩ := findM_ok (s := s) (nm := nm) (by rw [hfm])
  have hfi : findR s.rs nm = (i : Int) := by
    rw [hfm] at hZ
    exact (Prod.mk.inj hZ).1
  rw [hfi] at hF
  have hi0 : ¬ (i : Int) < 0 := by omega
  by_cases h1 : s.rs.length = 1
  · have e : outP s nm = (⟨[], []⟩, 14) := by simp [outP, hZ, h1]
    have h1' : ((s.rs.length : Int) == 1) = true := by simp [h1]
    ((refine ggb2 (F := _∧_∧_) ⟨hdr, h1', hi0⟩ hV hF ?_))
    ((repeat refine AW_seq ?_); (refine wta ?_); simp (disch := omega) only [retQ, resD, oneD, rsv, rs, rsL, rsL_eq_map, List.map_map, bb, bt, zDs, zD, eqCells, simprocAttr, Try.results29, e])
    rfl
  have e : outP s nm = (⟨s.bs, s.rs.eraseIdx i⟩, 0) := by
    unfold outP
    rw [hZ, if_neg (by simp), if_neg h1, Int.toNat_natCast]
  have h1' : ((s.rs.length : Int) == 1) = false := by simpa using fun h : (s.rs.length : Int) = 1 => h1 (by omega)
  rw [e]
  clear e
  have hC := copySy s ok
  ((refine ggb3 (F := _∧_∧_) ⟨hdr, h1', hi0⟩ hV hF hC ?_))
  refine AW.begin 8 3 39 rfl (by decide) ?_
  simp only [putTM, List.length_cons, List.length_nil, Nat.reduceEqDiff, ↓reduceIte, List.cons_append, List.nil_append]
  have hz0 : erR s.rs i 0 = [] := by simp [erR]
  have hz1 : rpC [] = [] := rfl
  refine AW_mid (fun x : Nat × Nat => ⟨[(4, .ptr 1 (t + 1 + 1) 0), (7, .ptr 2 (t + 1 + 1 + 1) 0), (8, .own 3 3 x.1 0 (s.rs.eraseIdx i).length)], [none, some ⟨25, t + 1 + 1, [.sl 2 [] true, .sl 3 [] true]⟩, some ⟨25, t + 1 + 1 + 1, [bks s.bs, rps s.rs]⟩, some ⟨39, x.1, rpC (s.rs.eraseIdx i)⟩], x.2⟩) (fun _ => True) ?_ ?_
  · refine AW_block ?_
    refine AW_loop_w (fun x : Nat × Nat × Nat => ⟨[(4, .ptr 1 (t + 1 + 1) 0), (6, int i), (7, .ptr 2 (t + 1 + 1 + 1) 0), (8, .own 3 3 x.2.1 0 (erR s.rs i x.1).length), (9, int x.1)], [none, some ⟨25, t + 1 + 1, [.sl 2 [] true, .sl 3 [] true]⟩, some ⟨25, t + 1 + 1 + 1, [bks s.bs, rps s.rs]⟩, some ⟨39, x.2.1, rpC (erR s.rs i x.1)⟩], x.2.2⟩) (fun x => s.rs.length - x.1) (fun x => x.1 ≤ s.rs.length) (0, t + 1 + 1 + 1 + 1, t + 1 + 1 + 1 + 1) (Nat.zero_le _) (by (simp (disch := omega) only [StLe, tmLe, hpLe_refl, hpLe, bl, bb, bt, zDs, zD, eqCells, simprocAttr, hz0, hz1, List.length_nil])) ?_
    rintro ⟨k, g, tt⟩ hk
    simp only at hk
    by_cases hlt : k < s.rs.length
    · obtain ⟨r, hr⟩ : ∃ y, s.rs[k]? = some y := ⟨_, List.getElem?_eq_getElem hlt⟩
      have hra := rpC_read s.rs k r hr
      have hst := erR_step (a := i) hr
      have hel := rpC_len (erR s.rs i k)
      have hel2 := erR_len s.rs i k
      have happ := rpC_app (erR s.rs i k) r
      generalize erR s.rs i k = E at *
      ((refine ggb0 (F := _∧_∧_) ⟨@Int.ofNat_lt, hlt, hdr⟩ ?_))
      ((repeat refine AW_seq ?_))
      refine AW_block ?_
      by_cases hki : k = i
      · have hki' : ((k : Int) != (i : Int)) = false := by simp [hki]
        rw [if_pos hki] at hst
        ((refine ggb0 (F := _∧_∧_∧_) ⟨hlt, hdr, hra, hki'⟩ ?_))
        refine ⟨(k + 1, g, tt), hlt, by show s.rs.length - (k + 1) < s.rs.length - k; omega, ?_⟩
        simp only [hst]
        (simp (disch := omega) only [StLe, tmLe, hpLe_refl, hpLe, bl, bb, bt, zDs, zD, eqCells, simprocAttr])
      · have hki' : ((k : Int) != (i : Int)) = true := by simp; omega
        rw [if_neg hki] at hst
        ((refine ggb0 (F := _∧_∧_∧_∧_) ⟨hlt, hdr, hra, hki', hel⟩ ?_))
        refine ⟨(k + 1, tt + 1, tt + 1), hlt, by show s.rs.length - (k + 1) < s.rs.length - k; omega, ?_⟩
        simp only [hst, happ, List.length_append, List.length_cons, List.length_nil]
        (simp (disch := omega) only [StLe, tmLe, hpLe_refl, hpLe, bl, bb, bt, zDs, zD, eqCells, simprocAttr])
    · have hke : k = s.rs.length := by omega
      subst hke
      rw [erR_end]
      ((refine wqb (F := _∧_) ⟨@Int.lt_irrefl, hdr⟩ ?_))
      ((refine wia ?_))
      ((refine wxa ?_))
      exact ⟨(g, tt), trivial, by (simp (disch := omega) only [StLe, tmLe, hpLe_refl, hpLe, bl, bb, bt, zDs, zD, eqCells, simprocAttr])⟩
  rintro ⟨g, tt⟩ -
  generalize s.rs.eraseIdx i = E
  have hel := rpC_len E
  have hfin : List.take (E.length * 3) (rpC E) = rpC E := List.take_of_length_le (by omega)
  ((refine AW.freeze (3) (by first | rfl | (simp only [setH, List.getElem?_cons_zero, List.getElem?_cons_succ, fz_bk, fz_rp, hfin, hel, Nat.le_refl]; done)) ?_); simp (disch := omega) only [fzT, fz, fzL, fzL_ints, fzL_mat, fzH, fzB, eq_self, bb, bt, zDs, zD, eqCells, simprocAttr, fz_bk, fz_rp, hfin, hel, Nat.le_refl])
  ((refine gga0 ?_))
  ((repeat refine AW_seq ?_); (refine wta ?_); simp (disch := omega) only [retQ, resD, oneD, bb, bt, zDs, zD, eqCells, simprocAttr, Try.results29])
  exact rsv_tidy _ _ (by simp only [tidyD, tidyL, tidy_bk, tidy_rp, Bool.not_false, Bool.and_self])
/-! A system is the same as itself; MobilityWithout. -/
theorem sameRope_self (r : Rp) (hl : r.hs.length ≤ 1000) : PRet Try.prog 71 [.agg (rp1 r), .agg (rp1 r)] (bool true) := by
  refine PRet.intro 1 fun t => ACall.enter tab_ok Try.func71 rfl rfl Try.ntmps71 (by simp) ?_
  simp only [enterTM]
  have hdh := hdC_div r.hs
  have e1 : decide (r.nm = r.nm) = true := by simp
  have e2 : (r.hl != r.hl) = false := by simp
  have e3 : ((r.hs.length : Int) != (r.hs.length : Int)) = false := by simp
  ((refine ggb0 (F := _∧_∧_∧_) ⟨hdh, e1, e2, e3⟩ ?_))
  ((repeat refine AW_seq ?_))
  refine AW_mid (fun x : Nat => ⟨[], [], x⟩) (fun _ => True) ?_ ?_
  · refine AW_block ?_
    refine AW_loop_w (fun x : Nat × Nat => ⟨[(2, .ptr 0 (t + 1) 0), (3, .ptr 1 (t + 1 + 1) 0), (5, int x.1)], [some ⟨39, t + 1, rp1 r⟩, some ⟨39, t + 1 + 1, rp1 r⟩], x.2⟩) (fun x => r.hs.length - x.1) (fun x => x.1 ≤ r.hs.length) (0, t + 1 + 1) (Nat.zero_le _) (by (simp (disch := omega) only [StLe, tmLe, hpLe_refl, hpLe, bl, bb, bt, zDs, zD, eqCells, simprocAttr])) ?_
    rintro ⟨k, tt⟩ hk
    simp only at hk
    by_cases hlt : k < r.hs.length
    · obtain ⟨h, hh⟩ : ∃ y, r.hs[k]? = some y := ⟨_, List.getElem?_eq_getElem hlt⟩
      have hha := hdC_read r.hs k h hh
      ((refine ggb0 (F := _∧_∧_) ⟨@Int.ofNat_lt, hlt, hdh⟩ ?_))
      ((repeat refine AW_seq ?_))
      refine AW_block ?_
      have d1 : decide (h.b = h.b) = true := by simp
      ((repeat refine AW_seq ?_); (refine gdzb (F := _∧_∧_∧_) ⟨hlt, hdh, hha, d1⟩ ?_))
      ((refine gga0 ?_))
      refine ⟨(k + 1, tt + 1), hlt, by show r.hs.length - (k + 1) < r.hs.length - k; omega, ?_⟩
      (simp (disch := omega) only [StLe, tmLe, hpLe_refl, hpLe, bl, bb, bt, zDs, zD, eqCells, simprocAttr])
    · have hke : k = r.hs.length := by omega
      subst hke
      ((refine wqb (F := _∧_) ⟨@Int.lt_irrefl, hdh⟩ ?_))
      ((refine wia ?_))
      ((refine wxa ?_))
      exact ⟨tt, trivial, by (simp (disch := omega) only [StLe, tmLe, hpLe_refl, hpLe, bl, bb, bt, zDs, zD, eqCells, simprocAttr])⟩
  rintro tt -
  ((refine gga0 ?_))
  ((repeat refine AW_seq ?_); (refine wta ?_); simp (disch := omega) only [retQ, resD, oneD, rsv, rs, rsL, rsL_eq_map, List.map_map, bb, bt, zDs, zD, eqCells, simprocAttr, Try.results71])
theorem same_self (s : Sy) (h1 : s.bs.length ≤ 1000) (h2 : s.rs.length ≤ 1000) (h3 : ∀ r ∈ s.rs, r.hs.length ≤ 1000) : PRet Try.prog 30 [syD s, syD s] (bool true) := by
  refine PRet.intro 1 fun t => ACall.enter tab_ok Try.func30 rfl rfl Try.ntmps30 (by simp) ?_
  simp only [enterTM]
  have hdr := rpC_div s.rs
  have hdb := bkC_div s.bs
  have e1 : ((s.bs.length : Int) != (s.bs.length : Int)) = false := by simp
  have e2 : ((s.rs.length : Int) != (s.rs.length : Int)) = false := by simp
  ((refine ggb0 (F := _∧_∧_∧_) ⟨hdr, hdb, e1, e2⟩ ?_))
  ((repeat refine AW_seq ?_))
  refine AW_mid (fun x : Nat => ⟨[(2, .ptr 0 (t + 1) 0), (3, .ptr 1 (t + 1 + 1) 0)], [some ⟨25, t + 1, [bks s.bs, rps s.rs]⟩, some ⟨25, t + 1 + 1, [bks s.bs, rps s.rs]⟩], x⟩) (fun _ => True) ?_ ?_
  · refine AW_block ?_
    refine AW_loop_w (fun x : Nat × Nat => ⟨[(2, .ptr 0 (t + 1) 0), (3, .ptr 1 (t + 1 + 1) 0), (5, int x.1)], [some ⟨25, t + 1, [bks s.bs, rps s.rs]⟩, some ⟨25, t + 1 + 1, [bks s.bs, rps s.rs]⟩], x.2⟩) (fun x => s.bs.length - x.1) (fun x => x.1 ≤ s.bs.length) (0, t + 1 + 1) (Nat.zero_le _) (by (simp (disch := omega) only [StLe, tmLe, hpLe_refl, hpLe, bl, bb, bt, zDs, zD, eqCells, simprocAttr])) ?_
    rintro ⟨k, tt⟩ hk
    simp only at hk
    by_cases hlt : k < s.bs.length
    · obtain ⟨h, hh⟩ : ∃ y, s.bs[k]? = some y := ⟨_, List.getElem?_eq_getElem hlt⟩
      have hha := bkC_read s.bs k h hh
      ((refine ggb0 (F := _∧_∧_) ⟨@Int.ofNat_lt, hlt, hdb⟩ ?_))
      ((repeat refine AW_seq ?_))
      refine AW_block ?_
      have d1 : decide (h.nm = h.nm) = true := by simp
      ((repeat refine AW_seq ?_); (refine gdzb (F := _∧_∧_∧_) ⟨hlt, hdb, hha, d1⟩ ?_))
      ((refine gga0 ?_))
      refine ⟨(k + 1, tt + 1), hlt, by show s.bs.length - (k + 1) < s.bs.length - k; omega, ?_⟩
      (simp (disch := omega) only [StLe, tmLe, hpLe_refl, hpLe, bl, bb, bt, zDs, zD, eqCells, simprocAttr])
    · have hke : k = s.bs.length := by omega
      subst hke
      ((refine wqb (F := _∧_) ⟨@Int.lt_irrefl, hdb⟩ ?_))
      ((refine wia ?_))
      ((refine wxa ?_))
      exact ⟨tt, trivial, by (simp (disch := omega) only [StLe, tmLe, hpLe_refl, hpLe, bl, bb, bt, zDs, zD, eqCells, simprocAttr])⟩
  rintro t2 -
  ((refine gga0 ?_))
  ((repeat refine AW_seq ?_))
  refine AW_mid (fun x : Nat => ⟨[], [], x⟩) (fun _ => True) ?_ ?_
  · refine AW_block ?_
    refine AW_loop_w (fun x : Nat × Nat => ⟨[(2, .ptr 0 (t + 1) 0), (3, .ptr 1 (t + 1 + 1) 0), (6, int x.1)], [some ⟨25, t + 1, [bks s.bs, rps s.rs]⟩, some ⟨25, t + 1 + 1, [bks s.bs, rps s.rs]⟩], x.2⟩) (fun x => s.rs.length - x.1) (fun x => x.1 ≤ s.rs.length) (0, t2) (Nat.zero_le _) (by (simp (disch := omega) only [StLe, tmLe, hpLe_refl, hpLe, bl, bb, bt, zDs, zD, eqCells, simprocAttr])) ?_
    rintro ⟨k, tt⟩ hk
    simp only at hk
    by_cases hlt : k < s.rs.length
    · obtain ⟨h, hh⟩ : ∃ y, s.rs[k]? = some y := ⟨_, List.getElem?_eq_getElem hlt⟩
      have hha := rpC_read s.rs k h hh
      have hS := sameRope_self h (h3 h (List.mem_of_getElem? hh))
      ((refine ggb0 (F := _∧_∧_) ⟨@Int.ofNat_lt, hlt, hdr⟩ ?_))
      ((repeat refine AW_seq ?_))
      refine AW_block ?_
      ((repeat refine AW_seq ?_); (refine gdzb1 (F := _∧_∧_) ⟨hlt, hdr, hha⟩ hS ?_))
      ((refine gga0 ?_))
      refine ⟨(k + 1, tt + 1), hlt, by show s.rs.length - (k + 1) < s.rs.length - k; omega, ?_⟩
      (simp (disch := omega) only [StLe, tmLe, hpLe_refl, hpLe, bl, bb, bt, zDs, zD, eqCells, simprocAttr])
    · have hke : k = s.rs.length := by omega
      subst hke
      ((refine wqb (F := _∧_) ⟨@Int.lt_irrefl, hdr⟩ ?_))
      ((refine wia ?_))
      ((refine wxa ?_))
      exact ⟨tt, trivial, by (simp (disch := omega) only [StLe, tmLe, hpLe_refl, hpLe, bl, bb, bt, zDs, zD, eqCells, simprocAttr])⟩
  rintro t3 -
  ((refine gga0 ?_))
  ((repeat refine AW_seq ?_); (refine wta ?_); simp (disch := omega) only [retQ, resD, oneD, rsv, rs, rsL, rsL_eq_map, List.map_map, bb, bt, zDs, zD, eqCells, simprocAttr, Try.results30])
theorem outP_fits {s : Sy} (hf : Fits s) (nm : ByteArray) : (outP s nm).1.bs.length ≤ 1000 ∧ (outP s nm).1.rs.length ≤ 1000 ∧ ∀ r ∈ (outP s nm).1.rs, r.hs.length ≤ 1000 := by
  unfold outP
  split
  · simp
  · split
    · simp
    · rename_i h0 _
      obtain ⟨hv, _⟩ := findM_ok (s := s) (nm := nm) (by simpa using h0)
      have ok := validS_ok hv
      have h1 := ok.b6
      have h2 := ok.r6
      have h3 := List.length_eraseIdx_le s.rs (findM s nm).1.toNat
      refine ⟨by show s.bs.length ≤ _; omega, by show (s.rs.eraseIdx _).length ≤ _; omega, fun r hr => ?_⟩
      have := (ok.holds r (List.mem_of_mem_eraseIdx hr)).2.1
      omega
theorem law_without (s : Sy) (nm : ByteArray) : PRet Try.prog 6 [syD s, str nm] (bool true) := by
  refine PRet.intro 1 fun t => ACall.enter tab_ok Try.func6 rfl rfl Try.ntmps6 (by simp) ?_
  simp only [enterTM]
  have hL := long16 s nm
  cases hlo : longM s nm
  rotate_left 1
  · rw [hlo] at hL
    ((refine gga2 awake16 hL ?_))
    ((repeat refine AW_seq ?_); (refine wta ?_); simp (disch := omega) only [retQ, resD, oneD, rsv, rs, rsL, rsL_eq_map, List.map_map, bb, bt, zDs, zD, eqCells, simprocAttr, Try.results6])
  rw [hlo] at hL
  have hs : smallS s = true := by
    unfold longM at hlo
    rw [Bool.or_eq_false_iff] at hlo
    simpa using hlo.1
  have hf := small_fits hs
  have hP := without_prog s hf nm
  have hR := without_ref s hf nm
  obtain ⟨f1, f2, f3⟩ := outP_fits hf nm
  have hS := same_self (outP s nm).1 f1 f2 f3
  generalize outP s nm = X at *
  ((refine gga4_MRW awake16 hL hP hR ?_))
  have e1 : (X.2 == X.2) = true := by simp
  ((refine ggb1 e1 hS ?_))
  ((repeat refine AW_seq ?_); (refine wta ?_); simp (disch := omega) only [retQ, resD, oneD, rsv, rs, rsL, rsL_eq_map, List.map_map, bb, bt, zDs, zD, eqCells, simprocAttr, Try.results6])
end Go.Proofs.Ytjmmenfbcbagoaa.T
