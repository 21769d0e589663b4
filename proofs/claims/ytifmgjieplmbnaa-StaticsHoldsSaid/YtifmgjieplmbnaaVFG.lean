import Derived.Test.YtifmgjieplmbnaaVJ
import Derived.Test.YtifmgjieplmbnaaSQS
import Derived.Test.YtifmgjieplmbnaaWC
set_option linter.all false
section
namespace Go.Proofs.Ytifmgjieplmbnaa.T
open Go Go.RowKit Lin
theorem gga6_VFG {C1 C2 C3 C4 C5 C6 P Q : Prop} (c1 : C1) (c2 : C2) (c3 : C3) (c4 : C4) (c5 : C5) (c6 : C6) (q : Q) (h : C1 → C2 → C3 → C4 → C5 → C6 → Q → P := by
  intro cc1 cc2 cc3 cc4 cc5 cc6 hq
  (try with_reducible intro KR hKR)
  (repeat' (first | (with_reducible refine AW_seq ?_) | (with_reducible refine AW_region_k tab_ok fun KR hKR => ?_) | ((first | with_reducible refine AW_skip ?_ | with_reducible refine AW_exit ?_ | ((with_reducible refine awOps_nil ?_); refine hKR _ ?_; (try clear hKR KR))); (repeat (with_reducible first | refine q1 ?_ | refine q2 ?_ | refine q3 ?_ | refine q4 ?_ | refine q5 ?_ | refine q6 ?_ | (refine q7 ?_ ?_; (focus (with_unfolding_all rfl)))))) | ((first | ((with_reducible refine at_ops ?_); (first | refine awOps_n rfl fun KK hKK => ?_ | refine awOps_g rfl rfl fun KK hKK => ?_ | refine awOps_gc rfl fun KK hKK => ?_ | refine awOps_nc fun KK hKK => ?_)) | with_reducible refine AW_cond_k (tab := tab) fun KK hKK => ?_); simp (disch := omega) only [bb, bt, zDs, zD, eqCells, simprocAttr, bne_self_eq_false, Int.reduceBNe, Int.reduceBEq, Bool.bne_false, Bool.bne_true, Bool.false_bne, Bool.true_bne, goC, callO_fn, argsD, and_self]; (try ((first | (with_reducible refine ACall.of_pret (cc1) ?_ ?_; (focus (first | (simp only [um]; done) | rfl))) | (with_reducible refine ACall.of_pret (cc2) ?_ ?_; (focus (first | (simp only [um]; done) | rfl))) | (with_reducible refine ACall.of_pret (cc3) ?_ ?_; (focus (first | (simp only [um]; done) | rfl))) | (with_reducible refine ACall.of_pret (cc4) ?_ ?_; (focus (first | (simp only [um]; done) | rfl))) | (with_reducible refine ACall.of_pret (cc5) ?_ ?_; (focus (first | (simp only [um]; done) | rfl))) | (with_reducible refine ACall.of_pret (cc6) ?_ ?_; (focus (first | (simp only [um]; done) | rfl)))); simp only [afterC, St.put, putTM, ↓reduceIte, Nat.reduceEqDiff])); refine hKK _ ?_; clear hKK KK; (first | with_reducible refine at_ops ?_ | with_reducible refine i1 ?_ | with_reducible refine i0 ?_))))
  (first | exact hq | (revert hKR; revert KR; exact hq))) : P := h c1 c2 c3 c4 c5 c6 q
set_option linter.unusedSimpArgs false

/-! Chapter 11: the law of equilibrium. -/
theorem wts_sum {s : Sy} (ok : OkS s) : ∀ k, k ≤ s.bs.length → 0 ≤ ((wtsS s).take k).sum ∧ ((wtsS s).take k).sum ≤ 16777216 * (k : Int)
  | 0, _ => by simp
  | k + 1, hk => by
    obtain ⟨b, hb⟩ : ∃ b, s.bs[k]? = some b := ⟨_, List.getElem?_eq_getElem (by omega)⟩
    have ih := wts_sum ok k (by omega)
    have hw := ok.wts b (List.mem_of_getElem? hb)
    rw [wts_take hb, List.sum_append]
    simp only [List.sum_cons, List.sum_nil]
    omega
set_option maxHeartbeats 2000000 in
theorem law_holds11 (s : Sy) (l : List (Int × Int)) : PRet Try.prog 10 [syD s, frs l] (bool true) := by
  refine PRet.intro 1 fun t => ACall.enter tab_ok Try.func10 rfl rfl Try.ntmps10 (by simp) ?_
  simp only [enterTM]
  have hF := few11L s l
  have f0 : frC [] = [] := rfl
  cases hs : (smallS s && decide (l.length ≤ 10))
  · rw [hs] at hF
    ((refine gga2 awake11 hF ?_))
    ((repeat refine AW_seq ?_); (refine wta ?_); simp (disch := omega) only [retQ, resD, oneD, rsv, rs, rsL, rsL_eq_map, List.map_map, bb, bt, zDs, zD, eqCells, simprocAttr, Try.results10])
  rw [hs] at hF
  obtain ⟨hs1, hs2⟩ := Bool.and_eq_true_iff.1 hs
  have hl10 : l.length ≤ 10 := by simpa using hs2
  have hf := small_fits hs1
  have hb : s.bs.length ≤ 1000 := by
    simp only [smallS, Bool.and_eq_true, decide_eq_true_eq] at hs1
    omega
  have hT := tens_prog s hf
  have hC := check_prog s hf hb l (by omega)
  cases hz : ((tensP s).2 == 0)
  · have hzn : (tensP s).2 ≠ 0 := by simpa using hz
    obtain ⟨hn, hc⟩ := hold_none (l := l) hzn
    generalize chkP s l = Y at *
    generalize tensP s = X at *
    obtain ⟨X1, X2⟩ := X
    simp only at hn hc hz
    subst hn
    cases h8 : (Y.2 == 0)
    · have h8' : (Y.2 != 0) = true := by simpa using h8
      ((refine ggb4 (F := _∧_∧_∧_) ⟨hz, h8, h8', f0⟩ awake11 hF hT hC ?_))
      ((repeat refine AW_seq ?_); (refine wta ?_); simp (disch := omega) only [retQ, resD, oneD, rsv, rs, rsL, rsL_eq_map, List.map_map, bb, bt, zDs, zD, eqCells, simprocAttr, Try.results10])
    have h8' : (Y.2 != 0) = false := by simpa using h8
    cases h7 : Y.1
    · rw [h7] at hC
      ((refine ggb4 (F := _∧_∧_∧_) ⟨hz, h8, h8', f0⟩ awake11 hF hT hC ?_))
      ((repeat refine AW_seq ?_); (refine wta ?_); simp (disch := omega) only [retQ, resD, oneD, rsv, rs, rsL, rsL_eq_map, List.map_map, bb, bt, zDs, zD, eqCells, simprocAttr, Try.results10])
    · have h21 := hc (by simpa using h8) h7
      rw [h7] at hC
      subst h21
      ((refine ggb4 (F := _∧_∧_) ⟨h8, h8', f0⟩ awake11 hF hT hC ?_))
      ((repeat refine AW_seq ?_); (refine wta ?_); simp (disch := omega) only [retQ, resD, oneD, rsv, rs, rsL, rsL_eq_map, List.map_map, bb, bt, zDs, zD, eqCells, simprocAttr, Try.results10])
  have hz0 : (tensP s).2 = 0 := by simpa using hz
  obtain ⟨hv, hxl⟩ := tensP_len hz0
  have hle := tensP_le s
  have ok := validS_ok hv
  have hb6 := ok.b6
  have h1 := hold_own hz0
  have h2 := total_own hz0
  have h3 := fun h0 => hold_only (l := l) hz0 h0
  have hCo := check_prog s hf hb (tensP s).1 (by omega)
  have hTo := total_prog s hf (tensP s).1 (by omega)
  have hQ := equalFr l (tensP s).1 (by omega) (by omega)
  have hdb := bkC_div s.bs
  have hxe : tensP s = ((tensP s).1, 0) := Prod.ext rfl hz0
  rw [hxe] at hT
  generalize chkP s (tensP s).1 = C at *
  generalize totP s (tensP s).1 = T at *
  generalize chkP s l = Y at *
  generalize (tensP s).1 = X at *
  generalize hW : (wtsS s).sum = W at *
  have hWt : ((wtsS s).take s.bs.length).sum = W := by rw [← hW, List.take_of_length_le (by simp [wtsS])]
  have hw1 := whole11 W
  ((refine gga6_VFG awake11 hF hT hC hCo hTo ?_))
  ((repeat refine AW_seq ?_))
  refine AW_mid (fun x : Nat => ⟨[(1, frs l), (5, frs X), (7, bool Y.1), (8, int Y.2), (9, bool C.1), (10, int C.2), (11, .ptr 1 (t + 1 + 1) 0), (12, int T.2), (13, int W)], [none, some ⟨42, t + 1 + 1, [int T.1.1, int T.1.2]⟩], x⟩) (fun _ => True) ?_ ?_
  · refine AW_block ?_
    refine AW_loop_w (fun x : Nat × Nat => ⟨[(1, frs l), (5, frs X), (7, bool Y.1), (8, int Y.2), (9, bool C.1), (10, int C.2), (11, .ptr 1 (t + 1 + 1) 0), (12, int T.2), (13, int ((wtsS s).take x.1).sum), (48, bks s.bs), (49, int s.bs.length), (50, int x.1)], [none, some ⟨42, t + 1 + 1, [int T.1.1, int T.1.2]⟩], x.2⟩) (fun x => s.bs.length - x.1) (fun x => x.1 ≤ s.bs.length) (0, t + 1 + 1) (Nat.zero_le _) (by (simp (disch := omega) only [StLe, tmLe, hpLe_refl, hpLe, bl, bb, bt, zDs, zD, eqCells, simprocAttr, hdb, List.sum_nil])) ?_
    rintro ⟨k, tt⟩ hk
    simp only at hk
    by_cases hlt : k < s.bs.length
    · obtain ⟨b, hbk⟩ : ∃ y, s.bs[k]? = some y := ⟨_, List.getElem?_eq_getElem hlt⟩
      have hra := bkC_read s.bs k b hbk
      have hst := wts_take hbk
      have hsb := wts_sum ok k hk
      have hwb := ok.wts b (List.mem_of_getElem? hbk)
      ((refine ggb0 (F := _∧_) ⟨@Int.ofNat_lt, hlt⟩ ?_))
      ((repeat refine AW_seq ?_))
      refine AW_block ?_
      ((refine ggb0 (F := _∧_∧_) ⟨hdb, hlt, hra⟩ ?_))
      refine ⟨(k + 1, tt + 1), hlt, by show s.bs.length - (k + 1) < s.bs.length - k; omega, ?_⟩
      simp only [hst, List.sum_append, List.sum_cons, List.sum_nil, Int.add_zero]
      (simp (disch := omega) only [StLe, tmLe, hpLe_refl, hpLe, bl, bb, bt, zDs, zD, eqCells, simprocAttr])
    · have hke : k = s.bs.length := by omega
      subst hke
      ((refine ggb0 @Int.lt_irrefl ?_))
      exact ⟨tt, trivial, by (simp (disch := omega) only [StLe, tmLe, hpLe_refl, hpLe, bl, bb, bt, zDs, zD, eqCells, simprocAttr, hWt])⟩
  rintro tt -
  have eW : (W == W) = true := by simp
  have eW' : (W != W) = false := by simp
  rcases h1 with rfl | hC5
  · rcases h2 with rfl | hT5
    · cases h8 : (Y.2 == 0)
      · have h8' : (Y.2 != 0) = true := by simpa using h8
        ((repeat refine AW_seq ?_); (refine gdzb1 (F := _∧_) ⟨eW, eW'⟩ hw1 ?_))
        ((refine ggb1 (F := _∧_) ⟨h8, h8'⟩ hQ ?_))
        ((repeat refine AW_seq ?_); (refine wta ?_); simp (disch := omega) only [retQ, resD, oneD, rsv, rs, rsL, rsL_eq_map, List.map_map, bb, bt, zDs, zD, eqCells, simprocAttr, Try.results10])
      · have h8' : (Y.2 != 0) = false := by simpa using h8
        have e7 := h3 (by simpa using h8)
        have e9 : (Y.1 == (l == X)) = true := by rw [e7]; simp
        ((repeat refine AW_seq ?_); (refine gdzb1 (F := _∧_) ⟨eW, eW'⟩ hw1 ?_))
        ((refine ggb1 (F := _∧_∧_) ⟨h8, h8', e9⟩ hQ ?_))
        ((repeat refine AW_seq ?_); (refine wta ?_); simp (disch := omega) only [retQ, resD, oneD, rsv, rs, rsL, rsL_eq_map, List.map_map, bb, bt, zDs, zD, eqCells, simprocAttr, Try.results10])
    · have d1 : (T.2 == 0) = false := by rw [hT5]; rfl
      have d2 : (T.2 != 0) = true := by rw [hT5]; rfl
      have d3 : (T.2 != 5) = false := by rw [hT5]; rfl
      cases h8 : (Y.2 == 0)
      · have h8' : (Y.2 != 0) = true := by simpa using h8
        ((repeat refine AW_seq ?_); (refine gdzb1 (F := _∧_∧_) ⟨d1, d2, d3⟩ hw1 ?_))
        ((refine ggb1 (F := _∧_) ⟨h8, h8'⟩ hQ ?_))
        ((repeat refine AW_seq ?_); (refine wta ?_); simp (disch := omega) only [retQ, resD, oneD, rsv, rs, rsL, rsL_eq_map, List.map_map, bb, bt, zDs, zD, eqCells, simprocAttr, Try.results10])
      · have h8' : (Y.2 != 0) = false := by simpa using h8
        have e7 := h3 (by simpa using h8)
        have e9 : (Y.1 == (l == X)) = true := by rw [e7]; simp
        ((repeat refine AW_seq ?_); (refine gdzb1 (F := _∧_∧_) ⟨d1, d2, d3⟩ hw1 ?_))
        ((refine ggb1 (F := _∧_∧_) ⟨h8, h8', e9⟩ hQ ?_))
        ((repeat refine AW_seq ?_); (refine wta ?_); simp (disch := omega) only [retQ, resD, oneD, rsv, rs, rsL, rsL_eq_map, List.map_map, bb, bt, zDs, zD, eqCells, simprocAttr, Try.results10])
  · have c1 : (C.2 == 0) = false := by rw [hC5]; rfl
    have c2 : (C.2 != 0) = true := by rw [hC5]; rfl
    have c3 : (C.2 != 5) = false := by rw [hC5]; rfl
    rcases h2 with rfl | hT5
    · cases h8 : (Y.2 == 0)
      · have h8' : (Y.2 != 0) = true := by simpa using h8
        ((repeat refine AW_seq ?_); (refine gdzb1 (F := _∧_∧_∧_∧_) ⟨c1, c2, c3, eW, eW'⟩ hw1 ?_))
        ((refine ggb1 (F := _∧_) ⟨h8, h8'⟩ hQ ?_))
        ((repeat refine AW_seq ?_); (refine wta ?_); simp (disch := omega) only [retQ, resD, oneD, rsv, rs, rsL, rsL_eq_map, List.map_map, bb, bt, zDs, zD, eqCells, simprocAttr, Try.results10])
      · have h8' : (Y.2 != 0) = false := by simpa using h8
        have e7 := h3 (by simpa using h8)
        have e9 : (Y.1 == (l == X)) = true := by rw [e7]; simp
        ((repeat refine AW_seq ?_); (refine gdzb1 (F := _∧_∧_∧_∧_) ⟨c1, c2, c3, eW, eW'⟩ hw1 ?_))
        ((refine ggb1 (F := _∧_∧_) ⟨h8, h8', e9⟩ hQ ?_))
        ((repeat refine AW_seq ?_); (refine wta ?_); simp (disch := omega) only [retQ, resD, oneD, rsv, rs, rsL, rsL_eq_map, List.map_map, bb, bt, zDs, zD, eqCells, simprocAttr, Try.results10])
    · have d1 : (T.2 == 0) = false := by rw [hT5]; rfl
      have d2 : (T.2 != 0) = true := by rw [hT5]; rfl
      have d3 : (T.2 != 5) = false := by rw [hT5]; rfl
      cases h8 : (Y.2 == 0)
      · have h8' : (Y.2 != 0) = true := by simpa using h8
        ((repeat refine AW_seq ?_); (refine gdzb1 (F := _∧_∧_∧_∧_∧_) ⟨c1, c2, c3, d1, d2, d3⟩ hw1 ?_))
        ((refine ggb1 (F := _∧_) ⟨h8, h8'⟩ hQ ?_))
        ((repeat refine AW_seq ?_); (refine wta ?_); simp (disch := omega) only [retQ, resD, oneD, rsv, rs, rsL, rsL_eq_map, List.map_map, bb, bt, zDs, zD, eqCells, simprocAttr, Try.results10])
      · have h8' : (Y.2 != 0) = false := by simpa using h8
        have e7 := h3 (by simpa using h8)
        have e9 : (Y.1 == (l == X)) = true := by rw [e7]; simp
        ((repeat refine AW_seq ?_); (refine gdzb1 (F := _∧_∧_∧_∧_∧_) ⟨c1, c2, c3, d1, d2, d3⟩ hw1 ?_))
        ((refine ggb1 (F := _∧_∧_) ⟨h8, h8', e9⟩ hQ ?_))
        ((repeat refine AW_seq ?_); (refine wta ?_); simp (disch := omega) only [retQ, resD, oneD, rsv, rs, rsL, rsL_eq_map, List.map_map, bb, bt, zDs, zD, eqCells, simprocAttr, Try.results10])
end Go.Proofs.Ytifmgjieplmbnaa.T
end

section
namespace Go.Proofs.Ytifmgjieplmbnaa.T
open Go Go.RowKit Lin
set_option linter.unusedSimpArgs false

/-! Chapter 11: the law of the point. -/
theorem plainL_frC (l : List (Int × Int)) : plainL (frC l) = true := by
  induction l with
  | nil => rfl
  | cons x r ih => simp only [frC, List.flatMap_cons, List.cons_append, List.nil_append, plainL, plainD, Bool.true_and] at ih ⊢; exact ih
theorem cloneFr (l : List (Int × Int)) (hl : l.length ≤ 1000000) : PFresh Try.prog 34 [frs l] 42 2 l.length (frC l) := by
  refine PFresh.intro (plainL_frC l) fun t => ACall.enter tab_ok Try.func34 rfl rfl Try.ntmps34 (by simp) ?_
  simp only [enterTM]
  have hcl := frC_cell l
  have hll := frC_len l
  have hld := frC_div l
  ((refine wqa ?_))
  cases l with
  | nil =>
    have f0 : frC [] = [] := rfl
    have f1 : frs [] = .sl 2 [] false := rfl
    rw [f0, f1]
    ((repeat refine AW_seq ?_); (refine AW_region_k tab_ok fun KR hKR => ?_)); ((refine wra ?_))
    (refine awOps_nilk (by focus (simp (disch := omega) only [bb, bt, zDs, zD, eqCells, simprocAttr, isSlice, nilT]; done)) (by decide) (by focus (simp (disch := omega) only [bb, bt, zDs, zD, eqCells, simprocAttr, isSlice, nilT]; done)) fun KK hKK q => ?_; simp only [St.put, putTM, ↓reduceIte, Nat.reduceEqDiff]; refine hKK _ ?_; clear hKK KK)
    ((refine wea ?_); (try clear hKR KR))
    cases q
    · ((refine wia ?_))
      ((refine wsa ?_))
      ((repeat refine AW_seq ?_); (refine AW_region_k tab_ok fun KR hKR => ?_); (repeat ((first | refine awOps_n rfl fun KK hKK => ?_ | refine awOps_g rfl rfl fun KK hKK => ?_ | refine awOps_gc rfl fun KK hKK => ?_); simp (disch := omega) only [bb, bt, zDs, zD, eqCells, simprocAttr, isSlice]; refine hKK _ ?_; clear hKK KK)); (refine awOps_nil ?_); (refine hKR _ ?_); (try clear hKR KR); (repeat (with_reducible first | refine q1 ?_ | refine q2 ?_ | refine q3 ?_ | refine q4 ?_ | refine q5 ?_ | refine q6 ?_ | (refine q7 ?_ ?_; (focus (with_unfolding_all rfl))))))
      ((repeat refine AW_seq ?_); (refine wta ?_); simp (disch := omega) only [retQ, resD, oneD, rsv, rs, rsL, rsL_eq_map, List.map_map, bb, bt, zDs, zD, eqCells, simprocAttr, Try.results34])
      exact .inl ⟨2, by omega, rfl⟩
    · ((refine wia ?_))
      ((refine wqa ?_))
      ((repeat refine AW_seq ?_); (refine wta ?_); simp (disch := omega) only [retQ, resD, oneD, rsv, rs, rsL, rsL_eq_map, List.map_map, bb, bt, zDs, zD, eqCells, simprocAttr, Try.results34])
      exact .inl ⟨2, by omega, rfl⟩
  | cons x r =>
    have f1 : frs (x :: r) = .sl 2 (int x.1 :: int x.2 :: frC r) false := rfl
    have f2 : frC (x :: r) = int x.1 :: int x.2 :: frC r := rfl
    have c2 := frC_cell r
    rw [f2] at hld hll
    simp only [List.length_cons] at hl hll hld
    have hll' : (frC r).length + 1 + 1 ≤ 2000002 := by omega
    rw [f2, f1]
    ((refine wqa ?_))
    ((refine wia ?_))
    ((refine wsa ?_))
    ((repeat refine AW_seq ?_); (refine AW_region_k tab_ok fun KR hKR => ?_); (repeat ((first | refine awOps_n rfl fun KK hKK => ?_ | refine awOps_g rfl rfl fun KK hKK => ?_ | refine awOps_gc rfl fun KK hKK => ?_); simp (disch := omega) only [bb, bt, zDs, zD, eqCells, simprocAttr, isSlice, c2, hld]; refine hKK _ ?_; clear hKK KK)); (refine awOps_nil ?_); (refine hKR _ ?_); (try clear hKR KR); (repeat (with_reducible first | refine q1 ?_ | refine q2 ?_ | refine q3 ?_ | refine q4 ?_ | refine q5 ?_ | refine q6 ?_ | (refine q7 ?_ ?_; (focus (with_unfolding_all rfl))))))
    ((repeat refine AW_seq ?_); (refine wta ?_); simp (disch := omega) only [retQ, resD, oneD, rsv, rs, rsL, rsL_eq_map, List.map_map, bb, bt, zDs, zD, eqCells, simprocAttr, Try.results34])
    exact .inr ⟨0, t + 1, rfl, rfl⟩
set_option maxHeartbeats 4000000 in
theorem law_point (s : Sy) (l : List (Int × Int)) (k : Int) (hk : 0 ≤ k ∧ k < 256) : PRet Try.prog 6 [syD s, frs l, .v (.int .u8 k)] (bool true) := by
  refine PRet.intro 1 fun t => ACall.enter tab_ok Try.func6 rfl rfl Try.ntmps6 (by simp) ?_
  simp only [enterTM]
  have hF := few11L s l
  have f0 : frC [] = [] := rfl
  cases hs : (smallS s && decide (l.length ≤ 10))
  · rw [hs] at hF
    ((refine gga2 awake11 hF ?_))
    ((repeat refine AW_seq ?_); (refine wta ?_); simp (disch := omega) only [retQ, resD, oneD, rsv, rs, rsL, rsL_eq_map, List.map_map, bb, bt, zDs, zD, eqCells, simprocAttr, Try.results6])
  rw [hs] at hF
  obtain ⟨hs1, hs2⟩ := Bool.and_eq_true_iff.1 hs
  have hl10 : l.length ≤ 10 := by simpa using hs2
  have hf := small_fits hs1
  have hb : s.bs.length ≤ 1000 := by
    simp only [smallS, Bool.and_eq_true, decide_eq_true_eq] at hs1
    omega
  have hfl := frC_div l
  have hdr := rpC_div s.rs
  have hdb := bkC_div s.bs
  by_cases h0 : l.length = 0
  · have e0 : ((l.length : Int) == 0) = true := by simp [h0]
    ((refine ggb2 (F := _∧_) ⟨hfl, e0⟩ awake11 hF ?_))
    ((repeat refine AW_seq ?_); (refine wta ?_); simp (disch := omega) only [retQ, resD, oneD, rsv, rs, rsL, rsL_eq_map, List.map_map, bb, bt, zDs, zD, eqCells, simprocAttr, Try.results6])
  have e0 : ((l.length : Int) == 0) = false := by simpa using h0
  by_cases hlr : l.length = s.rs.length
  rotate_left 1
  · have e1 : ((l.length : Int) != (s.rs.length : Int)) = true := by simpa using fun h => hlr (by omega)
    ((refine ggb2 (F := _∧_∧_∧_) ⟨hfl, hdr, e0, e1⟩ awake11 hF ?_))
    ((repeat refine AW_seq ?_); (refine wta ?_); simp (disch := omega) only [retQ, resD, oneD, rsv, rs, rsL, rsL_eq_map, List.map_map, bb, bt, zDs, zD, eqCells, simprocAttr, Try.results6])
  have e1 : ((l.length : Int) != (s.rs.length : Int)) = false := by simp [hlr]
  have hR := resid_prog s hf l (by omega)
  obtain ⟨nk, rfl⟩ : ∃ n : Nat, k = (n : Int) := ⟨k.toNat, by omega⟩
  have ek : Int.tmod (nk : Int) (l.length : Int) = ((nk % l.length : Nat) : Int) := rfl
  have hA : nk % l.length < l.length := Nat.mod_lt _ (by omega)
  have hl0 : ¬ (l.length : Int) = 0 := by omega
  generalize nk % l.length = i at *
  obtain ⟨f, hfi⟩ : ∃ y, l[i]? = some y := ⟨_, List.getElem?_eq_getElem hA⟩
  have hra := frC_read l i f hfi
  have hw1 := whole11 1
  have hAd := rAdd f (1, 1)
  have hpt := fun h1 h2 h3 => point_at (s := s) (l := l) (i := i) hfi h1 h2 h3
  have herr := resP_err (s := s) (l := l)
  have hfull := resP_full (s := s) (l := l)
  have herr2 := resP_err (s := s) (l := l.set i (addP f (1, 1)).1)
  have hfull2 := resP_full (s := s) (l := l.set i (addP f (1, 1)).1)
  have hval : givE s l = 0 → (addP f (1, 1)).2 = 0 → givE s (l.set i (addP f (1, 1)).1) = 0 := fun g h => by
    obtain ⟨hv, ha, hz⟩ := givE_zero g
    have hvf := allV_at ha hfi
    have h11 : vfrac 1 1 = true := by decide
    rw [addP_ok (b := (1, 1)) hvf h11] at h ⊢
    have hx := addR_valid (b := (1, 1)) hvf h11 h
    have hall : allV (l.set i (addR f (1, 1)).1) = true := by
      unfold allV at ha ⊢
      rw [List.all_eq_true] at ha ⊢
      intro y hy
      rcases List.mem_or_eq_of_mem_set hy with hy | rfl
      · exact ha y hy
      · exact hx
    unfold givE
    rw [if_pos ⟨hv, hall⟩, if_pos (by simpa using hz)]
  have hR2 := resid_prog s hf (l.set i (addP f (1, 1)).1) (by simpa using (by omega : l.length ≤ 1000000))
  have hset := frC_set l i (addP f (1, 1)).1.1 (addP f (1, 1)).1.2 hA
  have hsl : (l.set i (addP f (1, 1)).1).length = l.length := by simp
  generalize addP f (1, 1) = x at *
  generalize hl2 : l.set i x.1 = l2 at *
  generalize hY : resP s l = Y at *
  generalize hV : resP s l2 = V at *
  ((refine ggb3 (F := _∧_∧_∧_∧_∧_) ⟨hfl, hdr, e0, e1, ek, hl0⟩ awake11 hF hR ?_))
  ((repeat refine AW_seq ?_); (refine gdob2 (F := _∧_∧_) ⟨hfl, hA, hra⟩ hw1 hAd ?_))
  cases hy : (Y.2 == 0)
  · have hy' : (Y.2 != 0) = true := by simpa using hy
    have hn := herr.1 (by simpa using hy)
    obtain ⟨Y1, Y2⟩ := Y
    simp only at hn hy hy'
    subst hn
    ((refine ggb0 (F := _∧_∧_) ⟨hy, hy', f0⟩ ?_))
    ((repeat refine AW_seq ?_); (refine wta ?_); simp (disch := omega) only [retQ, resD, oneD, rsv, rs, rsL, rsL_eq_map, List.map_map, bb, bt, zDs, zD, eqCells, simprocAttr, Try.results6])
  have hy' : (Y.2 != 0) = false := by simpa using hy
  cases hx0 : (x.2 == 0)
  · have hx' : (x.2 != 0) = true := by simpa using hx0
    ((refine ggb0 (F := _∧_∧_) ⟨hy, hy', hx'⟩ ?_))
    ((repeat refine AW_seq ?_); (refine wta ?_); simp (disch := omega) only [retQ, resD, oneD, rsv, rs, rsL, rsL_eq_map, List.map_map, bb, bt, zDs, zD, eqCells, simprocAttr, Try.results6])
  have hx' : (x.2 != 0) = false := by simpa using hx0
  have hy0 : Y.2 = 0 := by simpa using hy
  obtain ⟨g1, hYl⟩ := hfull hy0
  have hC := cloneFr l (by omega)
  have hy2 : Y = (Y.1, 0) := Prod.ext rfl hy0
  ((refine ggb0 (F := _∧_∧_) ⟨hy, hy', hx'⟩ ?_))
  ((try with_reducible intro KR hKR); (first | refine awOps_nc fun KK hKK => ?_ | refine awOps_gc rfl fun KK hKK => ?_); simp (disch := omega) only [bb, bt, zDs, zD, eqCells, simprocAttr, goC, callO_fn, argsD, and_self])
  refine ACall.of_fresh hC (by first | (simp only [List.map_cons, List.map_nil, List.append_nil, List.nil_append, List.cons_append, ufa, uf]; done) | rfl) ?_
  (simp (disch := omega) only [bb, bt, zDs, zD, eqCells, simprocAttr, afterC]; refine hKK _ ?_; clear hKK KK)
  ((refine wra ?_)); ((refine wea ?_); (try clear hKR KR))
  ((refine wqb (F := _∧_∧_) ⟨hA, hfl, hset⟩ ?_))
  have hfin : List.take (l.length * 2) (frC l2) = frC l2 := List.take_of_length_le (by rw [frC_len, hsl]; exact Nat.le_refl _)
  ((refine AW.freeze (2) (by first | rfl | (simp only [setH, List.getElem?_cons_zero, List.getElem?_cons_succ, fz_frS, fz_bk, fz_rp, hfin, frC_len, hsl, Nat.le_refl]; done)) ?_); simp (disch := omega) only [fzT, fz, fzL, fzL_ints, fzL_mat, fzH, fzB, eq_self, bb, bt, zDs, zD, eqCells, simprocAttr, fz_frS, fz_bk, fz_rp, hfin, frC_len, hsl, Nat.le_refl])
  cases hv0 : (V.2 == 0)
  · have hv' : (V.2 != 0) = true := by simpa using hv0
    have h5 : (V.2 == 5) = true := by
      have := (herr2.2 (hval g1 (by simpa using hx0))).resolve_left (by simpa using hv0)
      simpa using this
    ((refine ggb1 (F := _∧_) ⟨hv', h5⟩ hR2 ?_))
    ((repeat refine AW_seq ?_); (refine wta ?_); simp (disch := omega) only [retQ, resD, oneD, rsv, rs, rsL, rsL_eq_map, List.map_map, bb, bt, zDs, zD, eqCells, simprocAttr, Try.results6])
  have hv' : (V.2 != 0) = false := by simpa using hv0
  obtain ⟨g2, hVl⟩ := hfull2 (by simpa using hv0)
  have hp := hpt (by simpa using hx0) hy0 (by simpa using hv0)
  have eY : ((Y.1.length : Int) != (s.bs.length : Int)) = false := by simp [hYl]
  have eV : ((V.1.length : Int) != (s.bs.length : Int)) = false := by simp [hVl]
  have hYf := frC_div Y.1
  have hVf := frC_div V.1
  ((refine ggb1 (F := _∧_∧_∧_∧_∧_) ⟨hv', hYf, hVf, hdb, eY, eV⟩ hR2 ?_))
  ((repeat refine AW_seq ?_))
  obtain ⟨hvs, _⟩ := givE_zero g1
  have ok := validS_ok hvs
  obtain ⟨r, hri⟩ : ∃ y, s.rs[i]? = some y := ⟨_, List.getElem?_eq_getElem (by omega)⟩
  have hrr := rpC_read s.rs i r hri
  have hir : i < s.rs.length := by omega
  have hrm := List.mem_of_getElem? hri
  have hrl := (ok.holds r hrm).2.1
  refine AW_block ?_
  refine AW_loop_w (fun x : Nat × Nat => ⟨[(3, .ptr 0 (t + 1) 0), (7, frs Y.1), (9, int i), (13, frs V.1), (102, bks s.bs), (103, int s.bs.length), (104, int x.1)], [some ⟨25, t + 1, [bks s.bs, rps s.rs]⟩], x.2⟩) (fun x => s.bs.length - x.1) (fun x => x.1 ≤ s.bs.length) (0, t + 1 + 1 + 1) (Nat.zero_le _) (by (simp (disch := omega) only [StLe, tmLe, hpLe_refl, hpLe, bl, bb, bt, zDs, zD, eqCells, simprocAttr])) ?_
  rintro ⟨j, tt⟩ hj
  simp only at hj
  by_cases hlt : j < s.bs.length
  · obtain ⟨b, hbj⟩ : ∃ y, s.bs[j]? = some y := ⟨_, List.getElem?_eq_getElem hlt⟩
    have hrb := bkC_read s.bs j b hbj
    obtain ⟨p, q, hpj, hqj, hpq⟩ := hp j b r hbj hri
    have hr1 := frC_read Y.1 j p hpj
    have hr2 := frC_read V.1 j q hqj
    have hl1 : j < Y.1.length := by omega
    have hl2' : j < V.1.length := by omega
    have hS := rSub p q
    have hPu := pull_ref r b.nm (by omega) (ok.pulls r hrm)
    generalize pull b.nm r.hs = n at *
    have hO := refOf n
    generalize subP p q = z at *
    ((refine ggb0 (F := _∧_) ⟨@Int.ofNat_lt, hlt⟩ ?_))
    ((repeat refine AW_seq ?_))
    refine AW_block ?_
    ((refine ggb0 (F := _∧_∧_) ⟨hdb, hlt, hrb⟩ ?_))
    ((repeat refine AW_seq ?_); (refine gdob1 (F := _∧_∧_∧_∧_∧_) ⟨hYf, hVf, hl1, hl2', hr1, hr2⟩ hS ?_))
    rcases hpq with rfl | h5
    · have en : (n == n) = true := by simp
      have en' : (n != n) = false := by simp
      ((repeat refine AW_seq ?_); (refine gdzb2 (F := _∧_∧_∧_∧_) ⟨hdr, hir, hrr, en, en'⟩ hPu hO ?_))
      ((refine gga0 ?_))
      refine ⟨(j + 1, tt + 1 + 1 + 1), hlt, by show s.bs.length - (j + 1) < s.bs.length - j; omega, ?_⟩
      (simp (disch := omega) only [StLe, tmLe, hpLe_refl, hpLe, bl, bb, bt, zDs, zD, eqCells, simprocAttr])
    · have h5a : (z.2 != 0) = true := by rw [h5]; rfl
      have h5b : (z.2 == 5) = true := by rw [h5]; rfl
      ((repeat refine AW_seq ?_); (refine gdzb h5a ?_))
      ((refine ggb0 h5b ?_))
      ((repeat refine AW_seq ?_); (refine wta ?_); simp (disch := omega) only [retQ, resD, oneD, rsv, rs, rsL, rsL_eq_map, List.map_map, bb, bt, zDs, zD, eqCells, simprocAttr, Try.results6])
  · have hje : j = s.bs.length := by omega
    subst hje
    ((refine ggb0 @Int.lt_irrefl ?_))
    ((repeat refine AW_seq ?_); (refine wta ?_); simp (disch := omega) only [retQ, resD, oneD, rsv, rs, rsL, rsL_eq_map, List.map_map, bb, bt, zDs, zD, eqCells, simprocAttr, Try.results6])
end Go.Proofs.Ytifmgjieplmbnaa.T
end
