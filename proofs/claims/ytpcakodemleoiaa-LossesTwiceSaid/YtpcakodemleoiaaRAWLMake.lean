import Derived.Test.YtpcakodemleoiaaRALTAWK
import Derived.Test.YtpcakodemleoiaaRSKM
import Derived.Test.YtpcakodemleoiaaTJ
import Derived.Test.YtpcakodemleoiaaWA
import Derived.Test.YtpcakodemleoiaaWJK
import Derived.Test.YtpcakodemleoiaaSG
import Derived.Test.YtpcakodemleoiaaRows
import Derived.Lib.SmallJoins
import Derived.ProofKit
set_option linter.all false
namespace Go.Proofs.Ytpcakodemleoiaa.T
open Go Go.RowKit Lin
set_option linter.unusedSimpArgs false

/-! Chapter 13: what its laws use. -/
/-! AdvantageSame. -/
/-! AdvantageEqual. -/
end Go.Proofs.Ytpcakodemleoiaa.T

namespace Go.Proofs.Ytpcakodemleoiaa.T
open Go Go.RowKit Lin
theorem gga4_ALL {C1 C2 C3 C4 P Q : Prop} (c1 : C1) (c2 : C2) (c3 : C3) (c4 : C4) (q : Q) (h : C1 → C2 → C3 → C4 → Q → P := by
  intro cc1 cc2 cc3 cc4 hq
  (try with_reducible intro KR hKR)
  (repeat' (first | (with_reducible refine AW_seq ?_) | (with_reducible refine AW_region_k tab_ok fun KR hKR => ?_) | ((first | with_reducible refine AW_skip ?_ | with_reducible refine AW_exit ?_ | ((with_reducible refine awOps_nil ?_); refine hKR _ ?_; (try clear hKR KR))); (repeat (with_reducible first | refine q1 ?_ | refine q2 ?_ | refine q3 ?_ | refine q4 ?_ | refine q5 ?_ | refine q6 ?_ | (refine q7 ?_ ?_; (focus (with_unfolding_all rfl)))))) | ((first | ((with_reducible refine at_ops ?_); (first | refine awOps_n rfl fun KK hKK => ?_ | refine awOps_g rfl rfl fun KK hKK => ?_ | refine awOps_gc rfl fun KK hKK => ?_ | refine awOps_nc fun KK hKK => ?_)) | with_reducible refine AW_cond_k (tab := tab) fun KK hKK => ?_); simp (disch := omega) only [bb, bt, zDs, zD, eqCells, simprocAttr, bne_self_eq_false, Int.reduceBNe, Int.reduceBEq, Bool.bne_false, Bool.bne_true, Bool.false_bne, Bool.true_bne, goC, callO_fn, argsD, and_self]; (try ((first | (with_reducible refine ACall.of_pret (cc1) ?_ ?_; (focus (first | (simp only [um]; done) | rfl))) | (with_reducible refine ACall.of_pret (cc2) ?_ ?_; (focus (first | (simp only [um]; done) | rfl))) | (with_reducible refine ACall.of_pret (cc3) ?_ ?_; (focus (first | (simp only [um]; done) | rfl))) | (with_reducible refine ACall.of_pret (cc4) ?_ ?_; (focus (first | (simp only [um]; done) | rfl)))); simp only [afterC, St.put, putTM, ↓reduceIte, Nat.reduceEqDiff])); refine hKK _ ?_; clear hKK KK; (first | with_reducible refine at_ops ?_ | with_reducible refine i1 ?_ | with_reducible refine i0 ?_))))
  (first | exact hq | (revert hKR; revert KR; exact hq))) : P := h c1 c2 c3 c4 q
set_option linter.unusedSimpArgs false

/-! Chapter 14: the example, LossesAlong. -/
def ex14 : Sy := ⟨[⟨hB, 300⟩], [⟨hR, [⟨hE, 0, 1, 1⟩, ⟨hB, 2, 11, 10⟩, ⟨hE, 0, 1, 1⟩], true⟩]⟩
theorem example14 : PRet Try.prog 42 [] (syD ex14) := by
  refine PRet.intro 4 fun t => ACall.enter tab_ok Try.func42 rfl rfl Try.ntmps42 (by simp) ?_
  simp only [enterTM]
  have h1 := refOf 1
  ((refine gga1 h1 ?_))
  ((repeat refine AW_seq ?_); (refine wta ?_); simp (disch := omega) only [retQ, resD, oneD, rsv, rs, rsL, rsL_eq_map, List.map_map, bb, bt, zDs, zD, eqCells, simprocAttr, Try.results42])
  rfl
theorem ex14_fits : Fits ex14 := small_fits (by decide +kernel)
theorem ex14_raise : forceP ex14 true = ((1100, 7), 0) := by decide +kernel
theorem ex14_lower : forceP ex14 false = ((1000, 7), 0) := by decide +kernel
theorem ex14_eff : effP ex14 = ((21, 22), 0) := by decide +kernel
set_option maxHeartbeats 2000000 in
theorem awake14 : PRet Try.prog 21 [] (bool true) := by
  refine PRet.intro 1 fun t => ACall.enter tab_ok Try.func21 rfl rfl Try.ntmps21 (by simp) ?_
  simp only [enterTM]
  have hX := example14
  have hR := raise14 ex14 ex14_fits
  have hL := lower14 ex14 ex14_fits
  have hE := eff14 ex14 ex14_fits
  rw [ex14_raise] at hR
  rw [ex14_lower] at hL
  rw [ex14_eff] at hE
  generalize ex14 = e at *
  ((refine gga4_ALL hX hR hL hE ?_))
  ((repeat refine AW_seq ?_); (refine wta ?_); simp (disch := omega) only [retQ, resD, oneD, rsv, rs, rsL, rsL_eq_map, List.map_map, bb, bt, zDs, zD, eqCells, simprocAttr, Try.results21])
set_option maxHeartbeats 4000000 in
theorem law_along14 (r : Rp) (up : Bool) : PRet Try.prog 6 [.agg (rp1 r), bool up] (bool true) := by
  refine PRet.intro 1 fun t => ACall.enter tab_ok Try.func6 rfl rfl Try.ntmps6 (by simp) ?_
  simp only [enterTM]
  have hdh := hdC_div r.hs
  by_cases h13 : (13 : Int) < r.hs.length
  · ((refine ggb1 (F := _∧_) ⟨h13, hdh⟩ awake14 ?_))
    ((repeat refine AW_seq ?_); (refine wta ?_); simp (disch := omega) only [retQ, resD, oneD, rsv, rs, rsL, rsL_eq_map, List.map_map, bb, bt, zDs, zD, eqCells, simprocAttr, Try.results6])
  have hA := along14 r up (by omega)
  have hR := right_ref r
  cases hr : rightR r
  · rw [hr] at hR
    have e : alongP r up = ([], 1) := by unfold alongP; rw [if_neg (by simp [hr])]
    rw [e] at hA
    ((refine ggb3 (F := _∧_) ⟨h13, hdh⟩ awake14 hA hR ?_))
    ((repeat refine AW_seq ?_); (refine wta ?_); simp (disch := omega) only [retQ, resD, oneD, rsv, rs, rsL, rsL_eq_map, List.map_map, bb, bt, zDs, zD, eqCells, simprocAttr, Try.results6])
    rfl
  rw [hr] at hR
  have hB := along_ref r up hr
  have e : alongP r up = (facL r up (r.hs.length - 1), 0) := by unfold alongP; rw [if_pos hr]
  rw [e] at hA
  have hl := facL_len r up (r.hs.length - 1)
  have hE := equalFr (facL r up (r.hs.length - 1)) (facL r up (r.hs.length - 1)) (by omega) (by omega)
  rw [beq_self_eq_true] at hE
  generalize facL r up (r.hs.length - 1) = W at *
  ((refine ggb5 (F := _∧_) ⟨h13, hdh⟩ awake14 hA hR hB hE ?_))
  ((repeat refine AW_seq ?_); (refine wta ?_); simp (disch := omega) only [retQ, resD, oneD, rsv, rs, rsL, rsL_eq_map, List.map_map, bb, bt, zDs, zD, eqCells, simprocAttr, Try.results6])
end Go.Proofs.Ytpcakodemleoiaa.T

namespace Go.Proofs.Ytpcakodemleoiaa.T
open Go Go.RowKit Lin
set_option linter.unusedSimpArgs false

/-! Chapter 14: what the laws ask first. -/
theorem ready14 (s : Sy) : PRet Try.prog 22 [syD s] (bool (smallS s && validS s)) := by
  refine PRet.intro 1 fun t => ACall.enter tab_ok Try.func22 rfl rfl Try.ntmps22 (by simp) ?_
  simp only [enterTM]
  have hS := small_ref s
  cases hs : smallS s
  · rw [hs] at hS
    ((refine gga1 hS ?_))
    ((repeat refine AW_seq ?_); (refine wta ?_); simp (disch := omega) only [retQ, resD, oneD, rsv, rs, rsL, rsL_eq_map, List.map_map, bb, bt, zDs, zD, eqCells, simprocAttr, Try.results22])
  rw [hs] at hS
  have hV := valid_ref s (small_fits hs)
  ((refine gga2 hS hV ?_))
  ((repeat refine AW_seq ?_); (refine wta ?_); simp (disch := omega) only [retQ, resD, oneD, rsv, rs, rsL, rsL_eq_map, List.map_map, bb, bt, zDs, zD, eqCells, simprocAttr, Try.results22])
end Go.Proofs.Ytpcakodemleoiaa.T

namespace Go.Proofs.Ytpcakodemleoiaa.T
open Go Go.RowKit Lin
set_option linter.unusedSimpArgs false

/-! LossesTwice. -/
theorem dbl_fits {s : Sy} (hf : Fits s) : Fits (dblS s) := ⟨by rw [show (dblS s).bs.length = s.bs.length from chW_len _ _ _]; exact hf.nb, hf.nr, fun b hb => by
  have eb : (dblS s).bs = s.bs.map fun b => ⟨b.nm, b.w * 2⟩ := dblB_eq s.bs
  rw [eb] at hb
  obtain ⟨c, hc, rfl⟩ := List.mem_map.1 hb
  exact hf.sb c hc, hf.sr⟩
set_option maxRecDepth 100000 in
set_option maxHeartbeats 16000000 in
theorem law_twice14 (s : Sy) : PRet Try.prog 5 [syD s] (bool true) := by
  refine PRet.intro 1 fun t => ACall.enter tab_ok Try.func5 rfl rfl Try.ntmps5 (by simp) ?_
  simp only [enterTM]
  have hR := ready14 s
  cases hr : smallS s && validS s
  · rw [hr] at hR
    ((refine gga2 awake14 hR ?_))
    ((repeat refine AW_seq ?_); (refine wta ?_); simp (disch := omega) only [retQ, resD, oneD, rsv, rs, rsL, rsL_eq_map, List.map_map, bb, bt, zDs, zD, eqCells, simprocAttr, Try.results5])
  rw [hr] at hR
  rw [Bool.and_eq_true] at hr
  obtain ⟨hs, hv⟩ := hr
  have hf := small_fits hs
  have ok := validS_ok hv
  have hb6 := ok.b6
  have hC := copyB s ok
  have hdb := bkC_div s.bs
  have hlb := bkC_len s.bs
  have hz : chW (fun _ b => b.w * 2) s.bs 0 = s.bs := rfl
  ((refine gga2 awake14 hR ?_))
  intro KR hKR
  ((first | refine awOps_nc fun KK hKK => ?_ | refine awOps_gc rfl fun KK hKK => ?_); simp (disch := omega) only [bb, bt, zDs, zD, eqCells, simprocAttr, goC, callO_fn, argsD, and_self]; refine ACall.of_freshX (hC) (by first | (simp only [List.map_cons, List.map_nil, List.append_nil, List.nil_append, List.cons_append, ufa, uf]; done) | rfl) ?_; simp (disch := omega) only [bb, bt, zDs, zD, eqCells, simprocAttr, afterC]; refine hKK _ ?_; clear hKK KK)
  ((refine wra ?_)); ((refine wea ?_); (try clear hKR KR))
  ((refine ggb0 hdb ?_))
  ((repeat refine AW_seq ?_))
  refine AW_mid (fun x : Nat => ⟨[(1, .ptr 0 (t + 1) 0), (3, .ptr 2 (t + 1 + 1 + 1) 0)], [some ⟨25, t + 1, [bks s.bs, rps s.rs]⟩, some ⟨35, t + 1 + 1, bkC (dblB s.bs)⟩, some ⟨25, t + 1 + 1 + 1, [.own 2 1 (t + 1 + 1) 0 s.bs.length, rps s.rs]⟩], x⟩) (fun _ => True) ?_ ?_
  · refine AW_block ?_
    refine AW_loop_w (fun x : Nat × Nat => ⟨[(1, .ptr 0 (t + 1) 0), (3, .ptr 2 (t + 1 + 1 + 1) 0), (23, int s.bs.length), (24, int x.1)], [some ⟨25, t + 1, [bks s.bs, rps s.rs]⟩, some ⟨35, t + 1 + 1, bkC (chW (fun _ b => b.w * 2) s.bs x.1)⟩, some ⟨25, t + 1 + 1 + 1, [.own 2 1 (t + 1 + 1) 0 s.bs.length, rps s.rs]⟩], x.2⟩) (fun x => s.bs.length - x.1) (fun x => x.1 ≤ s.bs.length) (0, t + 1 + 1 + 1) (Nat.zero_le _) (by (simp (disch := omega) only [StLe, tmLe, hpLe_refl, hpLe, bl, bb, bt, zDs, zD, eqCells, simprocAttr, hz])) ?_
    rintro ⟨k, tt⟩ hk
    simp only at hk
    by_cases hlt : k < s.bs.length
    · obtain ⟨b, hb⟩ : ∃ y, s.bs[k]? = some y := ⟨_, List.getElem?_eq_getElem hlt⟩
      have bw := ok.wts b (List.mem_of_getElem? hb)
      have hC0 := chW_at (f := fun _ b => b.w * 2) hb
      have hs1 := chW_set (f := fun _ b => b.w * 2) hb
      have hl1 := bkC_len (chW (fun _ b => b.w * 2) s.bs k)
      rw [chW_len] at hl1
      have hrd := bkC_w hC0
      have wy := wr64 (b.w * 2) (by omega)
      have hw1 := bkC_wt hC0 (b.w * 2)
      generalize chW (fun _ b => b.w * 2) s.bs k = C at *
      ((refine ggb0 (F := _∧_) ⟨@Int.ofNat_lt, hlt⟩ ?_))
      ((repeat refine AW_seq ?_))
      refine AW_block ?_
      ((refine ggb0 (F := _∧_∧_∧_∧_∧_) ⟨@Int.ofNat_lt, hlt, wy, hl1, hrd, hw1⟩ ?_))
      refine ⟨(k + 1, tt), hlt, by show s.bs.length - (k + 1) < s.bs.length - k; omega, ?_⟩
      simp only [hs1]
      (simp (disch := omega) only [StLe, tmLe, hpLe_refl, hpLe, bl, bb, bt, zDs, zD, eqCells, simprocAttr])
    · have hke : k = s.bs.length := by omega
      subst hke
      have hend : chW (fun _ b => b.w * 2) s.bs s.bs.length = dblB s.bs := rfl
      rw [hend]
      ((refine wqb @Int.lt_irrefl ?_))
      ((refine wia ?_))
      ((refine wxa ?_))
      exact ⟨tt, trivial, by (simp (disch := omega) only [StLe, tmLe, hpLe_refl, hpLe, bl, bb, bt, zDs, zD, eqCells, simprocAttr])⟩
  rintro tt -
  have hdl : (dblB s.bs).length = s.bs.length := chW_len _ _ _
  have hdlc := bkC_len (dblB s.bs)
  rw [hdl] at hdlc
  have hfin : List.take (s.bs.length * 2) (bkC (dblB s.bs)) = bkC (dblB s.bs) := List.take_of_length_le (by omega)
  have hfd := dbl_fits hf
  have hV : PRet Try.prog 23 [.agg [bks (dblB s.bs), rps s.rs]] (bool (validS (dblS s))) := valid_ref (dblS s) hfd
  have hF1 : ∀ up, (forceP s up).2 ≠ 5 → (forceP (dblS s) up).2 ≠ 5 → _ := fun up h1 h2 hd => twice hv hd up h1 h2
  have cR1 := raise14 s hf
  have cL1 := lower14 s hf
  have cR2 : PRet Try.prog 24 [.agg [bks (dblB s.bs), rps s.rs]] (fe (forceP (dblS s) true)) := raise14 (dblS s) hfd
  have cL2 : PRet Try.prog 25 [.agg [bks (dblB s.bs), rps s.rs]] (fe (forceP (dblS s) false)) := lower14 (dblS s) hfd
  ((refine AW.freeze (1) (by first | rfl | (simp only [setH, List.getElem?_cons_zero, List.getElem?_cons_succ, fz_bk, fz_rp, hfin, hdlc, Nat.le_refl]; done)) ?_); simp (disch := omega) only [fzT, fz, fzL, fzL_ints, fzL_mat, fzH, fzB, eq_self, bb, bt, zDs, zD, eqCells, simprocAttr, fz_bk, fz_rp, hfin, hdlc, Nat.le_refl])
  cases hvd : validS (dblS s)
  · rw [hvd] at hV
    ((refine gga1 hV ?_))
    ((repeat refine AW_seq ?_); (refine wta ?_); simp (disch := omega) only [retQ, resD, oneD, rsv, rs, rsL, rsL_eq_map, List.map_map, bb, bt, zDs, zD, eqCells, simprocAttr, Try.results5])
  rw [hvd] at hV
  have hF1 := fun up h1 h2 => hF1 up h1 h2 hvd
  generalize dblS s = d at *
  generalize dblB s.bs = db at *
  ((refine gga1 hV ?_))
  ((repeat refine AW_seq ?_))
  refine AW_mid (fun x : Nat => ⟨[], [], x⟩) (fun _ => True) ?_ ?_
  · refine AW_block ?_
    refine AW_loop_w (fun x : Nat × Nat => ⟨[(1, .ptr 0 (t + 1) 0), (3, .ptr 2 (t + 1 + 1 + 1) 0), (5, .ptr 3 (tt + 1) 0), (41, .sl 1 [.fn 24 [], .fn 25 []] true), (42, int 2), (43, int x.1)], [some ⟨25, t + 1, [bks s.bs, rps s.rs]⟩, none, some ⟨25, t + 1 + 1 + 1, [bks db, rps s.rs]⟩, some ⟨42, tt + 1, [int 2, int 1]⟩], x.2⟩) (fun x => 2 - x.1) (fun x => x.1 ≤ 2) (0, tt + 1 + 1) (Nat.zero_le _) (by (simp (disch := omega) only [StLe, tmLe, hpLe_refl, hpLe, bl, bb, bt, zDs, zD, eqCells, simprocAttr])) ?_
    rintro ⟨k, t3⟩ hk
    simp only at hk
    by_cases hlt : k < 2
    · have hfk : ∃ (F : FuncId) (up : Bool), ([.fn 24 [], .fn 25 []] : List D)[k]? = some (.fn F []) ∧ PRet Try.prog F [syD s] (fe (forceP s up)) ∧ PRet Try.prog F [.agg [bks db, rps s.rs]] (fe (forceP d up)) := by
        have : k = 0 ∨ k = 1 := by omega
        rcases this with rfl | rfl
        · exact ⟨_, true, rfl, cR1, cR2⟩
        · exact ⟨_, false, rfl, cL1, cL2⟩
      obtain ⟨F, up, hfk, hA, hB⟩ := hfk
      have hfk1 : (([.fn 24 [], .fn 25 []] : List D).drop k).take 1 = [.fn F []] := by
        obtain ⟨h1, h2⟩ := List.getElem?_eq_some_iff.1 hfk
        rw [List.drop_eq_getElem_cons h1, h2]
        rfl
      have hF := hF1 up
      generalize forceP s up = A at *
      generalize forceP d up = B at *
      have hM := rMul A.1 (2, 1)
      have hk2 : (k : Int) < 2 := by omega
      generalize hMM : mulP A.1 (2, 1) = M at *
      ((refine ggb0 hk2 ?_))
      ((repeat refine AW_seq ?_))
      refine AW_block ?_
      by_cases ea : A.2 = 5
      · have e1 : (A.2 == 5) = true := by simpa using ea
        ((refine ggb2 (F := _∧_∧_∧_∧_) ⟨hlt, hk2, hfk, hfk1, e1⟩ hA hB ?_))
        refine ⟨(k + 1, t3 + 1 + 1), hlt, by show 2 - (k + 1) < 2 - k; omega, ?_⟩
        (simp (disch := omega) only [StLe, tmLe, hpLe_refl, hpLe, bl, bb, bt, zDs, zD, eqCells, simprocAttr])
      have e1 : (A.2 == 5) = false := by simpa using ea
      by_cases eb : B.2 = 5
      · have e2 : (B.2 == 5) = true := by simpa using eb
        ((refine ggb2 (F := _∧_∧_∧_∧_∧_) ⟨hlt, hk2, hfk, hfk1, e1, e2⟩ hA hB ?_))
        refine ⟨(k + 1, t3 + 1 + 1), hlt, by show 2 - (k + 1) < 2 - k; omega, ?_⟩
        (simp (disch := omega) only [StLe, tmLe, hpLe_refl, hpLe, bl, bb, bt, zDs, zD, eqCells, simprocAttr])
      have e2 : (B.2 == 5) = false := by simpa using eb
      obtain ⟨j1, j2, j3⟩ := hF ea eb
      by_cases h0 : A.2 = 0
      · have e3 : (A.2 == 0) = true := by simpa using h0
        have tw := j2 h0
        by_cases h5 : M.2 = 5
        · have e4 : (M.2 == 5) = true := by simpa using h5
          ((refine ggb3 (F := _∧_∧_∧_∧_∧_∧_∧_) ⟨hlt, hk2, hfk, hfk1, e1, e2, e3, e4⟩ hA hB hM ?_))
          refine ⟨(k + 1, t3 + 1 + 1 + 1), hlt, by show 2 - (k + 1) < 2 - k; omega, ?_⟩
          (simp (disch := omega) only [StLe, tmLe, hpLe_refl, hpLe, bl, bb, bt, zDs, zD, eqCells, simprocAttr])
        have m0 : M.2 = 0 := by
          rw [← hMM] at h5 ⊢
          exact mul5 tw.vl (by decide) h5
        have e4 : (M.2 == 5) = false := by simpa using h5
        have e5 : M.1 = B.1 := by
          rw [← hMM] at m0 ⊢
          exact tw.two m0
        have b0 : B.2 = 0 := by rw [← j1]; exact h0
        have e6 : (A.2 != B.2) = false := by rw [h0, b0]; rfl
        have e7 : (M.2 != A.2) = false := by rw [h0, m0]; rfl
        ((refine ggb3 (F := _∧_∧_∧_∧_∧_∧_∧_∧_∧_∧_) ⟨hlt, hk2, hfk, hfk1, e1, e2, e3, e4, e5, e6, e7⟩ hA hB hM ?_))
        refine ⟨(k + 1, t3 + 1 + 1 + 1), hlt, by show 2 - (k + 1) < 2 - k; omega, ?_⟩
        (simp (disch := omega) only [StLe, tmLe, hpLe_refl, hpLe, bl, bb, bt, zDs, zD, eqCells, simprocAttr])
      · have e3 : (A.2 == 0) = false := by simpa using h0
        obtain ⟨_, k2⟩ := j3 h0
        have e6 : (A.2 != B.2) = false := by rw [j1]; simp
        have e8 : B.1.1 = 0 := by rw [k2]
        have e9 : B.1.2 = 0 := by rw [k2]
        ((refine ggb2 (F := _∧_∧_∧_∧_∧_∧_∧_∧_∧_) ⟨hlt, hk2, hfk, hfk1, e1, e2, e3, e6, e8, e9⟩ hA hB ?_))
        refine ⟨(k + 1, t3 + 1 + 1 + 1), hlt, by show 2 - (k + 1) < 2 - k; omega, ?_⟩
        (simp (disch := omega) only [StLe, tmLe, hpLe_refl, hpLe, bl, bb, bt, zDs, zD, eqCells, simprocAttr])
    · have hke : k = 2 := by omega
      subst hke
      ((refine wqb @Int.lt_irrefl ?_))
      ((refine wia ?_))
      ((refine wxa ?_))
      exact ⟨t3, trivial, by (simp (disch := omega) only [StLe, tmLe, hpLe_refl, hpLe, bl, bb, bt, zDs, zD, eqCells, simprocAttr])⟩
  rintro t3 -
  ((refine gga0 ?_))
  ((repeat refine AW_seq ?_); (refine wta ?_); simp (disch := omega) only [retQ, resD, oneD, rsv, rs, rsL, rsL_eq_map, List.map_map, bb, bt, zDs, zD, eqCells, simprocAttr, Try.results5])
end Go.Proofs.Ytpcakodemleoiaa.T

/- What the arguments of chapter 4's laws stand for. -/
section
namespace Go.Proofs.Ytpcakodemleoiaa.T
open Go Go.RowKit Go.ChangeShapes

theorem slice_one {P : Program} {w : World} {r : Reach} {base : Nat} {t e : TypeId} {v : Value} (ht : P.underlying t = some (.slice e)) (h : Value.okWide P w r base t v) : v.cells = #[v] := by
  simp only [Value.okWide, ht, Cell.okWide] at h
  cases v <;> simp_all [Value.cells, Cell.ok]
theorem ints_of : ∀ {rows : List (List D)}, (∀ r ∈ rows, (∃ n, r = [int n] ∧ (Lit.int .i64 n).wf = true) ∧ r.length = 1) → ∃ l : List Int, rows.flatten = l.map int ∧ ∀ x ∈ l, (Lit.int .i64 x).wf = true
  | [], _ => ⟨[], rfl, by simp⟩
  | r :: rows, h => by
    obtain ⟨⟨n, rfl, hw⟩, _⟩ := h r (by simp)
    obtain ⟨l, e, hl⟩ := ints_of fun x hx => h x (List.mem_cons_of_mem _ hx)
    exact ⟨n :: l, by simp [e], fun x hx => by
      rcases List.mem_cons.1 hx with rfl | hx
      · exact hw
      · exact hl x hx⟩
theorem rows_of : ∀ {rows : List (List D)}, (∀ r ∈ rows, (∃ l : List Int, r = [ints l] ∧ ∀ x ∈ l, (Lit.int .i64 x).wf = true) ∧ r.length = 1) → ∃ m : List (List Int), rows.flatten = m.map ints ∧ ∀ l ∈ m, ∀ x ∈ l, (Lit.int .i64 x).wf = true
  | [], _ => ⟨[], rfl, by simp⟩
  | r :: rows, h => by
    obtain ⟨⟨n, rfl, hw⟩, _⟩ := h r (by simp)
    obtain ⟨l, e, hl⟩ := rows_of fun x hx => h x (List.mem_cons_of_mem _ hx)
    exact ⟨n :: l, by simp [e], fun x hx => by
      rcases List.mem_cons.1 hx with rfl | hx
      · exact hw
      · exact hl x hx⟩

theorem u8_of {x : Int} (h : (Lit.int .u8 x).wf = true) : 0 ≤ x ∧ x < 256 := by
  rw [Lit.wf, Bool.and_eq_true] at h
  have h1 := of_decide_eq_true h.1
  have h2 := of_decide_eq_true h.2
  have e1 : IntKind.u8.min = 0 := rfl
  have e2 : IntKind.u8.max = 255 := rfl
  rw [e1] at h1
  rw [e2] at h2
  exact ⟨h1, by omega⟩
theorem cellsInt : Try.prog.cellsOf 3 = 1 := by kernel_rfl
theorem cellsInts : Try.prog.cellsOf 66 = 1 := by kernel_rfl
section
variable {H : Type} {enc : TypeId × Value → H} {W : World}
theorem opn_ints : Opn enc Try.prog W 66 fun ds => ∃ l : List Int, ds = [ints l] ∧ ∀ x ∈ l, (Lit.int .i64 x).wf = true :=
  (Opn.slice Try.underlying66 cellsInt (by decide) (Opn.int Try.underlying3)).mono fun ds ⟨rows, e, h, _⟩ => by
    obtain ⟨l, e2, hl⟩ := ints_of h
    exact ⟨l, by rw [e, e2], hl⟩
theorem opn_mat : Opn enc Try.prog W 63 fun ds => ∃ m : List (List Int), ds = [mat m] ∧ ∀ l ∈ m, ∀ x ∈ l, (Lit.int .i64 x).wf = true :=
  (Opn.slice Try.underlying63 cellsInts (by decide) opn_ints).mono fun ds ⟨rows, e, h, _⟩ => by
    obtain ⟨l, e2, hl⟩ := rows_of h
    exact ⟨l, by rw [e, e2], hl⟩
end
end Go.Proofs.Ytpcakodemleoiaa.T
end

/- Arguments that are lists of fractions. -/
section
namespace Go.Proofs.Ytpcakodemleoiaa.T
open Go Go.RowKit Go.ChangeShapes

theorem fracs_of : ∀ {rows : List (List D)}, (∀ r ∈ rows, (∃ a b, r = [int a, int b]) ∧ r.length = 2) → ∃ l : List (Int × Int), rows.flatten = frC l
  | [], _ => ⟨[], rfl⟩
  | r :: rows, h => by
    obtain ⟨⟨a, b, rfl⟩, _⟩ := h r (by simp)
    obtain ⟨l, e⟩ := fracs_of fun x hx => h x (List.mem_cons_of_mem _ hx)
    exact ⟨(a, b) :: l, by simp [e, frC]⟩
theorem cellsFrac : Try.prog.cellsOf 42 = 2 := by kernel_rfl
section
variable {H : Type} {enc : TypeId × Value → H} {W : World}
theorem opn_frac : Opn enc Try.prog W 42 fun ds => ∃ a b, ds = [int a, int b] :=
  (Opn.struct Try.underlying42 ⟨_, _, rfl, rfl, Opn.int Try.underlying3, _, _, rfl, by simp only [cellsInt], Opn.int Try.underlying3, rfl⟩ (by kernel_rfl)).mono fun ds h => by
    obtain ⟨d1, r1, rfl, ⟨a, rfl, _⟩, d2, r2, rfl, ⟨b, rfl, _⟩, rfl⟩ := h
    exact ⟨a, b, rfl⟩
theorem opn_fracs : Opn enc Try.prog W 28 fun ds => ∃ l : List (Int × Int), ds = [frs l] ∧ True :=
  (Opn.slice Try.underlying28 cellsFrac (by decide) opn_frac).mono fun ds ⟨rows, e, h, _⟩ => by
    obtain ⟨l, e2⟩ := fracs_of h
    exact ⟨l, by rw [e, e2], trivial⟩
end
end Go.Proofs.Ytpcakodemleoiaa.T
end

/- Arguments that are systems. -/
section
namespace Go.Proofs.Ytpcakodemleoiaa.T
open Go Go.RowKit Go.ChangeShapes

theorem flats_of {α : Type} {f : α → List D} {n : Nat} : ∀ {rows : List (List D)}, (∀ r ∈ rows, (∃ x, r = f x) ∧ r.length = n) → ∃ l : List α, rows.flatten = l.flatMap f
  | [], _ => ⟨[], rfl⟩
  | r :: rows, h => by
    obtain ⟨⟨x, rfl⟩, _⟩ := h r (by simp)
    obtain ⟨l, e⟩ := flats_of fun x hx => h x (List.mem_cons_of_mem _ hx)
    exact ⟨x :: l, by simp [e]⟩
theorem cellsHold : Try.prog.cellsOf 46 = 4 := by kernel_rfl
theorem cellsRope : Try.prog.cellsOf 39 = 3 := by kernel_rfl
theorem cellsBlock : Try.prog.cellsOf 35 = 2 := by kernel_rfl
theorem agg_of {P : Program} {w : World} {r : Reach} {base : Nat} {t : TypeId} {fs : Array Field} {v : Value} (ht : P.underlying t = some (.struct fs)) (h : Value.okWide P w r base t v) : ∃ cs, v = .agg cs := by
  simp only [Value.okWide, ht] at h
  obtain ⟨cs, e, _⟩ := h
  exact ⟨cs, e⟩
section
variable {H : Type} {enc : TypeId × Value → H} {W : World}
theorem opn_hold : Opn enc Try.prog W 46 fun ds => ∃ h : Hd, ds = hd1 h :=
  (Opn.struct Try.underlying46 ⟨_, _, rfl, (by kernel_rfl), Opn.str Try.underlying9, _, _, rfl, (by kernel_rfl), Opn.int Try.underlying3, _, _, rfl, (by kernel_rfl), opn_frac, rfl⟩ (by kernel_rfl)).mono fun ds h => by
    obtain ⟨d1, r1, rfl, ⟨s, rfl, _⟩, d2, r2, rfl, ⟨p, rfl, _⟩, d3, r3, rfl, ⟨a, b, rfl⟩, rfl⟩ := h
    exact ⟨⟨s, p, a, b⟩, rfl⟩
theorem opn_holds : Opn enc Try.prog W 37 fun ds => ∃ l : List Hd, ds = [hds l] :=
  (Opn.slice Try.underlying37 cellsHold (by decide) opn_hold).mono fun ds ⟨rows, e, h, _⟩ => by
    obtain ⟨l, e2⟩ := flats_of h
    exact ⟨l, by rw [e, e2]; rfl⟩
theorem opn_rope : Opn enc Try.prog W 39 fun ds => ∃ r : Rp, ds = rp1 r :=
  (Opn.struct Try.underlying39 ⟨_, _, rfl, (by kernel_rfl), Opn.str Try.underlying9, _, _, rfl, (by kernel_rfl), opn_holds, _, _, rfl, (by kernel_rfl), Opn.bool Try.underlying4, rfl⟩ (by kernel_rfl)).mono fun ds h => by
    obtain ⟨d1, r1, rfl, ⟨s, rfl, _⟩, d2, r2, rfl, ⟨l, rfl⟩, d3, r3, rfl, ⟨b, rfl⟩, rfl⟩ := h
    exact ⟨⟨s, l, b⟩, rfl⟩
theorem opn_ropes : Opn enc Try.prog W 23 fun ds => ∃ l : List Rp, ds = [rps l] :=
  (Opn.slice Try.underlying23 cellsRope (by decide) opn_rope).mono fun ds ⟨rows, e, h, _⟩ => by
    obtain ⟨l, e2⟩ := flats_of h
    exact ⟨l, by rw [e, e2]; rfl⟩
theorem opn_block : Opn enc Try.prog W 35 fun ds => ∃ b : Bk, ds = bk1 b :=
  (Opn.struct Try.underlying35 ⟨_, _, rfl, (by kernel_rfl), Opn.str Try.underlying9, _, _, rfl, (by kernel_rfl), Opn.int Try.underlying3, rfl⟩ (by kernel_rfl)).mono fun ds h => by
    obtain ⟨d1, r1, rfl, ⟨s, rfl, _⟩, d2, r2, rfl, ⟨p, rfl, _⟩, rfl⟩ := h
    exact ⟨⟨s, p⟩, rfl⟩
theorem opn_blocks : Opn enc Try.prog W 22 fun ds => ∃ l : List Bk, ds = [bks l] :=
  (Opn.slice Try.underlying22 cellsBlock (by decide) opn_block).mono fun ds ⟨rows, e, h, _⟩ => by
    obtain ⟨l, e2⟩ := flats_of h
    exact ⟨l, by rw [e, e2]; rfl⟩
theorem opn_sys : Opn enc Try.prog W 25 fun ds => ∃ s : Sy, ds = [bks s.bs, rps s.rs] :=
  (Opn.struct Try.underlying25 ⟨_, _, rfl, (by kernel_rfl), opn_blocks, _, _, rfl, (by kernel_rfl), opn_ropes, rfl⟩ (by kernel_rfl)).mono fun ds h => by
    obtain ⟨d1, r1, rfl, ⟨a, rfl⟩, d2, r2, rfl, ⟨b, rfl⟩, rfl⟩ := h
    exact ⟨⟨a, b⟩, rfl⟩
theorem arg_sys {v : Value} {base : Nat} {r : Reach} {d : DataW H} {p : List MemPlace} (h : DataW.Trod enc Try.prog W 0 (fun _ => true) true 25 v d p) (hv : Value.okWide Try.prog W r base 25 v) : ∃ s : Sy, Rep (memOf W) [] (syD s) v := by
  obtain ⟨cs, rfl⟩ : ∃ cs, v = .agg cs := by
    simp only [Value.okWide, Try.underlying25] at hv
    obtain ⟨cs, e, _⟩ := hv
    exact ⟨cs, e⟩
  obtain ⟨ds, hr, s, rfl⟩ := arg_agg opn_sys h
  exact ⟨s, hr⟩
theorem cellsSys : Try.prog.cellsOf 25 = 2 := by kernel_rfl
theorem arg_rope {v : Value} {base : Nat} {r : Reach} {d : DataW H} {p : List MemPlace} (h : DataW.Trod enc Try.prog W 0 (fun _ => true) true 39 v d p) (hv : Value.okWide Try.prog W r base 39 v) : ∃ s : Rp, Rep (memOf W) [] (.agg (rp1 s)) v := by
  obtain ⟨cs, rfl⟩ : ∃ cs, v = .agg cs := by
    simp only [Value.okWide, Try.underlying39] at hv
    obtain ⟨cs, e, _⟩ := hv
    exact ⟨cs, e⟩
  obtain ⟨ds, hr, s, rfl⟩ := arg_agg opn_rope h
  exact ⟨s, hr⟩
theorem arg_frac {v : Value} {base : Nat} {r : Reach} {d : DataW H} {p : List MemPlace} (h : DataW.Trod enc Try.prog W 0 (fun _ => true) true 42 v d p) (hv : Value.okWide Try.prog W r base 42 v) : ∃ s : Int × Int, Rep (memOf W) [] (frD s) v := by
  obtain ⟨cs, rfl⟩ : ∃ cs, v = .agg cs := by
    simp only [Value.okWide, Try.underlying42] at hv
    obtain ⟨cs, e, _⟩ := hv
    exact ⟨cs, e⟩
  obtain ⟨ds, hr, a, b, rfl⟩ := arg_agg opn_frac h
  exact ⟨(a, b), hr⟩
abbrev u16s (l : List Int) : D := .sl 1 (l.map fun n => .v (.int .u16 n)) false
theorem u16_of {x : Int} (h : (Lit.int .u16 x).wf = true) : 0 ≤ x ∧ x < 65536 := by
  rw [Lit.wf, Bool.and_eq_true] at h
  have h1 := of_decide_eq_true h.1
  have h2 := of_decide_eq_true h.2
  have e1 : IntKind.u16.min = 0 := rfl
  have e2 : IntKind.u16.max = 65535 := rfl
  rw [e1] at h1
  rw [e2] at h2
  exact ⟨h1, by omega⟩
theorem u16_rows : ∀ {rows : List (List D)}, (∀ r ∈ rows, (∃ n, r = [.v (.int .u16 n)] ∧ (Lit.int .u16 n).wf = true) ∧ r.length = 1) → ∃ l : List Int, rows.flatten = l.map (fun n => .v (.int .u16 n)) ∧ ∀ x ∈ l, (Lit.int .u16 x).wf = true
  | [], _ => ⟨[], rfl, by simp⟩
  | r :: rows, h => by
    obtain ⟨⟨n, rfl, hw⟩, _⟩ := h r (by simp)
    obtain ⟨l, e, hl⟩ := u16_rows fun x hx => h x (List.mem_cons_of_mem _ hx)
    exact ⟨n :: l, by simp [e], fun x hx => by
      rcases List.mem_cons.1 hx with rfl | hx
      · exact hw
      · exact hl x hx⟩
theorem cellsU16 : Try.prog.cellsOf 48 = 1 := by kernel_rfl
theorem u64_of {x : Int} (h : (Lit.int .u64 x).wf = true) : 0 ≤ x ∧ x ≤ 18446744073709551615 := by
  rw [Lit.wf, Bool.and_eq_true] at h
  have h1 := of_decide_eq_true h.1
  have h2 := of_decide_eq_true h.2
  have e1 : IntKind.u64.min = 0 := rfl
  have e2 : IntKind.u64.max = 18446744073709551615 := rfl
  rw [e1] at h1
  rw [e2] at h2
  exact ⟨h1, h2⟩
end
end Go.Proofs.Ytpcakodemleoiaa.T
end

/- The signs of the head's word (printed by mkmake.py): the kernel need not take a long string apart. -/
namespace Go.Proofs.Ytpcakodemleoiaa.T
open Go Go.RowKit Go.Joins
def wordSigns0 : List Char := [104,97,114,110,101,115,115,32,49,99,102,48,49,100,102,56,52,53,100,49,50,48,53,102,100,50,101,50,48,97,52,100,51,49,97,50,51,56,97,97,57,55,56,50,52,50,52,57,56,55,101,51,53,54,48,53,51,57,98,52,48,55,98,48].map Char.ofNat
def wordSigns1 : List Char := [100,53,52,50,51,54,48,99,32,99,117,116,32,97,116,32,108,111,102,116,98,108,111,99,107,47,108,111,102,116,98,108,111,99,107,108,97,119,49,49,46,83,116,97,116,105,99,115,84,117,114,110,115,32,108,111,102,116,98,108,111,99,107,47].map Char.ofNat
def wordSigns2 : List Char := [108,111,102,116,98,108,111,99,107,108,97,119,49,51,46,65,100,118,97,110,116,97,103,101,79,119,110,32,108,111,102,116,98,108,111,99,107,47,108,111,102,116,98,108,111,99,107,108,97,119,49,52,46,76,111,115,115,101,115,84,119,105,99,101].map Char.ofNat
def wordSigns3 : List Char := [32,108,111,102,116,98,108,111,99,107,47,108,111,102,116,98,108,111,99,107,108,97,119,49,52,46,76,111,115,115,101,115,65,108,111,110,103].map Char.ofNat
def wordSigns : List Char := wordSigns0 ++ wordSigns1 ++ wordSigns2 ++ wordSigns3
theorem word_is : Try.prog.initOrder.toList = wordSigns := by
  have h : Try.prog.initOrder = String.ofList wordSigns := by kernel_rfl
  rw [h, String.toList_ofList]
theorem word_cut : behindMainWord (wordsSigns wordSigns) = "cut".toList :: (behindMainWord (wordsSigns wordSigns)).tail := by kernel_rfl
theorem make_of (P : Program) (l : List Char) (h : P.initOrder.toList = l) (r : List (List Char)) (hr : behindMainWord (wordsSigns l) = "cut".toList :: r) : P.make = some .cut := by
  unfold Program.make
  rw [h, hr]
  rfl
theorem enter_of (P : Program) (l : List Char) (h : P.initOrder.toList = l) (r : List (List Char)) (hr : behindMainWord (wordsSigns l) = "cut".toList :: r) (h1 : P.laysLater = false) (h2 : P.bearsReflect = false) (h3 : P.doorFits [] = true) (hs : stripLifts liftWords ("cut".toList :: r) = ([], "cut".toList :: r)) : P.mayEnter = true := by
  unfold Program.mayEnter
  rw [h, hr]
  simp only [hs, h1, h2, h3]
  rfl
theorem word_make : Try.prog.make = some .cut := make_of _ wordSigns word_is _ word_cut
theorem word_enter : Try.prog.mayEnter = true := enter_of _ wordSigns word_is _ word_cut (by kernel_rfl) (by kernel_rfl) (by kernel_rfl) (by kernel_rfl)
theorem word_lifts : Try.prog.liftsFinal = false := by
  unfold Program.liftsFinal Program.headLifts
  rw [word_is]
  kernel_rfl
theorem word_enterP : Try.pinned.checked.prog.mayEnter = true := word_enter
theorem word_liftsP : Try.pinned.checked.prog.liftsFinal = false := word_lifts
theorem word_makeP : Try.pinned.checked.prog.make = some .cut := word_make
end Go.Proofs.Ytpcakodemleoiaa.T

