import Derived.Test.YtcppnmohgaobdaaGreatRVUHAWK
import Derived.Test.YtcppnmohgaobdaaGreatRASOVU
import Derived.Test.YtcppnmohgaobdaaGreatRSKMSNQ
import Derived.Test.YtcppnmohgaobdaaGreatRTJ
import Derived.Test.YtcppnmohgaobdaaGreatRWA
import Derived.Test.YtcppnmohgaobdaaGreatRWJK
import Derived.Test.YtcppnmohgaobdaaGreatRSG
import Derived.Test.YtcppnmohgaobdaaGreatRows
import Derived.Lib.SmallJoins
import Derived.ProofKit
set_option linter.all false
namespace Go.Proofs.YtcppnmohgaobdaaGreat.T
open Go Go.RowKit Lin
end Go.Proofs.YtcppnmohgaobdaaGreat.T

namespace Go.Proofs.YtcppnmohgaobdaaGreat.T
open Go Go.RowKit Lin
theorem gga4_ALL {C1 C2 C3 C4 P Q : Prop} (c1 : C1) (c2 : C2) (c3 : C3) (c4 : C4) (q : Q) (h : C1 → C2 → C3 → C4 → Q → P := by
  intro cc1 cc2 cc3 cc4 hq
  (try with_reducible intro KR hKR)
  (repeat' (first | (with_reducible refine AW_seq ?_) | (with_reducible refine AW_region_k tab_ok fun KR hKR => ?_) | ((first | with_reducible refine AW_skip ?_ | with_reducible refine AW_exit ?_ | ((with_reducible refine awOps_nil ?_); refine hKR _ ?_; (try clear hKR KR))); (repeat (with_reducible first | refine q1 ?_ | refine q2 ?_ | refine q3 ?_ | refine q4 ?_ | refine q5 ?_ | refine q6 ?_ | (refine q7 ?_ ?_; (focus (with_unfolding_all rfl)))))) | ((first | ((with_reducible refine at_ops ?_); (first | refine awOps_n rfl fun KK hKK => ?_ | refine awOps_g rfl rfl fun KK hKK => ?_ | refine awOps_gc rfl fun KK hKK => ?_ | refine awOps_nc fun KK hKK => ?_)) | with_reducible refine AW_cond_k (tab := tab) fun KK hKK => ?_); simp (disch := omega) only [bb, bt, zDs, zD, eqCells, simprocAttr, bne_self_eq_false, Int.reduceBNe, Int.reduceBEq, Bool.bne_false, Bool.bne_true, Bool.false_bne, Bool.true_bne, goC, callO_fn, argsD, and_self]; (try ((first | (with_reducible refine ACall.of_pret (cc1) ?_ ?_; (focus (first | (simp only [um]; done) | rfl))) | (with_reducible refine ACall.of_pret (cc2) ?_ ?_; (focus (first | (simp only [um]; done) | rfl))) | (with_reducible refine ACall.of_pret (cc3) ?_ ?_; (focus (first | (simp only [um]; done) | rfl))) | (with_reducible refine ACall.of_pret (cc4) ?_ ?_; (focus (first | (simp only [um]; done) | rfl)))); simp only [afterC, St.put, putTM, ↓reduceIte, Nat.reduceEqDiff])); refine hKK _ ?_; clear hKK KK; (first | with_reducible refine at_ops ?_ | with_reducible refine i1 ?_ | with_reducible refine i0 ?_))))
  (first | exact hq | (revert hKR; revert KR; exact hq))) : P := h c1 c2 c3 c4 q
def ex14 : Sy := ⟨[⟨hB, 300⟩], [⟨hR, [⟨hE, 0, 1, 1⟩, ⟨hB, 2, 11, 10⟩, ⟨hE, 0, 1, 1⟩], true⟩]⟩
theorem example14 : PRet Tryz.prog 15 [] (syD ex14) := by
  refine PRet.intro 4 fun t => ACall.enter tab_ok Tryz.func15 rfl rfl Tryz.ntmps15 (by simp) ?_
  simp only [enterTM]
  have h1 := refOf 1
  ((refine gga1 h1 ?_))
  ((repeat refine AW_seq ?_); (refine wta ?_); simp (disch := omega) only [retQ, resD, oneD, rsv, rs, rsL, rsL_eq_map, List.map_map, bb, bt, zDs, zD, eqCells, simprocAttr, Tryz.results15])
  rfl
theorem ex14_fits : Fits ex14 := small_fits (by decide +kernel)
theorem ex14_raise : forceP ex14 true = ((1100, 7), 0) := by decide +kernel
theorem ex14_lower : forceP ex14 false = ((1000, 7), 0) := by decide +kernel
theorem ex14_eff : effP ex14 = ((21, 22), 0) := by decide +kernel
set_option maxHeartbeats 2000000 in
theorem awake14 : PRet Tryz.prog 4 [] (bool true) := by
  refine PRet.intro 1 fun t => ACall.enter tab_ok Tryz.func4 rfl rfl Tryz.ntmps4 (by simp) ?_
  simp only [enterTM]
  have hX := example14
  have hR := raise14 ex14 ex14_fits
  have hL := lower14 ex14 ex14_fits
  have hE := eff14 ex14 ex14_fits
  rw [ex14_raise] at hR
  rw [ex14_lower] at hL
  rw [ex14_eff] at hE
  generalize ex14 = e at *
  ((refine gga4_ALL hX hR hL hE ?_))
  ((repeat refine AW_seq ?_); (refine wta ?_); simp (disch := omega) only [retQ, resD, oneD, rsv, rs, rsL, rsL_eq_map, List.map_map, bb, bt, zDs, zD, eqCells, simprocAttr, Tryz.results4])
end Go.Proofs.YtcppnmohgaobdaaGreat.T

namespace Go.Proofs.YtcppnmohgaobdaaGreat.T
open Go Go.RowKit Lin
theorem ready14 (s : Sy) : PRet Tryz.prog 5 [syD s] (bool (smallS s && validS s)) := by
  refine PRet.intro 1 fun t => ACall.enter tab_ok Tryz.func5 rfl rfl Tryz.ntmps5 (by simp) ?_
  simp only [enterTM]
  have hS := small_ref s
  cases hs : smallS s
  · rw [hs] at hS
    ((refine gga1 hS ?_))
    ((repeat refine AW_seq ?_); (refine wta ?_); simp (disch := omega) only [retQ, resD, oneD, rsv, rs, rsL, rsL_eq_map, List.map_map, bb, bt, zDs, zD, eqCells, simprocAttr, Tryz.results5])
  rw [hs] at hS
  have hV := valid_ref s (small_fits hs)
  ((refine gga2 hS hV ?_))
  ((repeat refine AW_seq ?_); (refine wta ?_); simp (disch := omega) only [retQ, resD, oneD, rsv, rs, rsL, rsL_eq_map, List.map_map, bb, bt, zDs, zD, eqCells, simprocAttr, Tryz.results5])
end Go.Proofs.YtcppnmohgaobdaaGreat.T

namespace Go.Proofs.YtcppnmohgaobdaaGreat.T
open Go Go.RowKit Lin
theorem ggb9_ASW {F C1 C2 C3 C4 C5 C6 C7 C8 C9 P Q : Prop} (f : F) (c1 : C1) (c2 : C2) (c3 : C3) (c4 : C4) (c5 : C5) (c6 : C6) (c7 : C7) (c8 : C8) (c9 : C9) (q : Q) (h : F → C1 → C2 → C3 → C4 → C5 → C6 → C7 → C8 → C9 → Q → P := by
  intro ff cc1 cc2 cc3 cc4 cc5 cc6 cc7 cc8 cc9 hq
  (try with_reducible intro KR hKR)
  (repeat' (first | (with_reducible refine AW_seq ?_) | (with_reducible refine AW_region_k tab_ok fun KR hKR => ?_) | ((first | with_reducible refine AW_skip ?_ | with_reducible refine AW_exit ?_ | ((with_reducible refine awOps_nil ?_); refine hKR _ ?_; (try clear hKR KR))); (repeat (with_reducible first | refine q1 ?_ | refine q2 ?_ | refine q3 ?_ | refine q4 ?_ | refine q5 ?_ | refine q6 ?_ | (refine q7 ?_ ?_; (focus (with_unfolding_all rfl)))))) | ((first | ((with_reducible refine at_ops ?_); (first | refine awOps_n rfl fun KK hKK => ?_ | refine awOps_g rfl rfl fun KK hKK => ?_ | refine awOps_gc rfl fun KK hKK => ?_ | refine awOps_nc fun KK hKK => ?_)) | with_reducible refine AW_cond_k (tab := tab) fun KK hKK => ?_); simp (disch := omega) only [bb, bt, zDs, zD, eqCells, simprocAttr, ff, bne_self_eq_false, Int.reduceBNe, Int.reduceBEq, Bool.bne_false, Bool.bne_true, Bool.false_bne, Bool.true_bne, goC, callO_fn, argsD, and_self]; (try ((first | (with_reducible refine ACall.of_pret (cc1) ?_ ?_; (focus (first | (simp only [um]; done) | rfl))) | (with_reducible refine ACall.of_pret (cc2) ?_ ?_; (focus (first | (simp only [um]; done) | rfl))) | (with_reducible refine ACall.of_pret (cc3) ?_ ?_; (focus (first | (simp only [um]; done) | rfl))) | (with_reducible refine ACall.of_pret (cc4) ?_ ?_; (focus (first | (simp only [um]; done) | rfl))) | (with_reducible refine ACall.of_pret (cc5) ?_ ?_; (focus (first | (simp only [um]; done) | rfl))) | (with_reducible refine ACall.of_pret (cc6) ?_ ?_; (focus (first | (simp only [um]; done) | rfl))) | (with_reducible refine ACall.of_pret (cc7) ?_ ?_; (focus (first | (simp only [um]; done) | rfl))) | (with_reducible refine ACall.of_pret (cc8) ?_ ?_; (focus (first | (simp only [um]; done) | rfl))) | (with_reducible refine ACall.of_pret (cc9) ?_ ?_; (focus (first | (simp only [um]; done) | rfl)))); simp only [afterC, St.put, putTM, ↓reduceIte, Nat.reduceEqDiff])); refine hKK _ ?_; clear hKK KK; (first | with_reducible refine at_ops ?_ | with_reducible refine i1 ?_ | with_reducible refine i0 ?_))))
  (first | exact hq | (revert hKR; revert KR; exact hq))) : P := h f c1 c2 c3 c4 c5 c6 c7 c8 c9 q
def plainY (s : Sy) : Bool := decide (s.bs.length = 1) && !s.rs.any fun r => r.hs.any fun h => decide (h.p < 0)
theorem plain_11 (h : Hd) : PRet Tryz.prog 22 [.agg (hd1 h)] (bool (decide (h.p < 0))) := by
  refine PRet.intro 1 fun t => ACall.enter tab_ok Tryz.func22 rfl rfl Tryz.ntmps22 (by simp) ?_
  simp only [enterTM]
  ((refine gga0 ?_))
  ((repeat refine AW_seq ?_); (refine wta ?_); simp (disch := omega) only [retQ, resD, oneD, rsv, rs, rsL, rsL_eq_map, List.map_map, bb, bt, zDs, zD, eqCells, simprocAttr, Tryz.results22])
theorem plain_1 (r : Rp) (hl : r.hs.length ≤ 1000000) : PRet Tryz.prog 20 [.agg (rp1 r)] (bool (r.hs.any fun h => decide (h.p < 0))) := by
  refine PRet.intro 1 fun t => ACall.enter tab_ok Tryz.func20 rfl rfl Tryz.ntmps20 (by simp) ?_
  simp only [enterTM]
  have hC := containsFuncHd r.hs 22 [] (fun h => decide (h.p < 0)) hl (fun x _ => plain_11 x)
  generalize (r.hs.any fun h => decide (h.p < 0)) = z at *
  ((refine gga1 hC ?_))
  ((repeat refine AW_seq ?_); (refine wta ?_); simp (disch := omega) only [retQ, resD, oneD, rsv, rs, rsL, rsL_eq_map, List.map_map, bb, bt, zDs, zD, eqCells, simprocAttr, Tryz.results20])
theorem containsFuncRp14 (l : List Rp) (g : FuncId) (caps : List D) (p : Rp → Bool) (hl : l.length ≤ 1000000) (hp : ∀ x ∈ l, PRet Tryz.prog g ((.agg (rp1 x) :: caps).map ufa) (bool (p x))) : PRet Tryz.prog 19 [rps l, .fn g caps] (bool (l.any p)) := by
  refine PRet.intro 1 fun t => ACall.enter tab_ok Tryz.func19 rfl rfl Tryz.ntmps19 (by simp) ?_
  simp only [enterTM]
  have hI := indexFuncRp l g caps p hl hp
  have hA := idx_any p l 0
  generalize idx p l 0 = z at *
  ((refine gga1 hI ?_))
  ((repeat refine AW_seq ?_); (refine wta ?_); simp (disch := omega) only [retQ, resD, oneD, rsv, rs, rsL, rsL_eq_map, List.map_map, bb, bt, zDs, zD, eqCells, simprocAttr, Tryz.results19, hA])
theorem plain14 (s : Sy) (hf : Fits s) : PRet Tryz.prog 6 [syD s] (bool (plainY s)) := by
  refine PRet.intro 1 fun t => ACall.enter tab_ok Tryz.func6 rfl rfl Tryz.ntmps6 (by simp) ?_
  simp only [enterTM]
  have hC := containsFuncRp14 s.rs 20 [] (fun r => r.hs.any fun h => decide (h.p < 0)) hf.nr (fun x hx => plain_1 x (hf.sr x hx).2)
  have hdb := bkC_div s.bs
  unfold plainY
  generalize (s.rs.any fun r => r.hs.any fun h => decide (h.p < 0)) = z at *
  by_cases h1 : s.bs.length = 1
  · have e1 : ((s.bs.length : Int) == 1) = true := by simp [h1]
    rw [decide_eq_true h1]
    ((refine ggb1 (F := _∧_) ⟨hdb, e1⟩ hC ?_))
    ((repeat refine AW_seq ?_); (refine wta ?_); simp (disch := omega) only [retQ, resD, oneD, rsv, rs, rsL, rsL_eq_map, List.map_map, bb, bt, zDs, zD, eqCells, simprocAttr, Tryz.results6])
  · have e1 : ((s.bs.length : Int) == 1) = false := by simp; omega
    rw [decide_eq_false h1]
    ((refine ggb0 (F := _∧_) ⟨hdb, e1⟩ ?_))
    ((repeat refine AW_seq ?_); (refine wta ?_); simp (disch := omega) only [retQ, resD, oneD, rsv, rs, rsL, rsL_eq_map, List.map_map, bb, bt, zDs, zD, eqCells, simprocAttr, Tryz.results6])
theorem most14 (a b : Int × Int) : PRet Tryz.prog 10 [frD a, frD b] (bool ((cmpP a b).2 == 0 && decide ((cmpP a b).1 ≤ 0))) := by
  refine PRet.intro 1 fun t => ACall.enter tab_ok Tryz.func10 rfl rfl Tryz.ntmps10 (by simp) ?_
  simp only [enterTM]
  have hC := rCmp a b
  generalize cmpP a b = c at *
  cases e1 : (c.2 == 0)
  · ((refine ggb1 e1 hC ?_))
    ((repeat refine AW_seq ?_); (refine wta ?_); simp (disch := omega) only [retQ, resD, oneD, rsv, rs, rsL, rsL_eq_map, List.map_map, bb, bt, zDs, zD, eqCells, simprocAttr, Tryz.results10])
  · ((refine ggb1 e1 hC ?_))
    ((repeat refine AW_seq ?_); (refine wta ?_); simp (disch := omega) only [retQ, resD, oneD, rsv, rs, rsL, rsL_eq_map, List.map_map, bb, bt, zDs, zD, eqCells, simprocAttr, Tryz.results10])
theorem most_le {a b : Int × Int} (ha : vfrac a.1 a.2 = true) (hb : vfrac b.1 b.2 = true) (h : leF a b) : PRet Tryz.prog 10 [frD a, frD b] (bool true) := by
  have := most14 a b
  have e : cmpP a b = (cmpV a b, 0) := by unfold cmpP; rw [if_pos ⟨ha, hb⟩]
  rw [e] at this
  simp only [beq_self_eq_true, Bool.true_and, decide_eq_true (cmp_le.2 h)] at this
  exact this
theorem most_not {a b : Int × Int} (ha : vfrac a.1 a.2 = true) (hb : vfrac b.1 b.2 = true) (h : ¬ leF a b) : PRet Tryz.prog 10 [frD a, frD b] (bool false) := by
  have := most14 a b
  have e : cmpP a b = (cmpV a b, 0) := by unfold cmpP; rw [if_pos ⟨ha, hb⟩]
  rw [e] at this
  simp only [beq_self_eq_true, Bool.true_and, decide_eq_false (fun k => h (cmp_le.1 k))] at this
  exact this
theorem setS_fits {s : Sy} (hf : Fits s) {k i : Nat} {r : Rp} {h : Hd} {l : Int × Int} (hr : r ∈ s.rs) : Fits (setS s k r i h l) := ⟨hf.nb, by simpa [setS] using hf.nr, hf.sb, fun q hq => by
  rcases List.mem_or_eq_of_mem_set hq with hq | rfl
  · exact hf.sr q hq
  · exact ⟨(hf.sr r hr).1, by simpa [setR] using (hf.sr r hr).2⟩⟩
theorem roC_set {s : Sy} {k i : Nat} {r : Rp} {h : Hd} {l : Int × Int} (hr : s.rs[k]? = some r) (hh : r.hs[i]? = some h) (qs : List (Nat × Nat)) : roC (setS s k r i h l).rs qs = roC s.rs qs := by
  rw [← roC_clean, ← roC_clean s.rs]
  exact congrArg (roC · qs) (congrArg Sy.rs (setS_clean (l := l) hr hh))
theorem rsv_agg2 (H : Hp) (k : Nat) (x y : D) : rsv H (k + 1) (.agg [x, y]) = .agg [rsv H (k + 1) x, rsv H (k + 1) y] := by simp only [rsv, T.rs, rsL]
set_option maxRecDepth 100000 in
set_option maxHeartbeats 16000000 in
theorem law_order14 (s : Sy) (a : Int) (ha : 0 ≤ a ∧ a < 256) (l : Int × Int) : PRet Tryz.prog 3 [syD s, .v (.int .u8 a), frD l] (bool true) := by
  refine PRet.intro 1 fun t => ACall.enter tab_ok Tryz.func3 rfl rfl Tryz.ntmps3 (by simp) ?_
  simp only [enterTM]
  have hR := ready14 s
  cases hr : smallS s && validS s
  · rw [hr] at hR
    ((refine gga2 awake14 hR ?_))
    ((repeat refine AW_seq ?_); (refine wta ?_); simp (disch := omega) only [retQ, resD, oneD, rsv, rs, rsL, rsL_eq_map, List.map_map, bb, bt, zDs, zD, eqCells, simprocAttr, Tryz.results3])
  rw [hr] at hR
  rw [Bool.and_eq_true] at hr
  obtain ⟨hs, hv⟩ := hr
  have hf := small_fits hs
  have ok := validS_ok hv
  have hP := plain14 s hf
  cases hp : plainY s
  · rw [hp] at hP
    ((refine gga3 awake14 hR hP ?_))
    ((repeat refine AW_seq ?_); (refine wta ?_); simp (disch := omega) only [retQ, resD, oneD, rsv, rs, rsL, rsL_eq_map, List.map_map, bb, bt, zDs, zD, eqCells, simprocAttr, Tryz.results3])
  rw [hp] at hP
  obtain ⟨b, o⟩ : ∃ b, One s b := by
    unfold plainY at hp
    rw [Bool.and_eq_true, decide_eq_true_eq, Bool.not_eq_true', List.any_eq_false] at hp
    obtain ⟨b, hb⟩ := List.length_eq_one_iff.1 hp.1
    refine ⟨b, hv, hb, fun r hr h hh => ?_⟩
    have := hp.2 r hr
    rw [Bool.not_eq_true, List.any_eq_false] at this
    have := this h hh
    rw [decide_eq_true_eq] at this
    omega
  have hH := hold14 s hf
  have hI := ideal_ref s ok
  have hA := raise14 (cleanS s) (clean_fits hf)
  have hE := eff14 s hf
  have hHe := hold_err o
  have hIe := force_err o.clean true
  have hHo := @holdP_ok s
  have hmid := @order_mid s b o
  have htop := @order_top s b o
  have hset := fun i r h => @order_set s b o i r h l
  have heff := @eff_le s b o
  have hIv := @force_v (cleanS s) true
  generalize hEE : effP s = E at *
  generalize hAA : forceP (cleanS s) true = A at *
  generalize hXX : holdP s = X at *
  obtain ⟨lo, hi, e⟩ := X
  simp only at *
  by_cases h1 : e = 0
  rotate_left 1
  · have e1 : (e != 0) = true := by simpa using h1
    have e2 : (e != 17) = true := by simpa using hHe.2
    have e3 : (e != 13) = true := by simpa using hHe.1
    ((refine ggb6 (F := _∧_∧_) ⟨e1, e2, e3⟩ awake14 hR hP hH hI hA ?_))
    ((repeat refine AW_seq ?_); (refine wta ?_); simp (disch := omega) only [retQ, resD, oneD, rsv, rs, rsL, rsL_eq_map, List.map_map, bb, bt, zDs, zD, eqCells, simprocAttr, Tryz.results3])
  subst h1
  by_cases h2 : A.2 = 0
  rotate_left 1
  · have e1 : (A.2 != 0) = true := by simpa using h2
    ((refine ggb6 e1 awake14 hR hP hH hI hA ?_))
    ((repeat refine AW_seq ?_); (refine wta ?_); simp (disch := omega) only [retQ, resD, oneD, rsv, rs, rsL, rsL_eq_map, List.map_map, bb, bt, zDs, zD, eqCells, simprocAttr, Tryz.results3])
  have e1 : (A.2 != 0) = false := by simpa using h2
  obtain ⟨f1, f2, g1, g2, _, vl, vh⟩ := hHo rfl
  have k1 : PRet Tryz.prog 10 [frD lo, frD A.1] (bool true) := most_le vl (hIv h2) (by rw [g1]; exact hmid f2 h2)
  have k2 : PRet Tryz.prog 10 [frD A.1, frD hi] (bool true) := most_le (hIv h2) vh (by rw [g2]; exact htop f1 h2)
  ((refine ggb9_ASW e1 awake14 hR hP hH hI hA k1 k2 hE ?_))
  have k3 : E.2 = 0 → PRet Tryz.prog 10 [frD E.1, frD (1, 1)] (bool true) := fun h => by
    have := heff h
    exact most_le this.1 (by decide) this.2
  obtain ⟨j, r, hj, hrr, hrl⟩ := hix_hit (givL_inv (force_giv f1)).2.1
  have ehr : hauR s = r := by unfold hauR; rw [hj, Int.toNat_natCast, List.getD_eq_getElem?_getD, hrr]; rfl
  have hjl := (List.getElem?_eq_some_iff.1 hrr).1
  have hrm := List.mem_of_getElem? hrr
  obtain ⟨n2, n10, _⟩ := ok.holds r hrm
  have hset := fun i h => hset i r h ehr
  have hHaul := refHaul s hf.nr
  rw [hj] at hHaul hset
  rw [Int.toNat_natCast] at hset
  have hLo := lossy_ref l.1 l.2
  clear hmid htop hHe hIe heff hEE hAA hXX
  intro KR hKR
  cases e0 : (E.2 == 0)
  rotate_left 1
  have k3 := k3 (by simpa using e0)
  ((refine wrb e0 ?_))
  ((refine wka1 k3 ?_))
  ((refine wra ?_))
  ((refine wea ?_); (try clear hKR KR))
  ((refine wia ?_))
  ((refine wsa ?_))
  rotate_left 1
  ((refine wrb e0 ?_))
  ((refine wea ?_); (try clear hKR KR))
  ((refine wia ?_))
  ((refine wsa ?_))
  all_goals
    clear k3 hE
    refine AW.less ⟨[(1, .v (.int .u8 a)), (3, .ptr 0 (t + 1) 0), (5, .ptr 1 (t + 1 + 1) 0), (7, .ptr 2 (t + 1 + 1 + 1) 0), (8, .ptr 3 (t + 1 + 1 + 1 + 1) 0)], [some ⟨25, t + 1, [bks s.bs, rps s.rs]⟩, some ⟨27, t + 1 + 1, [int l.1, int l.2]⟩, some ⟨27, t + 1 + 1 + 1, [int lo.1, int lo.2]⟩, some ⟨27, t + 1 + 1 + 1 + 1, [int hi.1, int hi.2]⟩, none, none], t + 1 + 1 + 1 + 1 + 1 + 1⟩ (by (simp (disch := omega) only [StLe, tmLe, hpLe_refl, hpLe, bl, bb, bt, zDs, zD, eqCells, simprocAttr])) ?_
    refine AW.reserve 1 ?_
    simp only [List.replicate_succ, List.replicate_zero, List.cons_append, List.nil_append]
    ((repeat refine AW_seq ?_); (refine AW_region_k tab_ok fun KR hKR => ?_))
    ((refine wra ?_))
    ((try with_reducible intro KR hKR); (first | refine awOps_nc fun KK hKK => ?_ | refine awOps_gc rfl fun KK hKK => ?_); simp (disch := omega) only [bb, bt, zDs, zD, eqCells, simprocAttr, goC, callO_fn, argsD, and_self])
    refine copyH ok rfl fun g2 gr qs R B0 B1 B3 t1 hcb ht1 => ?_
    simp only [List.length_cons, List.length_nil, List.cons_append, List.nil_append, Nat.zero_add, Nat.reduceAdd]
    (simp (disch := omega) only [bb, bt, zDs, zD, eqCells, simprocAttr, afterC]; refine hKK _ ?_; clear hKK KK)
    refine awOps_at 6 rfl rfl (by decide) fun KK hKK => ?_
    (simp (disch := omega) only [bb, bt, zDs, zD, eqCells, simprocAttr])
    refine hKK _ ?_; clear hKK KK
    ((refine wra ?_))
    ((refine wea ?_); (try clear hKR KR))
    have hlq := hcb.lq
    have hrc := roC_cells hlq
    obtain ⟨p, hpq⟩ : ∃ y, qs[j]? = some y := ⟨_, List.getElem?_eq_getElem (by omega)⟩
    have hc1 := roC_hs hrr hpq
    have hc2 := take_one hc1
    have hcl := hcb.lr
    have hcat := hcb.at_
    obtain ⟨p1, p2⟩ := p
    obtain ⟨p9, pR⟩ := hcat j r (p1, p2) hrr hpq
    simp only [List.length_cons, List.length_nil] at hc1 hc2 p9 pR hcat
    generalize hRC : (roC s.rs qs).flatten = RC at *
    have hrd : RC.length / 3 = s.rs.length := by omega
    refine AW.less ⟨[(1, .v (.int .u8 a)), (3, .ptr 0 (t + 1) 0), (5, .ptr 1 (t + 1 + 1) 0), (7, .ptr 2 (t + 1 + 1 + 1) 0), (8, .ptr 3 (t + 1 + 1 + 1 + 1) 0), (14, .ptr 6 (t1 + 1) 0)], some ⟨25, t + 1, [bks s.bs, rps s.rs]⟩ :: some ⟨27, t + 1 + 1, [int l.1, int l.2]⟩ :: some ⟨27, t + 1 + 1 + 1, [int lo.1, int lo.2]⟩ :: some ⟨27, t + 1 + 1 + 1 + 1, [int hi.1, int hi.2]⟩ :: none :: none :: some ⟨25, t1 + 1, [.own 2 9 g2 0 s.bs.length, .own 3 11 gr 0 s.rs.length]⟩ :: none :: none :: some ⟨57, g2, bkC s.bs⟩ :: none :: some ⟨40, gr, RC⟩ :: R.map some, t1 + 1⟩ (by (simp (disch := omega) only [StLe, tmLe, hpLe_refl, hpLe, bl, bb, bt, zDs, zD, eqCells, simprocAttr])) ?_
    ((repeat refine AW_seq ?_); (refine AW_region_k tab_ok fun KR hKR => ?_))
    ((refine wra ?_))
    ((try with_reducible intro KR hKR); (first | refine awOps_nc fun KK hKK => ?_ | refine awOps_gc rfl fun KK hKK => ?_); simp (disch := omega) only [bb, bt, zDs, zD, eqCells, simprocAttr, goC, callO_fn, argsD, and_self])
    refine ACall.of_readV 3 hHaul ?_ ?_
    · rw [List.map_cons, List.map_nil, rsv_agg2, rsv_blocks (k := 1) (bs := s.bs) (by rfl), rsv_ropes (k := 0) (rs := s.rs) (qs := qs) ⟨hlq, fun i x q hx hq => ?_⟩ (by rw [hRC]; rfl)]
      obtain ⟨a1, a2⟩ := hcat i x q hx hq
      refine ⟨Nat.zero_le _, ?_⟩
      rw [a1, Nat.sub_zero, show 7 + (2 * i + 6) = (2 * i + 1) + 1 + 1 + 1 + 1 + 1 + 1 + 1 + 1 + 1 + 1 + 1 + 1 by omega]
      simp only [List.getElem?_cons_succ, List.getElem?_map, a2, Option.map_some]
    (simp (disch := omega) only [bb, bt, zDs, zD, eqCells, simprocAttr, afterC]; refine hKK _ ?_; clear hKK KK)
    ((refine wra ?_))
    ((refine wea ?_); (try clear hKR KR))
    have hget : ∀ X0 X1 X2 X3 X4 X5 X6 X7 X8 X9 X10 X11 : Option Blk, (X0 :: X1 :: X2 :: X3 :: X4 :: X5 :: X6 :: X7 :: X8 :: X9 :: X10 :: X11 :: R.map some)[p1]? = some (some ⟨44, p2, hdC r.hs⟩) := fun X0 X1 X2 X3 X4 X5 X6 X7 X8 X9 X10 X11 => by
      rw [p9, show 7 + (2 * j + 6) = (2 * j + 1) + 1 + 1 + 1 + 1 + 1 + 1 + 1 + 1 + 1 + 1 + 1 + 1 by omega]
      simp only [List.getElem?_cons_succ, List.getElem?_map, pR, Option.map_some]
    have hl4 := hdC_len r.hs
    ((refine wqb (F := _∧_∧_∧_∧_∧_) ⟨hjl, hrd, hc1, hc2, hget, hl4⟩ ?_))
    by_cases hn3 : r.hs.length < 3
    · have hn4 : (r.hs.length : Int) < 3 := by omega
      ((refine ggb0 (F := _∧_∧_) ⟨hn4, hget, hl4⟩ ?_))
      ((repeat refine AW_seq ?_); (refine wta ?_); simp (disch := omega) only [retQ, resD, oneD, rsv, rs, rsL, rsL_eq_map, List.map_map, bb, bt, zDs, zD, eqCells, simprocAttr, Tryz.results3])
    have hn4 : ¬ (r.hs.length : Int) < 3 := by omega
    cases hlo : lossy l.1 l.2
    · rw [hlo] at hLo
      ((refine ggb1 (F := _∧_∧_) ⟨hn4, hget, hl4⟩ hLo ?_))
      ((repeat refine AW_seq ?_); (refine wta ?_); simp (disch := omega) only [retQ, resD, oneD, rsv, rs, rsL, rsL_eq_map, List.map_map, bb, bt, zDs, zD, eqCells, simprocAttr, Tryz.results3])
    rw [hlo] at hLo
    obtain ⟨i, hiq, j1, j2⟩ : ∃ i : Nat, 1 + a.tmod ((r.hs.length : Int) - 2) = (i : Int) ∧ 1 ≤ i ∧ i + 1 < r.hs.length := by
      have b1 := Int.emod_nonneg a (show (r.hs.length : Int) - 2 ≠ 0 by omega)
      have b2 := Int.emod_lt_of_pos a (show 0 < (r.hs.length : Int) - 2 by omega)
      rw [Int.tmod_eq_emod_of_nonneg ha.1]
      exact ⟨(1 + a % ((r.hs.length : Int) - 2)).toNat, by omega, by omega, by omega⟩
    have wp := wr64 a (by omega)
    have hz2 : ((r.hs.length : Int) - 2 = 0) = False := by simp; omega
    have hil : i < r.hs.length := by omega
    ((refine ggb1 (F := _∧_∧_∧_∧_∧_∧_) ⟨hn4, wp, hz2, hiq, hil, hget, hl4⟩ hLo ?_))
    obtain ⟨h, hh⟩ : ∃ y, r.hs[i]? = some y := ⟨_, List.getElem?_eq_getElem hil⟩
    have hlh := okLoss_lossy (rightR_at (right_of ok hrm) hh)
    have vh5 : vfrac h.n h.d = true := (lossy_fb hlh).v
    have vl5 : vfrac l.1 l.2 = true := (lossy_fb (n := l.1) (d := l.2) hlo).v
    have hlk := hdC_loss hh
    have hle4 : i * 4 + 4 ≤ r.hs.length * 4 := by omega
    by_cases hle : leF l (h.n, h.d)
    · have k5 := most_le (b := (h.n, h.d)) vl5 vh5 hle
      ((repeat refine AW_seq ?_); (refine gdzb1 (F := _∧_∧_∧_) ⟨hget, hl4, hle4, hlk⟩ k5 ?_))
      ((refine gga0 ?_))
      ((repeat refine AW_seq ?_); (refine wta ?_); simp (disch := omega) only [retQ, resD, oneD, rsv, rs, rsL, rsL_eq_map, List.map_map, bb, bt, zDs, zD, eqCells, simprocAttr, Tryz.results3])
    have k5 := most_not (b := (h.n, h.d)) vl5 vh5 hle
    ((repeat refine AW_seq ?_); (refine gdzb1 (F := _∧_∧_∧_) ⟨hget, hl4, hle4, hlk⟩ k5 ?_))
    ((refine wia ?_))
    ((refine wsa ?_))
    have hset1 : ∀ (X0 X1 X2 X3 X4 X5 X6 X7 X8 X9 X10 X11 : Option Blk) (Y : Blk), (X0 :: X1 :: X2 :: X3 :: X4 :: X5 :: X6 :: X7 :: X8 :: X9 :: X10 :: X11 :: R.map some).set p1 (some Y) = X0 :: X1 :: X2 :: X3 :: X4 :: X5 :: X6 :: X7 :: X8 :: X9 :: X10 :: X11 :: (R.set (2 * j + 1) Y).map some := fun X0 X1 X2 X3 X4 X5 X6 X7 X8 X9 X10 X11 Y => by
      rw [p9, show 7 + (2 * j + 6) = (2 * j + 1) + 1 + 1 + 1 + 1 + 1 + 1 + 1 + 1 + 1 + 1 + 1 + 1 by omega]
      simp only [List.set_cons_succ, List.map_set]
    have hne : (p1 = R.length + 1 + 1 + 1 + 1 + 1 + 1 + 1 + 1 + 1 + 1 + 1 + 1) = False := by simp only [eq_iff_iff, iff_false]; omega
    have hs4 := hdC_ls hh l.1 l.2
    ((refine wqb (F := _∧_∧_∧_∧_∧_) ⟨hget, hset1, hne, hl4, hle4, hs4⟩ ?_))
    obtain ⟨he0, heo⟩ := hset i h hh j1 j2 hlo hle rfl
    have hFT := setS_fits hf (k := j) (i := i) (h := h) (l := l) hrm
    have hRT := roC_set (l := l) hrr hh qs
    have hTb : (setS s j r i h l).bs = s.bs := rfl
    have hTr : (setS s j r i h l).rs = s.rs.set j ⟨r.nm, r.hs.set i ⟨h.b, h.p, l.1, l.2⟩, r.hl⟩ := rfl
    have hTl : (setS s j r i h l).rs.length = s.rs.length := by rw [hTr, List.length_set]
    have hHT := hold14 _ hFT
    have hHv := @holdP_ok (setS s j r i h l)
    generalize setS s j r i h l = T' at *
    generalize hR2 : R.set (2 * j + 1) ⟨44, p2, hdC (r.hs.set i ⟨h.b, h.p, l.1, l.2⟩)⟩ = R2 at *
    have hlay : LayR 7 (none :: none :: some ⟨57, g2, bkC s.bs⟩ :: none :: some ⟨40, gr, RC⟩ :: R2.map some) T'.rs qs := ⟨by rw [hTl]; exact hlq, fun u x q hx hq => by
      rw [hTr, List.getElem?_set] at hx
      by_cases e : j = u
      · subst e
        rw [if_pos rfl, if_pos hjl, Option.some.injEq] at hx
        rw [hpq, Option.some.injEq] at hq
        subst hx hq
        refine ⟨by simp only; omega, ?_⟩
        simp only
        rw [p9, show 7 + (2 * j + 6) - 7 = (2 * j + 1) + 1 + 1 + 1 + 1 + 1 by omega]
        simp only [List.getElem?_cons_succ, List.getElem?_map]
        rw [← hR2, List.getElem?_set_self (by omega)]
        rfl
      · rw [if_neg e] at hx
        obtain ⟨a1, a2⟩ := hcat u x q hx hq
        refine ⟨by omega, ?_⟩
        rw [a1, show 7 + (2 * u + 6) - 7 = (2 * u + 1) + 1 + 1 + 1 + 1 + 1 by omega]
        simp only [List.getElem?_cons_succ, List.getElem?_map]
        rw [← hR2, List.getElem?_set_ne (by omega), a2]
        rfl⟩
    have z1 := zv_blocks (k := 2) (m := 7) (H2 := none :: none :: some ⟨57, g2, bkC s.bs⟩ :: none :: some ⟨40, gr, RC⟩ :: R2.map some) (b := 9) (g := g2) (bs := s.bs) (by decide) rfl
    have z2 := zv_ropes (k := 1) (b := 11) (g := gr) hlay (by decide) (by rw [hRT, hRC]; rfl)
    rw [hTl] at z2
    have hsy : syD T' = .agg [bks s.bs, rps T'.rs] := by rw [← hTb]
    rw [hsy] at hHT
    refine AW.less ⟨[(7, .ptr 2 (t + 1 + 1 + 1) 0), (8, .ptr 3 (t + 1 + 1 + 1 + 1) 0), (14, .ptr 6 (t1 + 1) 0)], none :: none :: some ⟨27, t + 1 + 1 + 1, [int lo.1, int lo.2]⟩ :: some ⟨27, t + 1 + 1 + 1 + 1, [int hi.1, int hi.2]⟩ :: none :: none :: some ⟨25, t1 + 1, [.own 2 9 g2 0 s.bs.length, .own 3 11 gr 0 s.rs.length]⟩ :: none :: none :: some ⟨57, g2, bkC s.bs⟩ :: none :: some ⟨40, gr, RC⟩ :: R2.map some, t1 + 1 + 1⟩ (by (simp (disch := omega) only [StLe, tmLe, hpLe_refl, hpLe, bl, bb, bt, zDs, zD, eqCells, simprocAttr])) ?_
    refine AW.tail 3 [none, none, some ⟨27, t + 1 + 1 + 1, [int lo.1, int lo.2]⟩, some ⟨27, t + 1 + 1 + 1 + 1, [int hi.1, int hi.2]⟩, none, none, some ⟨25, t1 + 1, [.own 2 9 g2 0 s.bs.length, .own 3 11 gr 0 s.rs.length]⟩] (none :: none :: some ⟨57, g2, bkC s.bs⟩ :: none :: some ⟨40, gr, RC⟩ :: R2.map some) rfl ?_
    have zp0 : ∀ H : Hp, zv 7 H 3 (.ptr 2 (t + 1 + 1 + 1) 0) = .ptr 2 (t + 1 + 1 + 1) 0 := fun H => by simp [zv, zz]
    have zp1 : ∀ H : Hp, zv 7 H 3 (.ptr 3 (t + 1 + 1 + 1 + 1) 0) = .ptr 3 (t + 1 + 1 + 1 + 1) 0 := fun H => by simp [zv, zz]
    have zp2 : ∀ H : Hp, zv 7 H 3 (.ptr 6 (t1 + 1) 0) = .ptr 6 (t1 + 1) 0 := fun H => by simp [zv, zz]
    simp only [zT, zH, List.map_cons, List.map_nil, Option.map_some, Option.map_none, List.length_nil, List.length_cons, Nat.zero_add, Nat.reduceAdd, z1, z2, zp0, zp1, zp2, zv_v]
    clear z1 z2 zp0 zp1 zp2 hlay hcat hget hset1 hne
    generalize holdP T' = Y at *
    obtain ⟨u, v, g⟩ := Y
    simp only at he0 heo hHT hHv
    rcases he0 with g0 | g0
    · subst g0
      obtain ⟨l1, l2⟩ := heo rfl
      obtain ⟨_, _, _, _, _, vu, vv⟩ := hHv rfl
      have k6 := most_le vu vl l1
      have k7 := most_le vh vv l2
      ((refine gga3 hHT k6 k7 ?_))
      ((repeat refine AW_seq ?_); (refine wta ?_); simp (disch := omega) only [retQ, resD, oneD, rsv, rs, rsL, rsL_eq_map, List.map_map, bb, bt, zDs, zD, eqCells, simprocAttr, Tryz.results3])
    · subst g0
      ((refine gga1 hHT ?_))
      ((repeat refine AW_seq ?_); (refine wta ?_); simp (disch := omega) only [retQ, resD, oneD, rsv, rs, rsL, rsL_eq_map, List.map_map, bb, bt, zDs, zD, eqCells, simprocAttr, Tryz.results3])
end Go.Proofs.YtcppnmohgaobdaaGreat.T

section
namespace Go.Proofs.YtcppnmohgaobdaaGreat.T
open Go Go.RowKit Go.ChangeShapes
theorem u8_of {x : Int} (h : (Lit.int .u8 x).wf = true) : 0 ≤ x ∧ x < 256 := by
  rw [Lit.wf, Bool.and_eq_true] at h
  have h1 := of_decide_eq_true h.1
  have h2 := of_decide_eq_true h.2
  have e1 : IntKind.u8.min = 0 := rfl
  have e2 : IntKind.u8.max = 255 := rfl
  rw [e1] at h1
  rw [e2] at h2
  exact ⟨h1, by omega⟩
theorem cellsInt : Tryz.prog.cellsOf 3 = 1 := by kernel_rfl
section
variable {H : Type} {enc : TypeId × Value → H} {W : World}
end
end Go.Proofs.YtcppnmohgaobdaaGreat.T
end
section
namespace Go.Proofs.YtcppnmohgaobdaaGreat.T
open Go Go.RowKit Go.ChangeShapes
section
variable {H : Type} {enc : TypeId × Value → H} {W : World}
theorem opn_frac : Opn enc Tryz.prog W 27 fun ds => ∃ a b, ds = [int a, int b] :=
  (Opn.struct Tryz.underlying27 ⟨_, _, rfl, rfl, Opn.int Tryz.underlying3, _, _, rfl, by simp only [cellsInt], Opn.int Tryz.underlying3, rfl⟩ (by kernel_rfl)).mono fun ds h => by
    obtain ⟨d1, r1, rfl, ⟨a, rfl, _⟩, d2, r2, rfl, ⟨b, rfl, _⟩, rfl⟩ := h
    exact ⟨a, b, rfl⟩
end
end Go.Proofs.YtcppnmohgaobdaaGreat.T
end
section
namespace Go.Proofs.YtcppnmohgaobdaaGreat.T
open Go Go.RowKit Go.ChangeShapes
theorem flats_of {α : Type} {f : α → List D} {n : Nat} : ∀ {rows : List (List D)}, (∀ r ∈ rows, (∃ x, r = f x) ∧ r.length = n) → ∃ l : List α, rows.flatten = l.flatMap f
  | [], _ => ⟨[], rfl⟩
  | r :: rows, h => by
    obtain ⟨⟨x, rfl⟩, _⟩ := h r (by simp)
    obtain ⟨l, e⟩ := flats_of fun x hx => h x (List.mem_cons_of_mem _ hx)
    exact ⟨x :: l, by simp [e]⟩
theorem cellsHold : Tryz.prog.cellsOf 44 = 4 := by kernel_rfl
theorem cellsRope : Tryz.prog.cellsOf 40 = 3 := by kernel_rfl
theorem cellsBlock : Tryz.prog.cellsOf 57 = 2 := by kernel_rfl
section
variable {H : Type} {enc : TypeId × Value → H} {W : World}
theorem opn_hold : Opn enc Tryz.prog W 44 fun ds => ∃ h : Hd, ds = hd1 h :=
  (Opn.struct Tryz.underlying44 ⟨_, _, rfl, (by kernel_rfl), Opn.str Tryz.underlying9, _, _, rfl, (by kernel_rfl), Opn.int Tryz.underlying3, _, _, rfl, (by kernel_rfl), opn_frac, rfl⟩ (by kernel_rfl)).mono fun ds h => by
    obtain ⟨d1, r1, rfl, ⟨s, rfl, _⟩, d2, r2, rfl, ⟨p, rfl, _⟩, d3, r3, rfl, ⟨a, b, rfl⟩, rfl⟩ := h
    exact ⟨⟨s, p, a, b⟩, rfl⟩
theorem opn_holds : Opn enc Tryz.prog W 38 fun ds => ∃ l : List Hd, ds = [hds l] :=
  (Opn.slice Tryz.underlying38 cellsHold (by decide) opn_hold).mono fun ds ⟨rows, e, h, _⟩ => by
    obtain ⟨l, e2⟩ := flats_of h
    exact ⟨l, by rw [e, e2]; rfl⟩
theorem opn_rope : Opn enc Tryz.prog W 40 fun ds => ∃ r : Rp, ds = rp1 r :=
  (Opn.struct Tryz.underlying40 ⟨_, _, rfl, (by kernel_rfl), Opn.str Tryz.underlying9, _, _, rfl, (by kernel_rfl), opn_holds, _, _, rfl, (by kernel_rfl), Opn.bool Tryz.underlying4, rfl⟩ (by kernel_rfl)).mono fun ds h => by
    obtain ⟨d1, r1, rfl, ⟨s, rfl, _⟩, d2, r2, rfl, ⟨l, rfl⟩, d3, r3, rfl, ⟨b, rfl⟩, rfl⟩ := h
    exact ⟨⟨s, l, b⟩, rfl⟩
theorem opn_ropes : Opn enc Tryz.prog W 23 fun ds => ∃ l : List Rp, ds = [rps l] :=
  (Opn.slice Tryz.underlying23 cellsRope (by decide) opn_rope).mono fun ds ⟨rows, e, h, _⟩ => by
    obtain ⟨l, e2⟩ := flats_of h
    exact ⟨l, by rw [e, e2]; rfl⟩
theorem opn_block : Opn enc Tryz.prog W 57 fun ds => ∃ b : Bk, ds = bk1 b :=
  (Opn.struct Tryz.underlying57 ⟨_, _, rfl, (by kernel_rfl), Opn.str Tryz.underlying9, _, _, rfl, (by kernel_rfl), Opn.int Tryz.underlying3, rfl⟩ (by kernel_rfl)).mono fun ds h => by
    obtain ⟨d1, r1, rfl, ⟨s, rfl, _⟩, d2, r2, rfl, ⟨p, rfl, _⟩, rfl⟩ := h
    exact ⟨⟨s, p⟩, rfl⟩
theorem opn_blocks : Opn enc Tryz.prog W 22 fun ds => ∃ l : List Bk, ds = [bks l] :=
  (Opn.slice Tryz.underlying22 cellsBlock (by decide) opn_block).mono fun ds ⟨rows, e, h, _⟩ => by
    obtain ⟨l, e2⟩ := flats_of h
    exact ⟨l, by rw [e, e2]; rfl⟩
theorem opn_sys : Opn enc Tryz.prog W 25 fun ds => ∃ s : Sy, ds = [bks s.bs, rps s.rs] :=
  (Opn.struct Tryz.underlying25 ⟨_, _, rfl, (by kernel_rfl), opn_blocks, _, _, rfl, (by kernel_rfl), opn_ropes, rfl⟩ (by kernel_rfl)).mono fun ds h => by
    obtain ⟨d1, r1, rfl, ⟨a, rfl⟩, d2, r2, rfl, ⟨b, rfl⟩, rfl⟩ := h
    exact ⟨⟨a, b⟩, rfl⟩
theorem arg_sys {v : Value} {base : Nat} {r : Reach} {d : DataW H} {p : List MemPlace} (h : DataW.Trod enc Tryz.prog W 0 (fun _ => true) true 25 v d p) (hv : Value.okWide Tryz.prog W r base 25 v) : ∃ s : Sy, Rep (memOf W) [] (syD s) v := by
  obtain ⟨cs, rfl⟩ : ∃ cs, v = .agg cs := by
    simp only [Value.okWide, Tryz.underlying25] at hv
    obtain ⟨cs, e, _⟩ := hv
    exact ⟨cs, e⟩
  obtain ⟨ds, hr, s, rfl⟩ := arg_agg opn_sys h
  exact ⟨s, hr⟩
theorem arg_frac {v : Value} {base : Nat} {r : Reach} {d : DataW H} {p : List MemPlace} (h : DataW.Trod enc Tryz.prog W 0 (fun _ => true) true 27 v d p) (hv : Value.okWide Tryz.prog W r base 27 v) : ∃ s : Int × Int, Rep (memOf W) [] (frD s) v := by
  obtain ⟨cs, rfl⟩ : ∃ cs, v = .agg cs := by
    simp only [Value.okWide, Tryz.underlying27] at hv
    obtain ⟨cs, e, _⟩ := hv
    exact ⟨cs, e⟩
  obtain ⟨ds, hr, a, b, rfl⟩ := arg_agg opn_frac h
  exact ⟨(a, b), hr⟩
end
end Go.Proofs.YtcppnmohgaobdaaGreat.T
end

/- The signs of the head's word (printed by mkmake.py): the kernel need not take a long string apart. -/
namespace Go.Proofs.YtcppnmohgaobdaaGreat.T
open Go Go.RowKit Go.Joins
def wordSigns0 : List Char := [104,97,114,110,101,115,115,32,97,52,100,49,53,50,52,98,51,54,53,50,48,51,99,97,102,99,100,52,53,98,50,102,52,99,54,52,55,48,50,48,54,56,101,101,56,48,102,56,97,53,54,57,48,49,49,97,98,51,101,54,53,51,52,48].map Char.ofNat
def wordSigns1 : List Char := [99,101,51,49,54,100,55,55,32,99,117,116,32,97,116,32,108,111,102,116,98,108,111,99,107,47,108,111,102,116,98,108,111,99,107,108,97,119,49,52,46,76,111,115,115,101,115,79,114,100,101,114].map Char.ofNat
def wordSigns : List Char := wordSigns0 ++ wordSigns1
theorem word_is : Tryz.prog.initOrder.toList = wordSigns := by
  have h : Tryz.prog.initOrder = String.ofList wordSigns := by kernel_rfl
  rw [h, String.toList_ofList]
theorem word_cut : behindMainWord (wordsSigns wordSigns) = "cut".toList :: (behindMainWord (wordsSigns wordSigns)).tail := by kernel_rfl
theorem make_of (P : Program) (l : List Char) (h : P.initOrder.toList = l) (r : List (List Char)) (hr : behindMainWord (wordsSigns l) = "cut".toList :: r) : P.make = some .cut := by
  unfold Program.make
  rw [h, hr]
  rfl
theorem enter_of (P : Program) (l : List Char) (h : P.initOrder.toList = l) (r : List (List Char)) (hr : behindMainWord (wordsSigns l) = "cut".toList :: r) (h1 : P.laysLater = false) (h2 : P.bearsReflect = false) (h3 : P.doorFits [] = true) (hs : stripLifts liftWords ("cut".toList :: r) = ([], "cut".toList :: r)) : P.mayEnter = true := by
  unfold Program.mayEnter
  rw [h, hr]
  simp only [hs, h1, h2, h3]
  rfl
theorem word_make : Tryz.prog.make = some .cut := make_of _ wordSigns word_is _ word_cut
theorem word_enter : Tryz.prog.mayEnter = true := enter_of _ wordSigns word_is _ word_cut (by kernel_rfl) (by kernel_rfl) (by kernel_rfl) (by kernel_rfl)
theorem word_lifts : Tryz.prog.liftsFinal = false := by
  unfold Program.liftsFinal Program.headLifts
  rw [word_is]
  kernel_rfl
theorem word_enterP : Tryz.pinned.checked.prog.mayEnter = true := word_enter
theorem word_liftsP : Tryz.pinned.checked.prog.liftsFinal = false := word_lifts
theorem word_makeP : Tryz.pinned.checked.prog.make = some .cut := word_make
end Go.Proofs.YtcppnmohgaobdaaGreat.T

