import Derived.Test.YtalhegbjlfkipaaGWV
import Derived.Test.YtalhegbjlfkipaaGWR
import Derived.Test.YtalhegbjlfkipaaGPE
set_option linter.all false
namespace Go.Proofs.Ytalhegbjlfkipaa.T
open Go Go.RowKit Gr
theorem gga7_GWW {C1 C2 C3 C4 C5 C6 C7 P Q : Prop} (c1 : C1) (c2 : C2) (c3 : C3) (c4 : C4) (c5 : C5) (c6 : C6) (c7 : C7) (q : Q) (h : C1 → C2 → C3 → C4 → C5 → C6 → C7 → Q → P := by
  intro cc1 cc2 cc3 cc4 cc5 cc6 cc7 hq
  (try with_reducible intro KR hKR)
  (repeat' (first | (with_reducible refine AW_seq ?_) | (with_reducible refine AW_region_k tab_ok fun KR hKR => ?_) | ((first | with_reducible refine AW_skip ?_ | with_reducible refine AW_exit ?_ | ((with_reducible refine awOps_nil ?_); refine hKR _ ?_; (try clear hKR KR))); (repeat (with_reducible first | refine q1 ?_ | refine q2 ?_ | refine q3 ?_ | refine q4 ?_ | refine q5 ?_ | refine q6 ?_ | (refine q7 ?_ ?_; (focus (with_unfolding_all rfl)))))) | ((first | ((with_reducible refine at_ops ?_); (first | refine awOps_n rfl fun KK hKK => ?_ | refine awOps_g rfl rfl fun KK hKK => ?_ | refine awOps_gc rfl fun KK hKK => ?_ | refine awOps_nc fun KK hKK => ?_)) | with_reducible refine AW_cond_k (tab := tab) fun KK hKK => ?_); simp (disch := omega) only [bb, bt, zDs, zD, eqCells, simprocAttr, bne_self_eq_false, Int.reduceBNe, Int.reduceBEq, Bool.bne_false, Bool.bne_true, Bool.false_bne, Bool.true_bne, goC, callO_fn, argsD, and_self]; (try ((first | (with_reducible refine ACall.of_pret (cc1) ?_ ?_; (focus (first | (simp only [um]; done) | rfl))) | (with_reducible refine ACall.of_pret (cc2) ?_ ?_; (focus (first | (simp only [um]; done) | rfl))) | (with_reducible refine ACall.of_pret (cc3) ?_ ?_; (focus (first | (simp only [um]; done) | rfl))) | (with_reducible refine ACall.of_pret (cc4) ?_ ?_; (focus (first | (simp only [um]; done) | rfl))) | (with_reducible refine ACall.of_pret (cc5) ?_ ?_; (focus (first | (simp only [um]; done) | rfl))) | (with_reducible refine ACall.of_pret (cc6) ?_ ?_; (focus (first | (simp only [um]; done) | rfl))) | (with_reducible refine ACall.of_pret (cc7) ?_ ?_; (focus (first | (simp only [um]; done) | rfl)))); simp only [afterC, St.put, putTM, ↓reduceIte, Nat.reduceEqDiff])); refine hKK _ ?_; clear hKK KK; (first | with_reducible refine at_ops ?_ | with_reducible refine i1 ?_ | with_reducible refine i0 ?_))))
  (first | exact hq | (revert hKR; revert KR; exact hq))) : P := h c1 c2 c3 c4 c5 c6 c7 q
theorem gga9_GWW {C1 C2 C3 C4 C5 C6 C7 C8 C9 P Q : Prop} (c1 : C1) (c2 : C2) (c3 : C3) (c4 : C4) (c5 : C5) (c6 : C6) (c7 : C7) (c8 : C8) (c9 : C9) (q : Q) (h : C1 → C2 → C3 → C4 → C5 → C6 → C7 → C8 → C9 → Q → P := by
  intro cc1 cc2 cc3 cc4 cc5 cc6 cc7 cc8 cc9 hq
  (try with_reducible intro KR hKR)
  (repeat' (first | (with_reducible refine AW_seq ?_) | (with_reducible refine AW_region_k tab_ok fun KR hKR => ?_) | ((first | with_reducible refine AW_skip ?_ | with_reducible refine AW_exit ?_ | ((with_reducible refine awOps_nil ?_); refine hKR _ ?_; (try clear hKR KR))); (repeat (with_reducible first | refine q1 ?_ | refine q2 ?_ | refine q3 ?_ | refine q4 ?_ | refine q5 ?_ | refine q6 ?_ | (refine q7 ?_ ?_; (focus (with_unfolding_all rfl)))))) | ((first | ((with_reducible refine at_ops ?_); (first | refine awOps_n rfl fun KK hKK => ?_ | refine awOps_g rfl rfl fun KK hKK => ?_ | refine awOps_gc rfl fun KK hKK => ?_ | refine awOps_nc fun KK hKK => ?_)) | with_reducible refine AW_cond_k (tab := tab) fun KK hKK => ?_); simp (disch := omega) only [bb, bt, zDs, zD, eqCells, simprocAttr, bne_self_eq_false, Int.reduceBNe, Int.reduceBEq, Bool.bne_false, Bool.bne_true, Bool.false_bne, Bool.true_bne, goC, callO_fn, argsD, and_self]; (try ((first | (with_reducible refine ACall.of_pret (cc1) ?_ ?_; (focus (first | (simp only [um]; done) | rfl))) | (with_reducible refine ACall.of_pret (cc2) ?_ ?_; (focus (first | (simp only [um]; done) | rfl))) | (with_reducible refine ACall.of_pret (cc3) ?_ ?_; (focus (first | (simp only [um]; done) | rfl))) | (with_reducible refine ACall.of_pret (cc4) ?_ ?_; (focus (first | (simp only [um]; done) | rfl))) | (with_reducible refine ACall.of_pret (cc5) ?_ ?_; (focus (first | (simp only [um]; done) | rfl))) | (with_reducible refine ACall.of_pret (cc6) ?_ ?_; (focus (first | (simp only [um]; done) | rfl))) | (with_reducible refine ACall.of_pret (cc7) ?_ ?_; (focus (first | (simp only [um]; done) | rfl))) | (with_reducible refine ACall.of_pret (cc8) ?_ ?_; (focus (first | (simp only [um]; done) | rfl))) | (with_reducible refine ACall.of_pret (cc9) ?_ ?_; (focus (first | (simp only [um]; done) | rfl)))); simp only [afterC, St.put, putTM, ↓reduceIte, Nat.reduceEqDiff])); refine hKK _ ?_; clear hKK KK; (first | with_reducible refine at_ops ?_ | with_reducible refine i1 ?_ | with_reducible refine i0 ?_))))
  (first | exact hq | (revert hKR; revert KR; exact hq))) : P := h c1 c2 c3 c4 c5 c6 c7 c8 c9 q
set_option linter.unusedSimpArgs false

/-! Slices within slices: it is forgotten that they are as long as their memory. -/
def uu : Nat → D → D
  | k + 1, .sl sz cs _ => .sl sz (cs.map (uu k)) false
  | _, d => d
theorem uu_rep {F : Mem} {G : Ghost} : ∀ (k : Nat) (d : D) (u : Value), Rep F G d u → Rep F G (uu k d) u
  | 0, d, u, h => by simpa only [uu] using h
  | k + 1, d, u, h => by
    cases d with
    | sl sz cs full =>
      simp only [Rep, uu] at h ⊢
      obtain ⟨a, len, cap, h1, h2, h3, h4, h5⟩ := h
      refine ⟨a, len, cap, h1, by rw [h2, List.length_map], h3, fun e => by simp at e, ?_⟩
      rcases h5 with rfl | ⟨blk, off, vs, e, hc, hr⟩
      · left; rfl
      · exact .inr ⟨blk, off, vs, e, hc, RepL_map (fun d u _ h => uu_rep k d u h) hr⟩
    | _ => simpa only [uu] using h
theorem ACall.of_flat {P : Program} {f : FuncId} {ds ds' : List D} {d : D} {H : Hp} {t : Nat} {K : D → Hp → Nat → Prop} (h : PRet P f ds' d) (hd : (ds.map (uu 2)).map ufa = ds') (hk : K d H t) : ACall P f ds H t K := fun w0 F G w us R hL => by
  have hL' : RepL F G (ds.map (uu 2)) us := RepL_map (fun d u _ hd => uu_rep 2 d u hd) hL
  exact (ACall.of_pret (K := K) h hd hk) w0 F G w us R hL'

/-! Graphs: the chapter's example. -/
set_option maxHeartbeats 2000000 in
theorem awake06 : PRet Try.prog 9 [] (bool true) := by
  have hv : validG (4 : Nat) (edN E0) = true := by decide
  have hn : (4 : Nat) ≤ 1000 := by decide
  have hE : E0.length ≤ 4000 := by decide
  have hF : PRet Try.prog 18 [int 4, .sl 2 [int 0, int 1, int 1, int 2, int 0, int 2, int 2, int 3] false] (.tup [.sl 1 [int 0, int 1, int 3] false, int 0]) := by
    have := forestG 4 E0 ok0 hv hn hE
    rw [forest0] at this
    exact this
  have hC : PRet Try.prog 27 [int 4, .sl 2 [int 0, int 1, int 1, int 2, int 0, int 2, int 2, int 3] false] (.tup [.sl 1 [.sl 1 [int 2, int 1, int 0] false] false, int 0]) := by
    have := cyclesG 4 E0 ok0 hv hn hE
    rw [cycles0] at this
    exact this
  have hB : PRet Try.prog 11 [int 4, .sl 2 [int 0, int 1, int 1, int 2, int 0, int 2, int 2, int 3] false] (.tup [.sl 1 [int 3] false, int 0]) := by
    have := bridgesG 4 E0 ok0 hv hn hE
    rw [bridges0] at this
    exact this
  have hP : PRet Try.prog 12 [int 4, .sl 2 [int 0, int 1, int 1, int 2, int 0, int 2, int 2, int 3] false, int 0, int 3] (.tup [.sl 1 [int 2, int 3] false, int 0]) := by
    have := pathG 4 E0 ok0 hv hn hE 0 3 (by decide) (by decide)
    unfold pathP wayW at this
    rw [show sub E0 (List.range E0.length) = E0 from sub_all E0, dist0] at this
    exact this
  have q1' : PRet Try.prog 14 [.sl 1 [int 0, int 1, int 3] false, .sl 1 [int 0, int 1, int 3] false] (bool true) := equalInts [0, 1, 3] [0, 1, 3] (by decide) (by decide)
  have q2' : PRet Try.prog 20 [.sl 1 [.sl 1 [int 2, int 1, int 0] false] false, .sl 1 [.sl 1 [int 2, int 1, int 0] false] false] (bool true) := sameR [[2, 1, 0]] [[2, 1, 0]] (by decide) (by decide) (by decide)
  have q3' : PRet Try.prog 14 [.sl 1 [int 3] false, .sl 1 [int 3] false] (bool true) := equalInts [3] [3] (by decide) (by decide)
  have q4' : PRet Try.prog 14 [.sl 1 [int 2, int 3] false, .sl 1 [int 2, int 3] false] (bool true) := equalInts [2, 3] [2, 3] (by decide) (by decide)
  refine PRet.intro 1 fun t => ACall.enter tab_ok Try.func9 rfl rfl Try.ntmps9 (by simp) ?_
  simp only [enterTM]
  ((refine wqa ?_))
  ((refine wqa ?_))
  ((repeat refine AW_seq ?_); (refine AW_region_k tab_ok fun KR hKR => ?_)); ((refine wra ?_)); ((refine wka1 hF ?_)); ((refine wra ?_)); ((refine wea ?_); (try clear hKR KR))
  ((repeat refine AW_seq ?_); (refine AW_region_k tab_ok fun KR hKR => ?_)); ((refine wra ?_)); ((refine wka1 hC ?_)); ((refine wra ?_)); ((refine wea ?_); (try clear hKR KR))
  ((repeat refine AW_seq ?_); (refine AW_region_k tab_ok fun KR hKR => ?_)); ((refine wra ?_)); ((refine wka1 hB ?_)); ((refine wra ?_)); ((refine wea ?_); (try clear hKR KR))
  ((repeat refine AW_seq ?_); (refine AW_region_k tab_ok fun KR hKR => ?_)); ((refine wra ?_)); ((refine wka1 hP ?_)); ((refine wra ?_)); ((refine wea ?_); (try clear hKR KR))
  ((repeat refine AW_seq ?_); (refine AW_region_k tab_ok fun KR hKR => ?_)); ((refine wra ?_)); ((refine wka1 q1' ?_)); ((refine wra ?_))
  ((first | refine awOps_nc fun KK hKK => ?_ | refine awOps_gc rfl fun KK hKK => ?_); simp (disch := omega) only [bb, bt, zDs, zD, eqCells, simprocAttr, goC, callO_fn, argsD, and_self]; refine ACall.of_flat (q2') rfl ?_; simp only [afterC, St.put, putTM, ↓reduceIte, Nat.reduceEqDiff]; refine hKK _ ?_; clear hKK KK); ((refine wra ?_))
  ((refine wka1 q3' ?_)); ((refine wra ?_))
  ((refine wka1 q4' ?_)); ((refine wra ?_))
  ((refine wea ?_); (try clear hKR KR))
  ((repeat refine AW_seq ?_); (refine wta ?_); simp (disch := omega) only [retQ, resD, oneD, rsv, rs, rsL, rsL_eq_map, List.map_map, bb, bt, zDs, zD, eqCells, simprocAttr, Try.results9])
theorem large_no {n : Int} {m : Nat} (h : largeP n m = false) : m ≤ 4010 := by
  unfold largeP at h
  simp only [Bool.or_eq_false_iff, decide_eq_false_iff_not] at h
  omega
theorem bridgesP_len (E : List (Nat × Nat)) : (bridgesP E).length ≤ E.length := filt_len _ _
set_option maxHeartbeats 2000000 in
theorem law_bridges (n : Int) (l : List (Int × Int)) (a b : Int) : PRet Try.prog 3 [int n, eds l, int a, int b] (bool true) := by
  refine PRet.intro 1 fun t => ACall.enter tab_ok Try.func3 rfl rfl Try.ntmps3 (by simp) ?_
  simp only [enterTM]
  have hA := awake06
  have hL := large n l
  cases hl : largeP n l.length
  rotate_left 1
  · rw [hl] at hL
    ((refine gga2 hA hL ?_))
    ((repeat refine AW_seq ?_); (refine wta ?_); simp (disch := omega) only [retQ, resD, oneD, rsv, rs, rsL, rsL_eq_map, List.map_map, bb, bt, zDs, zD, eqCells, simprocAttr, Try.results3])
  rw [hl] at hL
  have hll := large_no hl
  have hV := refValid n l (by omega)
  cases hv : validG n l
  · rw [hv] at hV
    have h1 := bridgesG_arg n l hv (by omega)
    have h2 := pathG_arg n l (by omega) hv a b
    have h3 := pathR_arg n l (by omega) hv a b
    have h4 : PRet Try.prog 14 [.sl 1 [] false, .sl 1 [] false] (bool true) := equalInts [] [] (by decide) (by decide)
    ((refine gga7_GWW hA hL h1 h2 h3 h4 hV ?_))
    ((repeat refine AW_seq ?_); (refine wta ?_); simp (disch := omega) only [retQ, resD, oneD, rsv, rs, rsL, rsL_eq_map, List.map_map, bb, bt, zDs, zD, eqCells, simprocAttr, Try.results3])
  rw [hv] at hV
  obtain ⟨m, E, rfl, rfl, ho, hm, hE⟩ := valid_nat hv
  have h1 := bridgesG m E ho hv hm hE
  have h5 := bridgesR m E ho hm hE
  rw [show (List.range E.length).filter (bridgeP E) = bridgesP E from rfl] at h5
  have hbl := bridgesP_len E
  have h6 := equalInts (nl (bridgesP E)) (nl (bridgesP E)) (by rw [nl_len]; omega) (by rw [nl_len]; omega)
  rw [beq_self_eq_true] at h6
  cases hout : outP m a b
  · have h7 : 0 ≤ a ∧ a < m ∧ 0 ≤ b ∧ b < m := by
      unfold outP at hout
      simp only [Bool.or_eq_false_iff, decide_eq_false_iff_not] at hout
      omega
    obtain ⟨x, rfl⟩ : ∃ x : Nat, a = x := ⟨a.toNat, by omega⟩
    obtain ⟨y, rfl⟩ : ∃ y : Nat, b = y := ⟨b.toNat, by omega⟩
    have h2 := pathG m E ho hv hm hE x y (by omega) (by omega)
    have h3 := pathR m E ho hv hm hE x y (by omega) (by omega)
    have hpl : (pathP E x y).1.length ≤ 1000 := by
      unfold pathP
      split
      · exact Nat.le_trans (way_small ho (by omega)) hm
      · simp
    have h4 := equalInts (nl (pathP E x y).1) (nl (pathP E x y).1) (by rw [nl_len]; omega) (by rw [nl_len]; omega)
    rw [beq_self_eq_true] at h4
    generalize (pathP E x y).1 = P at *
    generalize (pathP E x y).2 = e at *
    ((refine gga9_GWW hA hL h1 h2 h3 h4 hV h5 h6 ?_))
    ((repeat refine AW_seq ?_); (refine wta ?_); simp (disch := omega) only [retQ, resD, oneD, rsv, rs, rsL, rsL_eq_map, List.map_map, bb, bt, zDs, zD, eqCells, simprocAttr, Try.results3])
  · have h2 := pathG_out m E hv hE a b hout
    have h3 := pathR_out m E hv hE a b hout
    have h4 : PRet Try.prog 14 [.sl 1 [] false, .sl 1 [] false] (bool true) := equalInts [] [] (by decide) (by decide)
    ((refine gga9_GWW hA hL h1 h2 h3 h4 hV h5 h6 ?_))
    ((repeat refine AW_seq ?_); (refine wta ?_); simp (disch := omega) only [retQ, resD, oneD, rsv, rs, rsL, rsL_eq_map, List.map_map, bb, bt, zDs, zD, eqCells, simprocAttr, Try.results3])
end Go.Proofs.Ytalhegbjlfkipaa.T
