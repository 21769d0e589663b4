import Derived.Test.YtjjpjgnoanfaoaaSPN
import Derived.Test.YtjjpjgnoanfaoaaInsideP
import Derived.Test.YtjjpjgnoanfaoaaLaw
import Derived.Test.YtjjpjgnoanfaoaaTB
import Derived.Test.YtjjpjgnoanfaoaaWJK
set_option linter.all false
namespace Go.Proofs.Ytjjpjgnoanfaoaa.T
open Go Go.RowKit
theorem gdta6_SPT {C1 C2 C3 C4 C5 C6 P Q : Prop} (c1 : C1) (c2 : C2) (c3 : C3) (c4 : C4) (c5 : C5) (c6 : C6) (q : Q) (h : C1 → C2 → C3 → C4 → C5 → C6 → Q → P := by
  intro cc1 cc2 cc3 cc4 cc5 cc6 hq
  (try with_reducible intro KR hKR)
  (repeat refine AW_seq ?_); (repeat refine AW_seq ?_); (refine AW_drawn_k tab_ok follows_mixed 2 fun KR hKR => ?_); simp only [List.replicate_succ, List.replicate_zero, List.append_nil, List.nil_append, List.cons_append, List.length_cons, List.length_nil, Nat.reduceAdd]; (repeat' ((first | refine awD_n rfl fun KK hKK => ?_ | refine awD_g rfl rfl fun KK hKK => ?_ | refine awD_gc rfl fun KK hKK => ?_ | refine awD_nc fun KK hKK => ?_); simp (disch := omega) only [bb, bt, zDs, zD, eqCells, simprocAttr, bne_self_eq_false, Int.reduceBNe, Int.reduceBEq, Bool.bne_false, Bool.bne_true, Bool.false_bne, Bool.true_bne, goCDS, callDS_fn, argsZ, argsD, ufa, uf]; (try ((first | with_reducible refine PGive.ret (cc1) ?_ | with_reducible refine PGive.ret (cc2) ?_ | with_reducible refine PGive.ret (cc3) ?_ | with_reducible refine PGive.ret (cc4) ?_ | with_reducible refine PGive.ret (cc5) ?_ | with_reducible refine PGive.ret (cc6) ?_); simp (disch := omega) only [bb, bt, zDs, zD, eqCells, simprocAttr, afterDS, bne_self_eq_false, Int.reduceBNe, Int.reduceBEq, Bool.bne_false, Bool.bne_true, Bool.false_bne, Bool.true_bne])); refine hKK _ _ _ ?_; clear hKK KK)); (refine awD_nil ?_); simp only [List.reverse_cons, List.reverse_nil, List.nil_append, List.cons_append]; (refine hKR _ _ (by first | rfl | kernel_rfl) ?_); (try clear hKR KR); (repeat (with_reducible first | refine q1 ?_ | refine q2 ?_ | refine q3 ?_ | refine q4 ?_ | refine q5 ?_ | refine q6 ?_ | (refine q7 ?_ ?_; (focus (with_unfolding_all rfl)))))
  (first | exact hq | (revert hKR; revert KR; exact hq))) : P := h c1 c2 c3 c4 c5 c6 q
theorem gga15_SPT {C1 C2 C3 C4 C5 C6 C7 C8 C9 C10 C11 C12 C13 C14 C15 P Q : Prop} (c1 : C1) (c2 : C2) (c3 : C3) (c4 : C4) (c5 : C5) (c6 : C6) (c7 : C7) (c8 : C8) (c9 : C9) (c10 : C10) (c11 : C11) (c12 : C12) (c13 : C13) (c14 : C14) (c15 : C15) (q : Q) (h : C1 → C2 → C3 → C4 → C5 → C6 → C7 → C8 → C9 → C10 → C11 → C12 → C13 → C14 → C15 → Q → P := by
  intro cc1 cc2 cc3 cc4 cc5 cc6 cc7 cc8 cc9 cc10 cc11 cc12 cc13 cc14 cc15 hq
  (try with_reducible intro KR hKR)
  (repeat' (first | (with_reducible refine AW_seq ?_) | (with_reducible refine AW_region_k tab_ok fun KR hKR => ?_) | ((first | with_reducible refine AW_skip ?_ | with_reducible refine AW_exit ?_ | ((with_reducible refine awOps_nil ?_); refine hKR _ ?_; (try clear hKR KR))); (repeat (with_reducible first | refine q1 ?_ | refine q2 ?_ | refine q3 ?_ | refine q4 ?_ | refine q5 ?_ | refine q6 ?_ | (refine q7 ?_ ?_; (focus (with_unfolding_all rfl)))))) | ((first | ((with_reducible refine at_ops ?_); (first | refine awOps_n rfl fun KK hKK => ?_ | refine awOps_g rfl rfl fun KK hKK => ?_ | refine awOps_gc rfl fun KK hKK => ?_ | refine awOps_nc fun KK hKK => ?_)) | with_reducible refine AW_cond_k (tab := tab) fun KK hKK => ?_); simp (disch := omega) only [bb, bt, zDs, zD, eqCells, simprocAttr, bne_self_eq_false, Int.reduceBNe, Int.reduceBEq, Bool.bne_false, Bool.bne_true, Bool.false_bne, Bool.true_bne, goC, callO_fn, argsD, and_self]; (try ((first | (with_reducible refine ACall.of_pret (cc1) ?_ ?_; (focus (first | (simp only [um]; done) | rfl))) | (with_reducible refine ACall.of_pret (cc2) ?_ ?_; (focus (first | (simp only [um]; done) | rfl))) | (with_reducible refine ACall.of_pret (cc3) ?_ ?_; (focus (first | (simp only [um]; done) | rfl))) | (with_reducible refine ACall.of_pret (cc4) ?_ ?_; (focus (first | (simp only [um]; done) | rfl))) | (with_reducible refine ACall.of_pret (cc5) ?_ ?_; (focus (first | (simp only [um]; done) | rfl))) | (with_reducible refine ACall.of_pret (cc6) ?_ ?_; (focus (first | (simp only [um]; done) | rfl))) | (with_reducible refine ACall.of_pret (cc7) ?_ ?_; (focus (first | (simp only [um]; done) | rfl))) | (with_reducible refine ACall.of_pret (cc8) ?_ ?_; (focus (first | (simp only [um]; done) | rfl))) | (with_reducible refine ACall.of_pret (cc9) ?_ ?_; (focus (first | (simp only [um]; done) | rfl))) | (with_reducible refine ACall.of_pret (cc10) ?_ ?_; (focus (first | (simp only [um]; done) | rfl))) | (with_reducible refine ACall.of_pret (cc11) ?_ ?_; (focus (first | (simp only [um]; done) | rfl))) | (with_reducible refine ACall.of_pret (cc12) ?_ ?_; (focus (first | (simp only [um]; done) | rfl))) | (with_reducible refine ACall.of_pret (cc13) ?_ ?_; (focus (first | (simp only [um]; done) | rfl))) | (with_reducible refine ACall.of_pret (cc14) ?_ ?_; (focus (first | (simp only [um]; done) | rfl))) | (with_reducible refine ACall.of_pret (cc15) ?_ ?_; (focus (first | (simp only [um]; done) | rfl)))); simp only [afterC, St.put, putTM, ↓reduceIte, Nat.reduceEqDiff])); refine hKK _ ?_; clear hKK KK; (first | with_reducible refine at_ops ?_ | with_reducible refine i1 ?_ | with_reducible refine i0 ?_))))
  (first | exact hq | (revert hKR; revert KR; exact hq))) : P := h c1 c2 c3 c4 c5 c6 c7 c8 c9 c10 c11 c12 c13 c14 c15 q
set_option linter.unusedSimpArgs false

/-! Spans in trees. -/
abbrev spE (r : Int × Int × Int) : D := .tup [.agg [int r.1, int r.2.1], int r.2.2]
theorem sAdd (a b c d : Int) : PRet Try.prog 20 [.agg [int a, int b], .agg [int c, int d]] (spE (addS a b c d)) :=
  PRet.of_plain _ _ ⟨_, Try.func20, rfl, rfl⟩ rfl rfl rfl rfl fun w => span_Add a b c d w
theorem sSub (a b c d : Int) : PRet Try.prog 21 [.agg [int a, int b], .agg [int c, int d]] (spE (subS a b c d)) :=
  PRet.of_plain _ _ ⟨_, Try.func21, rfl, rfl⟩ rfl rfl rfl rfl fun w => span_Sub a b c d w
theorem sMul (a b c d : Int) : PRet Try.prog 22 [.agg [int a, int b], .agg [int c, int d]] (spE (mulS a b c d)) :=
  PRet.of_plain _ _ ⟨_, Try.func22, rfl, rfl⟩ rfl rfl rfl rfl fun w => span_Mul a b c d w
theorem sDiv (a b c d : Int) : PRet Try.prog 23 [.agg [int a, int b], .agg [int c, int d]] (spE (divS a b c d)) :=
  PRet.of_plain _ _ ⟨_, Try.func23, rfl, rfl⟩ rfl rfl rfl rfl fun w => span_Div a b c d w
theorem sRoot (a b : Int) : PRet Try.prog 24 [.agg [int a, int b]] (spE (rootS a b)) :=
  PRet.of_plain _ _ ⟨_, Try.func24, rfl, rfl⟩ rfl rfl rfl rfl fun w => span_Root a b w
theorem sOf (n d u : Int) : PRet Try.prog 26 [.agg [int n, int d], int u] (spE (ofS n d u)) :=
  PRet.of_plain _ _ ⟨_, Try.func26, rfl, rfl⟩ rfl rfl rfl rfl fun w => span_Of n d u w
theorem sTimes (a b n d : Int) : PRet Try.prog 30 [.agg [int a, int b], int n, int d] (spE (timesS a b n d)) :=
  PRet.of_plain _ _ ⟨_, Try.func30, rfl, rfl⟩ rfl rfl rfl rfl fun w => span_Times a b n d w
theorem l3of (a b : Int) : PRet Try.prog 16 [int a, int b] (.agg [int (min a b), int (max a b)]) :=
  PRet.of_plain _ _ ⟨_, Try.func16, rfl, rfl⟩ rfl rfl rfl rfl fun w => law_of a b _ _ rfl rfl w
theorem l3at (a b n : Int) (h : vspan a b = true) (h1 : 0 ≤ n) (h2 : n ≤ 18446744073709551615) : PRet Try.prog 17 [.agg [int a, int b], word n] (int (lawSpanInside.atS a b n)) :=
  PRet.of_plain _ _ ⟨_, Try.func17, rfl, rfl⟩ rfl rfl rfl rfl fun w => lawSpanInside.law_at a b n _ (Lib.hid h) h1 h2 (Lib.hid rfl) w
theorem l3awake : PRet Try.prog 14 [] (bool true) :=
  PRet.of_plain [] _ ⟨_, Try.func14, rfl, rfl⟩ rfl rfl rfl rfl fun w => law_awake w
theorem r3Inside (a b c d : Int) : PRet Try.prog 19 [.agg [int a, int b], .agg [int c, int d]] (bool (insideS a b c d)) :=
  PRet.of_plain _ _ ⟨_, Try.func19, rfl, rfl⟩ rfl rfl rfl rfl fun w => ref_Inside a b c d w
theorem r3Valid (a b : Int) : PRet Try.prog 15 [.agg [int a, int b]] (bool (vspan a b)) := by
  refine PRet.intro 1 fun t => ACall.enter tab_ok Try.func15 rfl rfl Try.ntmps15 (by simp) ?_
  simp only [enterTM]
  unfold vspan
  by_cases h1 : a ≤ b
  · by_cases h2 : -1152921504606846976 ≤ a
    · by_cases h3 : b ≤ 1152921504606846976
      · ((refine ggb0 (F := _∧_∧_) ⟨h1, h2, h3⟩ ?_))
        ((repeat refine AW_seq ?_); (refine wta ?_); simp (disch := omega) only [retQ, resD, oneD, rsv, rs, rsL, rsL_eq_map, List.map_map, bb, bt, zDs, zD, eqCells, simprocAttr, Try.results15, h1, h2, h3])
      · ((refine ggb0 (F := _∧_∧_) ⟨h1, h2, h3⟩ ?_))
        ((repeat refine AW_seq ?_); (refine wta ?_); simp (disch := omega) only [retQ, resD, oneD, rsv, rs, rsL, rsL_eq_map, List.map_map, bb, bt, zDs, zD, eqCells, simprocAttr, Try.results15, h1, h2, h3])
    · ((refine ggb0 (F := _∧_) ⟨h1, h2⟩ ?_))
      ((repeat refine AW_seq ?_); (refine wta ?_); simp (disch := omega) only [retQ, resD, oneD, rsv, rs, rsL, rsL_eq_map, List.map_map, bb, bt, zDs, zD, eqCells, simprocAttr, Try.results15, h1, h2])
  · ((refine ggb0 h1 ?_))
    ((repeat refine AW_seq ?_); (refine wta ?_); simp (disch := omega) only [retQ, resD, oneD, rsv, rs, rsL, rsL_eq_map, List.map_map, bb, bt, zDs, zD, eqCells, simprocAttr, Try.results15, h1])
theorem nar1 (x y : Int × Int × Int) : PRet Try.prog 18 [.agg [int x.1, int x.2.1], int x.2.2, .agg [int y.1, int y.2.1], int y.2.2] (bool (narS x y)) := by
  refine PRet.intro 1 fun t => ACall.enter tab_ok Try.func18 rfl rfl Try.ntmps18 (by simp) ?_
  simp only [enterTM]
  have hI := r3Inside x.1 x.2.1 y.1 y.2.1
  unfold narS
  by_cases h1 : y.2.2 = 0
  · have e1 : (y.2.2 != 0) = false := by simp [h1]
    by_cases h2 : x.2.2 = 0
    · have e2 : (x.2.2 == 0) = true := by simp [h2]
      ((refine ggb1 (F := _∧_) ⟨e1, e2⟩ hI ?_))
      ((repeat refine AW_seq ?_); (refine wta ?_); simp (disch := omega) only [retQ, resD, oneD, rsv, rs, rsL, rsL_eq_map, List.map_map, bb, bt, zDs, zD, eqCells, simprocAttr, Try.results18, h1, h2])
      all_goals simp
    · have e2 : (x.2.2 == 0) = false := by simp [h2]
      ((refine ggb1 (F := _∧_) ⟨e1, e2⟩ hI ?_))
      ((repeat refine AW_seq ?_); (refine wta ?_); simp (disch := omega) only [retQ, resD, oneD, rsv, rs, rsL, rsL_eq_map, List.map_map, bb, bt, zDs, zD, eqCells, simprocAttr, Try.results18, h1, h2])
      all_goals simp
  · have e1 : (y.2.2 != 0) = true := by simp [h1]
    ((refine ggb1 e1 hI ?_))
    ((repeat refine AW_seq ?_); (refine wta ?_); simp (disch := omega) only [retQ, resD, oneD, rsv, rs, rsL, rsL_eq_map, List.map_map, bb, bt, zDs, zD, eqCells, simprocAttr, Try.results18, h1])
    all_goals simp
set_option maxRecDepth 100000 in
set_option maxHeartbeats 4000000 in
theorem law_narrow (a b : Int × Int) (i j k l : Int) (hi : 0 ≤ i ∧ i ≤ 18446744073709551615) (hj : 0 ≤ j ∧ j ≤ 18446744073709551615) (hk : 0 ≤ k ∧ k ≤ 18446744073709551615) (hl : 0 ≤ l ∧ l ≤ 18446744073709551615) : PRet Try.prog 3 [.agg [int a.1, int a.2], .agg [int b.1, int b.2], word i, word j, word k, word l] (bool true) := by
  refine PRet.intro 1 fun t => ACall.enter tab_ok Try.func3 rfl rfl Try.ntmps3 (by simp) ?_
  simp only [enterTM]
  have v1 := r3Valid a.1 a.2
  have v2 := r3Valid b.1 b.2
  cases ha : vspan a.1 a.2
  · rw [ha] at v1
    ((refine gga3 l3awake v1 v2 ?_))
    ((repeat refine AW_seq ?_); (refine wta ?_); simp (disch := omega) only [retQ, resD, oneD, rsv, rs, rsL, rsL_eq_map, List.map_map, bb, bt, zDs, zD, eqCells, simprocAttr, Try.results3])
  rw [ha] at v1
  cases hb : vspan b.1 b.2
  · rw [hb] at v2
    ((refine gga3 l3awake v1 v2 ?_))
    ((repeat refine AW_seq ?_); (refine wta ?_); simp (disch := omega) only [retQ, resD, oneD, rsv, rs, rsL, rsL_eq_map, List.map_map, bb, bt, zDs, zD, eqCells, simprocAttr, Try.results3])
  rw [hb] at v2
  have ba := vspan_bounds ha
  have cb := vspan_bounds hb
  have t1 := l3at a.1 a.2 i ha hi.1 hi.2
  have t2 := l3at a.1 a.2 j ha hj.1 hj.2
  have t3 := l3at b.1 b.2 k hb hk.1 hk.2
  have t4 := l3at b.1 b.2 l hb hl.1 hl.2
  have r1 := lawSpanInside.atS_in (a := a.1) (b := a.2) (n := i) ba.2.1
  have r2 := lawSpanInside.atS_in (a := a.1) (b := a.2) (n := j) ba.2.1
  have r3 := lawSpanInside.atS_in (a := b.1) (b := b.2) (n := k) cb.2.1
  have r4 := lawSpanInside.atS_in (a := b.1) (b := b.2) (n := l) cb.2.1
  generalize lawSpanInside.atS a.1 a.2 i = m1 at *
  generalize lawSpanInside.atS a.1 a.2 j = m2 at *
  generalize lawSpanInside.atS b.1 b.2 k = m3 at *
  generalize lawSpanInside.atS b.1 b.2 l = m4 at *
  have o1 := l3of m1 m2
  have o2 := l3of m3 m4
  have k1 : vspan (min m1 m2) (max m1 m2) = true := by simp [vspan]; omega
  have k2 : vspan (min m3 m4) (max m3 m4) = true := by simp [vspan]; omega
  have z1 : a.1 ≤ min m1 m2 ∧ max m1 m2 ≤ a.2 := by omega
  have z2 : b.1 ≤ min m3 m4 ∧ max m3 m4 ≤ b.2 := by omega
  generalize min m1 m2 = p at *
  generalize max m1 m2 = q at *
  generalize min m3 m4 = r at *
  generalize max m3 m4 = s at *
  ((refine gga3 l3awake v1 v2 ?_))
  ((repeat refine AW_seq ?_); (refine gdta6_SPT t1 t2 t3 t4 o1 o2 ?_))
  have n0 := narrow_add ha hb k1 k2 z1 z2
  have A0 := sAdd p q r s
  have B0 := sAdd a.1 a.2 b.1 b.2
  generalize addS p q r s = x0 at *
  generalize addS a.1 a.2 b.1 b.2 = y0 at *
  have N0 := nar1 x0 y0
  rw [n0] at N0
  have n1 := narrow_sub ha hb k1 k2 z1 z2
  have A1 := sSub p q r s
  have B1 := sSub a.1 a.2 b.1 b.2
  generalize subS p q r s = x1 at *
  generalize subS a.1 a.2 b.1 b.2 = y1 at *
  have N1 := nar1 x1 y1
  rw [n1] at N1
  have n2 := narrow_mul ha hb k1 k2 z1 z2
  have A2 := sMul p q r s
  have B2 := sMul a.1 a.2 b.1 b.2
  generalize mulS p q r s = x2 at *
  generalize mulS a.1 a.2 b.1 b.2 = y2 at *
  have N2 := nar1 x2 y2
  rw [n2] at N2
  have n3 := narrow_div ha hb k1 k2 z1 z2
  have A3 := sDiv p q r s
  have B3 := sDiv a.1 a.2 b.1 b.2
  generalize divS p q r s = x3 at *
  generalize divS a.1 a.2 b.1 b.2 = y3 at *
  have N3 := nar1 x3 y3
  rw [n3] at N3
  have n4 := narrow_root ha k1 z1
  have A4 := sRoot p q
  have B4 := sRoot a.1 a.2
  generalize rootS p q = x4 at *
  generalize rootS a.1 a.2 = y4 at *
  have N4 := nar1 x4 y4
  rw [n4] at N4
  ((refine gga15_SPT A0 B0 N0 A1 B1 N1 A2 B2 N2 A3 B3 N3 A4 B4 N4 ?_))
  ((repeat refine AW_seq ?_); (refine wta ?_); simp (disch := omega) only [retQ, resD, oneD, rsv, rs, rsL, rsL_eq_map, List.map_map, bb, bt, zDs, zD, eqCells, simprocAttr, Try.results3])
end Go.Proofs.Ytjjpjgnoanfaoaa.T
