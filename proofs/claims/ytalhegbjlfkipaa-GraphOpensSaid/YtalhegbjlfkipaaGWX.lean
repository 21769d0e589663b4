import Derived.Test.YtalhegbjlfkipaaGWW
import Derived.Test.YtalhegbjlfkipaaGWS
set_option linter.all false
namespace Go.Proofs.Ytalhegbjlfkipaa.T
open Go Go.RowKit Gr
theorem gga10_GWX {C1 C2 C3 C4 C5 C6 C7 C8 C9 C10 P Q : Prop} (c1 : C1) (c2 : C2) (c3 : C3) (c4 : C4) (c5 : C5) (c6 : C6) (c7 : C7) (c8 : C8) (c9 : C9) (c10 : C10) (q : Q) (h : C1 → C2 → C3 → C4 → C5 → C6 → C7 → C8 → C9 → C10 → Q → P := by
  intro cc1 cc2 cc3 cc4 cc5 cc6 cc7 cc8 cc9 cc10 hq
  (try with_reducible intro KR hKR)
  (repeat' (first | (with_reducible refine AW_seq ?_) | (with_reducible refine AW_region_k tab_ok fun KR hKR => ?_) | ((first | with_reducible refine AW_skip ?_ | with_reducible refine AW_exit ?_ | ((with_reducible refine awOps_nil ?_); refine hKR _ ?_; (try clear hKR KR))); (repeat (with_reducible first | refine q1 ?_ | refine q2 ?_ | refine q3 ?_ | refine q4 ?_ | refine q5 ?_ | refine q6 ?_ | (refine q7 ?_ ?_; (focus (with_unfolding_all rfl)))))) | ((first | ((with_reducible refine at_ops ?_); (first | refine awOps_n rfl fun KK hKK => ?_ | refine awOps_g rfl rfl fun KK hKK => ?_ | refine awOps_gc rfl fun KK hKK => ?_ | refine awOps_nc fun KK hKK => ?_)) | with_reducible refine AW_cond_k (tab := tab) fun KK hKK => ?_); simp (disch := omega) only [bb, bt, zDs, zD, eqCells, simprocAttr, bne_self_eq_false, Int.reduceBNe, Int.reduceBEq, Bool.bne_false, Bool.bne_true, Bool.false_bne, Bool.true_bne, goC, callO_fn, argsD, and_self]; (try ((first | (with_reducible refine ACall.of_pret (cc1) ?_ ?_; (focus (first | (simp only [um]; done) | rfl))) | (with_reducible refine ACall.of_pret (cc2) ?_ ?_; (focus (first | (simp only [um]; done) | rfl))) | (with_reducible refine ACall.of_pret (cc3) ?_ ?_; (focus (first | (simp only [um]; done) | rfl))) | (with_reducible refine ACall.of_pret (cc4) ?_ ?_; (focus (first | (simp only [um]; done) | rfl))) | (with_reducible refine ACall.of_pret (cc5) ?_ ?_; (focus (first | (simp only [um]; done) | rfl))) | (with_reducible refine ACall.of_pret (cc6) ?_ ?_; (focus (first | (simp only [um]; done) | rfl))) | (with_reducible refine ACall.of_pret (cc7) ?_ ?_; (focus (first | (simp only [um]; done) | rfl))) | (with_reducible refine ACall.of_pret (cc8) ?_ ?_; (focus (first | (simp only [um]; done) | rfl))) | (with_reducible refine ACall.of_pret (cc9) ?_ ?_; (focus (first | (simp only [um]; done) | rfl))) | (with_reducible refine ACall.of_pret (cc10) ?_ ?_; (focus (first | (simp only [um]; done) | rfl)))); simp only [afterC, St.put, putTM, ↓reduceIte, Nat.reduceEqDiff])); refine hKK _ ?_; clear hKK KK; (first | with_reducible refine at_ops ?_ | with_reducible refine i1 ?_ | with_reducible refine i0 ?_))))
  (first | exact hq | (revert hKR; revert KR; exact hq))) : P := h c1 c2 c3 c4 c5 c6 c7 c8 c9 c10 q
theorem gga6_GWX {C1 C2 C3 C4 C5 C6 P Q : Prop} (c1 : C1) (c2 : C2) (c3 : C3) (c4 : C4) (c5 : C5) (c6 : C6) (q : Q) (h : C1 → C2 → C3 → C4 → C5 → C6 → Q → P := by
  intro cc1 cc2 cc3 cc4 cc5 cc6 hq
  (try with_reducible intro KR hKR)
  (repeat' (first | (with_reducible refine AW_seq ?_) | (with_reducible refine AW_region_k tab_ok fun KR hKR => ?_) | ((first | with_reducible refine AW_skip ?_ | with_reducible refine AW_exit ?_ | ((with_reducible refine awOps_nil ?_); refine hKR _ ?_; (try clear hKR KR))); (repeat (with_reducible first | refine q1 ?_ | refine q2 ?_ | refine q3 ?_ | refine q4 ?_ | refine q5 ?_ | refine q6 ?_ | (refine q7 ?_ ?_; (focus (with_unfolding_all rfl)))))) | ((first | ((with_reducible refine at_ops ?_); (first | refine awOps_n rfl fun KK hKK => ?_ | refine awOps_g rfl rfl fun KK hKK => ?_ | refine awOps_gc rfl fun KK hKK => ?_ | refine awOps_nc fun KK hKK => ?_)) | with_reducible refine AW_cond_k (tab := tab) fun KK hKK => ?_); simp (disch := omega) only [bb, bt, zDs, zD, eqCells, simprocAttr, bne_self_eq_false, Int.reduceBNe, Int.reduceBEq, Bool.bne_false, Bool.bne_true, Bool.false_bne, Bool.true_bne, goC, callO_fn, argsD, and_self]; (try ((first | (with_reducible refine ACall.of_pret (cc1) ?_ ?_; (focus (first | (simp only [um]; done) | rfl))) | (with_reducible refine ACall.of_pret (cc2) ?_ ?_; (focus (first | (simp only [um]; done) | rfl))) | (with_reducible refine ACall.of_pret (cc3) ?_ ?_; (focus (first | (simp only [um]; done) | rfl))) | (with_reducible refine ACall.of_pret (cc4) ?_ ?_; (focus (first | (simp only [um]; done) | rfl))) | (with_reducible refine ACall.of_pret (cc5) ?_ ?_; (focus (first | (simp only [um]; done) | rfl))) | (with_reducible refine ACall.of_pret (cc6) ?_ ?_; (focus (first | (simp only [um]; done) | rfl)))); simp only [afterC, St.put, putTM, ↓reduceIte, Nat.reduceEqDiff])); refine hKK _ ?_; clear hKK KK; (first | with_reducible refine at_ops ?_ | with_reducible refine i1 ?_ | with_reducible refine i0 ?_))))
  (first | exact hq | (revert hKR; revert KR; exact hq))) : P := h c1 c2 c3 c4 c5 c6 q
theorem ggb10_GWX {F C1 C2 C3 C4 C5 C6 C7 C8 C9 C10 P Q : Prop} (f : F) (c1 : C1) (c2 : C2) (c3 : C3) (c4 : C4) (c5 : C5) (c6 : C6) (c7 : C7) (c8 : C8) (c9 : C9) (c10 : C10) (q : Q) (h : F → C1 → C2 → C3 → C4 → C5 → C6 → C7 → C8 → C9 → C10 → Q → P := by
  intro ff cc1 cc2 cc3 cc4 cc5 cc6 cc7 cc8 cc9 cc10 hq
  (try with_reducible intro KR hKR)
  (repeat' (first | (with_reducible refine AW_seq ?_) | (with_reducible refine AW_region_k tab_ok fun KR hKR => ?_) | ((first | with_reducible refine AW_skip ?_ | with_reducible refine AW_exit ?_ | ((with_reducible refine awOps_nil ?_); refine hKR _ ?_; (try clear hKR KR))); (repeat (with_reducible first | refine q1 ?_ | refine q2 ?_ | refine q3 ?_ | refine q4 ?_ | refine q5 ?_ | refine q6 ?_ | (refine q7 ?_ ?_; (focus (with_unfolding_all rfl)))))) | ((first | ((with_reducible refine at_ops ?_); (first | refine awOps_n rfl fun KK hKK => ?_ | refine awOps_g rfl rfl fun KK hKK => ?_ | refine awOps_gc rfl fun KK hKK => ?_ | refine awOps_nc fun KK hKK => ?_)) | with_reducible refine AW_cond_k (tab := tab) fun KK hKK => ?_); simp (disch := omega) only [bb, bt, zDs, zD, eqCells, simprocAttr, ff, bne_self_eq_false, Int.reduceBNe, Int.reduceBEq, Bool.bne_false, Bool.bne_true, Bool.false_bne, Bool.true_bne, goC, callO_fn, argsD, and_self]; (try ((first | (with_reducible refine ACall.of_pret (cc1) ?_ ?_; (focus (first | (simp only [um]; done) | rfl))) | (with_reducible refine ACall.of_pret (cc2) ?_ ?_; (focus (first | (simp only [um]; done) | rfl))) | (with_reducible refine ACall.of_pret (cc3) ?_ ?_; (focus (first | (simp only [um]; done) | rfl))) | (with_reducible refine ACall.of_pret (cc4) ?_ ?_; (focus (first | (simp only [um]; done) | rfl))) | (with_reducible refine ACall.of_pret (cc5) ?_ ?_; (focus (first | (simp only [um]; done) | rfl))) | (with_reducible refine ACall.of_pret (cc6) ?_ ?_; (focus (first | (simp only [um]; done) | rfl))) | (with_reducible refine ACall.of_pret (cc7) ?_ ?_; (focus (first | (simp only [um]; done) | rfl))) | (with_reducible refine ACall.of_pret (cc8) ?_ ?_; (focus (first | (simp only [um]; done) | rfl))) | (with_reducible refine ACall.of_pret (cc9) ?_ ?_; (focus (first | (simp only [um]; done) | rfl))) | (with_reducible refine ACall.of_pret (cc10) ?_ ?_; (focus (first | (simp only [um]; done) | rfl)))); simp only [afterC, St.put, putTM, ↓reduceIte, Nat.reduceEqDiff])); refine hKK _ ?_; clear hKK KK; (first | with_reducible refine at_ops ?_ | with_reducible refine i1 ?_ | with_reducible refine i0 ?_))))
  (first | exact hq | (revert hKR; revert KR; exact hq))) : P := h f c1 c2 c3 c4 c5 c6 c7 c8 c9 c10 q
theorem ggb9_GWX {F C1 C2 C3 C4 C5 C6 C7 C8 C9 P Q : Prop} (f : F) (c1 : C1) (c2 : C2) (c3 : C3) (c4 : C4) (c5 : C5) (c6 : C6) (c7 : C7) (c8 : C8) (c9 : C9) (q : Q) (h : F → C1 → C2 → C3 → C4 → C5 → C6 → C7 → C8 → C9 → Q → P := by
  intro ff cc1 cc2 cc3 cc4 cc5 cc6 cc7 cc8 cc9 hq
  (try with_reducible intro KR hKR)
  (repeat' (first | (with_reducible refine AW_seq ?_) | (with_reducible refine AW_region_k tab_ok fun KR hKR => ?_) | ((first | with_reducible refine AW_skip ?_ | with_reducible refine AW_exit ?_ | ((with_reducible refine awOps_nil ?_); refine hKR _ ?_; (try clear hKR KR))); (repeat (with_reducible first | refine q1 ?_ | refine q2 ?_ | refine q3 ?_ | refine q4 ?_ | refine q5 ?_ | refine q6 ?_ | (refine q7 ?_ ?_; (focus (with_unfolding_all rfl)))))) | ((first | ((with_reducible refine at_ops ?_); (first | refine awOps_n rfl fun KK hKK => ?_ | refine awOps_g rfl rfl fun KK hKK => ?_ | refine awOps_gc rfl fun KK hKK => ?_ | refine awOps_nc fun KK hKK => ?_)) | with_reducible refine AW_cond_k (tab := tab) fun KK hKK => ?_); simp (disch := omega) only [bb, bt, zDs, zD, eqCells, simprocAttr, ff, bne_self_eq_false, Int.reduceBNe, Int.reduceBEq, Bool.bne_false, Bool.bne_true, Bool.false_bne, Bool.true_bne, goC, callO_fn, argsD, and_self]; (try ((first | (with_reducible refine ACall.of_pret (cc1) ?_ ?_; (focus (first | (simp only [um]; done) | rfl))) | (with_reducible refine ACall.of_pret (cc2) ?_ ?_; (focus (first | (simp only [um]; done) | rfl))) | (with_reducible refine ACall.of_pret (cc3) ?_ ?_; (focus (first | (simp only [um]; done) | rfl))) | (with_reducible refine ACall.of_pret (cc4) ?_ ?_; (focus (first | (simp only [um]; done) | rfl))) | (with_reducible refine ACall.of_pret (cc5) ?_ ?_; (focus (first | (simp only [um]; done) | rfl))) | (with_reducible refine ACall.of_pret (cc6) ?_ ?_; (focus (first | (simp only [um]; done) | rfl))) | (with_reducible refine ACall.of_pret (cc7) ?_ ?_; (focus (first | (simp only [um]; done) | rfl))) | (with_reducible refine ACall.of_pret (cc8) ?_ ?_; (focus (first | (simp only [um]; done) | rfl))) | (with_reducible refine ACall.of_pret (cc9) ?_ ?_; (focus (first | (simp only [um]; done) | rfl)))); simp only [afterC, St.put, putTM, ↓reduceIte, Nat.reduceEqDiff])); refine hKK _ ?_; clear hKK KK; (first | with_reducible refine at_ops ?_ | with_reducible refine i1 ?_ | with_reducible refine i0 ?_))))
  (first | exact hq | (revert hKR; revert KR; exact hq))) : P := h f c1 c2 c3 c4 c5 c6 c7 c8 c9 q
set_option linter.unusedSimpArgs false

/-! Graphs: the laws over parts and cycles. -/
theorem bool_beq (b : Bool) : (b == b) = true := by cases b <;> rfl
theorem map_len {α β : Type} {l : List α} {f : α → β} {m : Nat} (h : l.length ≤ m) : (l.map f).length ≤ m := by rw [List.length_map]; exact h
theorem parts_len (n : Nat) (E : List (Nat × Nat)) : (partsP n E).length ≤ n := by
  rw [partsP_len]; unfold roots
  exact Nat.le_trans (List.length_filter_le _ _) (by rw [List.length_range]; exact Nat.le_refl _)
theorem parts_row {n : Nat} {E : List (Nat × Nat)} {r : List Nat} (h : r ∈ partsP n E) : r.length ≤ n := by
  unfold partsP at h
  obtain ⟨x, _, rfl⟩ := List.mem_map.1 h
  exact Nat.le_trans (List.length_filter_le _ _) (by rw [List.length_range]; exact Nat.le_refl _)
theorem sameNat (a b : List (List Nat)) (ha : a.length ≤ 1000000) (hb : b.length ≤ 1000000) (hr : ∀ r ∈ a, r.length ≤ 1000000) :
    PRet Try.prog 20 [mat (a.map nl), mat (b.map nl)] (bool (a == b)) := by
  have h := sameR (a.map nl) (b.map nl) (map_len ha) (map_len hb) (fun r h => by
    obtain ⟨x, hx, rfl⟩ := List.mem_map.1 h
    rw [nl_len]; exact hr x hx)
  have : (a.map nl == b.map nl) = (a == b) := by
    rw [Bool.eq_iff_iff, beq_iff_eq, beq_iff_eq]
    refine List.map_inj_right fun x y e => ?_
    unfold nl at e
    exact (List.map_inj_right fun p q e => by omega).1 e
  rwa [this] at h
set_option maxHeartbeats 2000000 in
theorem law_parts (n : Int) (l : List (Int × Int)) : PRet Try.prog 4 [int n, eds l] (bool true) := by
  refine PRet.intro 1 fun t => ACall.enter tab_ok Try.func4 rfl rfl Try.ntmps4 (by simp) ?_
  simp only [enterTM]
  have hA := awake06
  have hL := large n l
  cases hl : largeP n l.length
  rotate_left 1
  · rw [hl] at hL
    ((refine gga2 hA hL ?_))
    ((repeat refine AW_seq ?_); (refine wta ?_); simp (disch := omega) only [retQ, resD, oneD, rsv, rs, rsL, rsL_eq_map, List.map_map, bb, bt, zDs, zD, eqCells, simprocAttr, Try.results4])
  rw [hl] at hL
  have hll := large_no hl
  have hV := refValid n l (by omega)
  have hG := valid n l (by omega)
  cases hv : validG n l
  · rw [hv] at hV hG
    have h1 := partsG_arg n l hv (by omega)
    have h2 := forestG_arg n l hv (by omega)
    ((refine gga6_GWX hA hL h1 h2 hV hG ?_))
    ((repeat refine AW_seq ?_); (refine wta ?_); simp (disch := omega) only [retQ, resD, oneD, rsv, rs, rsL, rsL_eq_map, List.map_map, bb, bt, zDs, zD, eqCells, simprocAttr, Try.results4])
  rw [hv] at hV hG
  obtain ⟨m, E, rfl, rfl, ho, hm, hE⟩ := valid_nat hv
  have h1 := partsG m E ho hv hm hE
  have h2 := forestG m E ho hv hm hE
  have h3 := partsR m E ho hm hE
  have h4 := forestR m E ho hm hE
  rw [show (List.range E.length).filter (inF E) = forestP E from rfl] at h4
  have hfl := forest_len E
  have hpl := parts_len m E
  have h5 := equalInts (nl (forestP E)) (nl (forestP E)) (by rw [nl_len]; omega) (by rw [nl_len]; omega)
  rw [beq_self_eq_true] at h5
  have h6 := sameNat (partsP m E) (partsP m E) (by omega) (by omega) fun r h => by have := parts_row h; omega
  rw [beq_self_eq_true] at h6
  generalize partsP m E = PP at *
  ((refine gga10_GWX hA hL h1 h2 hV hG h3 h4 h5 h6 ?_))
  ((repeat refine AW_seq ?_); (refine wta ?_); simp (disch := omega) only [retQ, resD, oneD, rsv, rs, rsL, rsL_eq_map, List.map_map, bb, bt, zDs, zD, eqCells, simprocAttr, Try.results4])
theorem cycles_len (E : List (Nat × Nat)) : (cyclesP E).length = (restP E).length := by unfold cyclesP; rw [List.length_map]
theorem rest_len (E : List (Nat × Nat)) : (restP E).length ≤ E.length := by
  unfold restP
  exact Nat.le_trans (List.length_filter_le _ _) (by rw [List.length_range]; exact Nat.le_refl _)
theorem cycle_row {n : Nat} {E : List (Nat × Nat)} (ho : Ok n E) {r : List Nat} (h : r ∈ cyclesP E) : r.length ≤ n + 1 := by
  unfold cyclesP at h
  obtain ⟨i, _, rfl⟩ := List.mem_map.1 h
  unfold cycleP
  split
  · rename_i a b e
    have := way_small ho (q := forestP E) (a := b) (b := a) (ho.get e).2.1
    unfold wayW at this
    rw [List.length_cons]
    omega
  · simp
set_option maxHeartbeats 2000000 in
theorem law_cycles (n : Int) (l : List (Int × Int)) (q : List Int) : PRet Try.prog 6 [int n, eds l, ints q] (bool true) := by
  refine PRet.intro 1 fun t => ACall.enter tab_ok Try.func6 rfl rfl Try.ntmps6 (by simp) ?_
  simp only [enterTM]
  have hA := awake06
  have hL := large n l
  cases hl : largeP n l.length
  rotate_left 1
  · rw [hl] at hL
    ((refine gga2 hA hL ?_))
    ((repeat refine AW_seq ?_); (refine wta ?_); simp (disch := omega) only [retQ, resD, oneD, rsv, rs, rsL, rsL_eq_map, List.map_map, bb, bt, zDs, zD, eqCells, simprocAttr, Try.results6])
  rw [hl] at hL
  by_cases hq : 60 < q.length
  · have g1 : decide ((60 : Int) < (q.length : Int)) = true := by simpa using by omega
    ((refine ggb2 g1 hA hL ?_))
    ((repeat refine AW_seq ?_); (refine wta ?_); simp (disch := omega) only [retQ, resD, oneD, rsv, rs, rsL, rsL_eq_map, List.map_map, bb, bt, zDs, zD, eqCells, simprocAttr, Try.results6])
  have g1 : decide ((60 : Int) < (q.length : Int)) = false := by simpa using by omega
  have hll := large_no hl
  have hV := refValid n l (by omega)
  cases hv : validG n l
  · rw [hv] at hV
    have h1 := cyclesG_arg n l hv (by omega)
    have h2 := countG_arg n l hv (by omega)
    have h3 := cycleG_arg n l hv (by omega) q
    ((refine ggb6 g1 hA hL h1 h2 h3 hV ?_))
    ((repeat refine AW_seq ?_); (refine wta ?_); simp (disch := omega) only [retQ, resD, oneD, rsv, rs, rsL, rsL_eq_map, List.map_map, bb, bt, zDs, zD, eqCells, simprocAttr, Try.results6])
  rw [hv] at hV
  obtain ⟨m, E, rfl, rfl, ho, hm, hE⟩ := valid_nat hv
  have h1 := cyclesG m E ho hv hm hE
  have h2 := countG m E ho hv hm hE
  have h3 := cycleG m E ho hv hm hE q (by omega)
  have h4 := cyclesR m E ho hm hE
  have hcl := cycles_len E
  have hrl := rest_len E
  have h5 := sameNat (cyclesP E) (cyclesP E) (by omega) (by omega) fun r h => by have := cycle_row ho h; omega
  rw [beq_self_eq_true] at h5
  have h6 := indsR (edN E) q (by rw [edN_len]; omega) (by omega)
  rw [edN_len] at h6
  generalize cyclesP E = CC at *
  cases hi : indsP E.length q
  · rw [hi] at h6
    unfold cycS at h3
    rw [hi] at h3
    have h3' : PRet Try.prog 29 [int m, eds (edN E), ints q] (.tup [bool false, int 2]) := h3
    ((refine ggb9_GWX (F := _∧_) ⟨g1, hcl⟩ hA hL h1 h2 h3' h4 h5 h6 hV ?_))
    ((repeat refine AW_seq ?_); (refine wta ?_); simp (disch := omega) only [retQ, resD, oneD, rsv, rs, rsL, rsL_eq_map, List.map_map, bb, bt, zDs, zD, eqCells, simprocAttr, Try.results6])
  · rw [hi] at h6
    unfold cycS at h3
    rw [hi] at h3
    obtain ⟨hn, hk⟩ := inds_nat hi
    have h7 := cycleR m E ho hm hE (q.map Int.toNat) hk (by rw [List.length_map]; omega)
    rw [← hn] at h7
    have h3' : PRet Try.prog 29 [int m, eds (edN E), ints q] (.tup [bool (cycP E (q.map Int.toNat)), int 0]) := h3
    generalize cycP E (q.map Int.toNat) = B at *
    have g2 := bool_beq B
    ((refine ggb10_GWX (F := _∧_∧_) ⟨g1, g2, hcl⟩ hA hL h1 h2 h3' h4 h5 h6 h7 hV ?_))
    ((repeat refine AW_seq ?_); (refine wta ?_); simp (disch := omega) only [retQ, resD, oneD, rsv, rs, rsL, rsL_eq_map, List.map_map, bb, bt, zDs, zD, eqCells, simprocAttr, Try.results6])
end Go.Proofs.Ytalhegbjlfkipaa.T
