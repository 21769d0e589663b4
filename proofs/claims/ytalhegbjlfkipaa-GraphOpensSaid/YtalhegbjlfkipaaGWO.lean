import Derived.Test.YtalhegbjlfkipaaGWL
import Derived.Test.YtalhegbjlfkipaaGWC
set_option linter.all false
namespace Go.Proofs.Ytalhegbjlfkipaa.T
open Go Go.RowKit Gr
set_option linter.unusedSimpArgs false

/-! Graphs: the edges at each node. -/
/-- The edges at a node, of those that are used, with less than some number. -/
def atL (E : List (Nat × Nat)) (u : Nat → Bool) (m x : Nat) : List Nat := (List.range m).filter fun k => u k && (oth E k x).isSome
def psA (n : Nat) (E : List (Nat × Nat)) (u : Nat → Bool) (m : Nat) : List (List Nat) := (List.range n).map (atL E u m)
theorem psA_len (n : Nat) (E : List (Nat × Nat)) (u : Nat → Bool) (m : Nat) : (psA n E u m).length = n := by simp [psA]
theorem psA_get {n : Nat} (E : List (Nat × Nat)) (u : Nat → Bool) (m : Nat) {x : Nat} (h : x < n) : (psA n E u m).getD x [] = atL E u m x := by simp [psA, List.getD_eq_getElem?_getD, h]
theorem psA_zero (n : Nat) (E : List (Nat × Nat)) (u : Nat → Bool) : psA n E u 0 = List.replicate n [] := by
  unfold psA atL
  refine List.ext_getElem? fun k => ?_
  by_cases hk : k < n
  · simp [hk]
  · rw [List.getElem?_eq_none (by simpa using hk), List.getElem?_eq_none (by simpa using hk)]
theorem psA_no {n : Nat} {E : List (Nat × Nat)} {u : Nat → Bool} {m : Nat} (h : u m = false) : psA n E u (m + 1) = psA n E u m := by
  unfold psA
  refine List.map_congr_left fun x _ => ?_
  unfold atL
  rw [filt_step, if_neg (by simp [h])]
theorem psA_yes {n : Nat} {E : List (Nat × Nat)} (ho : Ok n E) {u : Nat → Bool} {m a b : Nat} (h : u m = true) (he : E[m]? = some (a, b)) : psA n E u (m + 1) = ((psA n E u m).set a (atL E u m a ++ [m])).set b (atL E u m b ++ [m]) := by
  obtain ⟨ha, hb, hab⟩ := ho.get he
  refine List.ext_getElem? fun x => ?_
  rw [List.getElem?_set, List.getElem?_set]
  have hst : ∀ y, atL E u (m + 1) y = if (oth E m y).isSome then atL E u m y ++ [m] else atL E u m y := fun y => by
    unfold atL
    rw [filt_step, h, Bool.true_and]
  by_cases hx : x < n
  · simp only [psA, List.getElem?_map, List.getElem?_range hx, Option.map_some, List.length_map, List.length_range, List.length_set]
    rw [hst]
    by_cases e1 : b = x
    · subst e1
      rw [if_pos rfl, if_pos hb, (oth_of ho he).2]; rfl
    · rw [if_neg e1]
      by_cases e2 : a = x
      · subst e2
        rw [if_pos rfl, if_pos ha, (oth_of ho he).1]; rfl
      · rw [if_neg e2]
        have : oth E m x = none := by unfold oth; rw [he]; simp [e1, e2]
        rw [this]; rfl
  · rw [List.getElem?_eq_none (by rw [psA_len]; omega), if_neg (by omega), if_neg (by omega), List.getElem?_eq_none (by rw [psA_len]; omega)]
theorem atL_len (E : List (Nat × Nat)) (u : Nat → Bool) (m x : Nat) : (atL E u m x).length ≤ m := filt_len _ m
theorem flat_one (n : Nat) (x : D) : (List.replicate n [x]).flatten = List.replicate n x := by
  induction n with
  | zero => rfl
  | succ n ih => rw [List.replicate_succ, List.replicate_succ, List.flatten_cons, ih]; rfl
set_option maxHeartbeats 2000000 in
theorem besideG (n : Nat) (E : List (Nat × Nat)) (ho : Ok n E) (hn : n ≤ 1000) (hE : E.length ≤ 4000) (f : FuncId) (caps : List D) (u : Nat → Bool) (hu : ∀ k, k < E.length → PRet Try.prog f ((int k :: caps).map ufa) (bool (u k))) :
    PRet Try.prog 37 [int n, eds (edN E), .fn f caps] (mat ((psA n E u E.length).map nl)) := by
  refine PRet.intro 3 fun t => ACall.enter tab_ok Try.func37 rfl rfl Try.ntmps37 (by simp) ?_
  simp only [enterTM]
  have hdiv : (edC (edN E)).length / 2 = E.length := by rw [edC_div, edN_len]
  have hz := flat_one n (D.sl 1 [] true)
  ((refine wqa ?_))
  ((refine wqb hz ?_))
  ((repeat refine AW_seq ?_))
  refine AW.reserve 1 ?_
  simp only [List.replicate_succ, List.replicate_zero, List.cons_append, List.nil_append]
  refine AW.begin_rows (H := [none, none]) (b := 0) (ty0 := 25) (g0 := t + 1) (by decide) n 0 [] (t + 1) rfl fun gs hgs => ?_
  rw [Nat.zero_add, ← psA_zero n E u]
  rw [Nat.zero_add] at hgs
  simp only [List.set_cons_zero, List.length_cons, List.length_nil, List.cons_append, List.nil_append, Nat.zero_add, Nat.reduceAdd]
  ((refine wqb hdiv ?_))
  ((repeat refine AW_seq ?_))
  refine AW_mid (fun x : List Nat × Nat => ⟨[(7, .own 1 0 (t + 1) 0 n)], some ⟨25, t + 1, ownC 2 (psA n E u E.length) x.1⟩ :: none :: ownT (psA n E u E.length) x.1, x.2⟩) (fun _ => True) ?_ ?_
  · refine AW_block ?_
    refine AW_loop_w (fun x : Nat × List Nat × Nat => ⟨[(2, .fn f caps), (7, .own 1 0 (t + 1) 0 n), (12, eds (edN E)), (13, int E.length), (14, int x.1)], some ⟨25, t + 1, ownC 2 (psA n E u x.1) x.2.1⟩ :: none :: ownT (psA n E u x.1) x.2.1, x.2.2⟩) (fun x => E.length - x.1) (fun x => x.1 ≤ E.length ∧ x.2.1.length = n) (0, gs, t + 1 + n) ⟨Nat.zero_le _, hgs⟩ (by (simp (disch := omega) only [StLe, tmLe, hpLe_refl, hpLe, bl, bb, bt, zDs, zD, eqCells, simprocAttr])) ?_
    rintro ⟨k, gs1, tt⟩ ⟨hk, hg1⟩
    simp only at hk hg1
    by_cases hlt : k < E.length
    · obtain ⟨⟨a, b⟩, he⟩ : ∃ e, E[k]? = some e := ⟨_, List.getElem?_eq_getElem hlt⟩
      obtain ⟨ha, hb, hab⟩ := ho.get he
      have hen := edN_get he
      have hrd := edC_read _ _ _ hen
      simp only at hrd
      have hr2 : k * 2 < E.length * 2 := by omega
      have hr3 : k * 2 + 2 ≤ E.length * 2 := by omega
      have hU := hu k hlt
      have hpl := psA_len n E u k
      have hno := psA_no (n := n) (E := E) (u := u) (m := k)
      have hyes := psA_yes (u := u) (m := k) ho (a := a) (b := b)
      ((refine ggb0 (F := _∧_) ⟨@Int.ofNat_lt, hlt⟩ ?_))
      ((repeat refine AW_seq ?_))
      refine AW_block ?_
      ((repeat refine AW_seq ?_); (refine AW_region_k tab_ok fun KR hKR => ?_))
      (((first | refine awOps_n rfl fun KK hKK => ?_ | refine awOps_g rfl rfl fun KK hKK => ?_ | refine awOps_gc rfl fun KK hKK => ?_); simp (disch := omega) only [bb, bt, zDs, zD, eqCells, simprocAttr]; refine hKK _ ?_; clear hKK KK)); (((first | refine awOps_n rfl fun KK hKK => ?_ | refine awOps_g rfl rfl fun KK hKK => ?_ | refine awOps_gc rfl fun KK hKK => ?_); simp (disch := omega) only [bb, bt, zDs, zD, eqCells, simprocAttr, hlt, hr2, edC_len, edN_len]; refine hKK _ ?_; clear hKK KK)); (((first | refine awOps_n rfl fun KK hKK => ?_ | refine awOps_g rfl rfl fun KK hKK => ?_ | refine awOps_gc rfl fun KK hKK => ?_); simp (disch := omega) only [bb, bt, zDs, zD, eqCells, simprocAttr, hr3, edC_len, edN_len, hrd]; refine hKK _ ?_; clear hKK KK))
      refine awOps_at 1 rfl rfl (by decide) fun KK hKK => ?_
      (simp (disch := omega) only [bb, bt, zDs, zD, eqCells, simprocAttr])
      refine hKK _ ?_; clear hKK KK
      ((refine wra ?_))
      ((refine wea ?_); (try clear hKR KR))
      ((repeat refine AW_seq ?_); (refine AW_region_k tab_ok fun KR hKR => ?_)); ((refine wra ?_))
      ((refine wka1 hU ?_))
      ((refine wea ?_); (try clear hKR KR))
      cases hf : u k
      · ((refine ggb0 hf ?_))
        refine ⟨(k + 1, gs1, tt + 1), ⟨hlt, hg1⟩, by show E.length - (k + 1) < E.length - k; omega, ?_⟩
        simp only [hno hf]
        (simp (disch := omega) only [StLe, tmLe, hpLe_refl, hpLe, bl, bb, bt, zDs, zD, eqCells, simprocAttr])
      · have hy := hyes hf he
        have hl1 := atL_len E u k a
        have hl2 := atL_len E u k b
        have hga := psA_get E u k ha
        have hgb := psA_get E u k hb
        generalize hPS : psA n E u k = PS at *
        generalize hLa : atL E u k a = La at *
        generalize hLb : atL E u k b = Lb at *
        have haP : a < PS.length := by omega
        have hgP : gs1.length = PS.length := by omega
        have hcl := ownC_len 2 PS gs1
        have htl := ownT_len PS gs1
        have c1 := ownC_get (m := 2) (gs := gs1) haP
        have c2 := ownT_get (gs := gs1) haP
        rw [hga] at c1 c2
        have c3 := fun g => ownC_set (m := 2) haP hgP (La ++ [k]) g
        have c4 := fun g => ownT_set haP hgP (La ++ [k]) g
        rw [show (La ++ [k]).length = La.length + 1 by simp] at c3
        have hnl := nD_len La
        have hap := nD_app La k
        have ha1 : a + 1 ≤ n := ha
        ((refine wib hf ?_))
        ((repeat refine AW_seq ?_))
        ((repeat refine AW_seq ?_); (refine AW_drawn_k tab_ok follows_mixed 0 fun KR hKR => ?_); simp only [List.replicate_succ, List.replicate_zero, List.append_nil, List.nil_append, List.cons_append, List.length_cons, List.length_nil, Nat.reduceAdd])
        have htl2 : ∀ g, (ownT (PS.set a (La ++ [k])) (gs1.set a g)).length = n := fun g => by rw [ownT_len, List.length_set]; exact hpl
        ((refine wdb (F := _∧_∧_∧_∧_∧_∧_∧_∧_∧_∧_∧_∧_) ⟨ha, ha1, hcl, htl, hpl, c1, c2, c3, c4, hnl, hap, htl2, @Nat.le_refl⟩ ?_))
        ((refine awD_nil ?_); simp only [List.reverse_cons, List.reverse_nil, List.nil_append, List.cons_append]; (refine hKR _ _ (by exact anyB_map (clamp 2) (by kernel_rfl)) ?_); (try clear hKR KR); (repeat (with_reducible first | refine q1 ?_ | refine q2 ?_ | refine q3 ?_ | refine q4 ?_ | refine q5 ?_ | refine q6 ?_ | (refine q7 ?_ ?_; (focus (with_unfolding_all rfl))))))
        generalize hg2 : gs1.set a (tt + 1 + 1) = gs2
        have hgl2 : gs2.length = n := by rw [← hg2, List.length_set]; exact hg1
        have hgb2 : (PS.set a (La ++ [k])).getD b [] = Lb := by rw [getD_setL _ _ _ _ _ haP, if_neg (fun e => hab e.symm)]; exact hgb
        generalize hPS2 : PS.set a (La ++ [k]) = PS2 at *
        have hpl2 : PS2.length = n := by rw [← hPS2, List.length_set]; exact hpl
        have hbP : b < PS2.length := by omega
        have hgP2 : gs2.length = PS2.length := by omega
        have hcl2 := ownC_len 2 PS2 gs2
        have htl3 := ownT_len PS2 gs2
        have d1 := ownC_get (m := 2) (gs := gs2) hbP
        have d2 := ownT_get (gs := gs2) hbP
        rw [hgb2] at d1 d2
        have d3 := fun g => ownC_set (m := 2) hbP hgP2 (Lb ++ [k]) g
        have d4 := fun g => ownT_set hbP hgP2 (Lb ++ [k]) g
        rw [show (Lb ++ [k]).length = Lb.length + 1 by simp] at d3
        have hnl2 := nD_len Lb
        have hap2 := nD_app Lb k
        have hb1 : b + 1 ≤ n := hb
        have htl4 : ∀ g, (ownT (PS2.set b (Lb ++ [k])) (gs2.set b g)).length = n := fun g => by rw [ownT_len, List.length_set]; exact hpl2
        ((repeat refine AW_seq ?_))
        ((repeat refine AW_seq ?_); (refine AW_drawn_k tab_ok follows_mixed 0 fun KR hKR => ?_); simp only [List.replicate_succ, List.replicate_zero, List.append_nil, List.nil_append, List.cons_append, List.length_cons, List.length_nil, Nat.reduceAdd])
        ((refine wdb (F := _∧_∧_∧_∧_∧_∧_∧_∧_∧_∧_∧_∧_) ⟨hb, hb1, hcl2, htl3, hpl2, d1, d2, d3, d4, hnl2, hap2, htl4, @Nat.le_refl⟩ ?_))
        ((refine awD_nil ?_); simp only [List.reverse_cons, List.reverse_nil, List.nil_append, List.cons_append]; (refine hKR _ _ (by exact anyB_map (clamp 2) (by kernel_rfl)) ?_); (try clear hKR KR); (repeat (with_reducible first | refine q1 ?_ | refine q2 ?_ | refine q3 ?_ | refine q4 ?_ | refine q5 ?_ | refine q6 ?_ | (refine q7 ?_ ?_; (focus (with_unfolding_all rfl))))))
        ((refine gga0 ?_))
        refine ⟨(k + 1, gs2.set b (tt + 1 + 1 + 1), tt + 1 + 1 + 1), ⟨hlt, by simpa using hgl2⟩, by show E.length - (k + 1) < E.length - k; omega, ?_⟩
        simp only [hy]
        (simp (disch := omega) only [StLe, tmLe, hpLe_refl, hpLe, bl, bb, bt, zDs, zD, eqCells, simprocAttr])
    · have hke : k = E.length := by omega
      subst hke
      ((refine ggb0 @Int.lt_irrefl ?_))
      exact ⟨(gs1, tt), trivial, by (simp (disch := omega) only [StLe, tmLe, hpLe_refl, hpLe, bl, bb, bt, zDs, zD, eqCells, simprocAttr])⟩
  rintro ⟨gs1, tt⟩ -
  ((refine gga0 ?_))
  ((repeat refine AW_seq ?_); (refine wta ?_); simp (disch := omega) only [retQ, resD, oneD, bb, bt, zDs, zD, eqCells, simprocAttr, Try.results37])
  exact rsv_rows (m := 2) rfl (psA_len n E u E.length).symm (fun k hk => by rw [← ownT_get hk]; rfl) 0
end Go.Proofs.Ytalhegbjlfkipaa.T
