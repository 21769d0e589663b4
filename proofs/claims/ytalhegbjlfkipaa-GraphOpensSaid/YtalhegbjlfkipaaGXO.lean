import Derived.Test.YtalhegbjlfkipaaGXA
import Derived.Test.YtalhegbjlfkipaaGWY
import Derived.Test.YtalhegbjlfkipaaGXD
set_option linter.all false
section
namespace Go.Proofs.Ytalhegbjlfkipaa.T
open Go Go.RowKit
theorem wua_GXO {P Q : Prop} (q : Q) (h : Q → P := by
  intro  hq
  (try with_reducible intro KR hKR)
  (repeat (with_reducible first | refine q1 ?_ | refine q2 ?_ | refine q3 ?_ | refine q4 ?_ | refine q5 ?_ | refine q6 ?_ | (refine q7 ?_ ?_; (focus (with_unfolding_all rfl)))))
  (first | exact hq | (revert hKR; revert KR; exact hq))) : P := h  q

/-! A region that draws its order, walked in every order. -/
section
variable {P : Program} {tab : Tab} {n : Nat}
theorem awOp_one (hT : Tab.Ok P tab) {all : List Oper} {K : St → Prop} {o : Oper} {st : St} (h : awOps P tab n all K [o] st) {w0 : World} {F0 F : Mem} {G0 G : Ghost} {a : Act} {w : World} (ho : Onw w0 F0 G0 F G) (hs : Sim w0 F G n st a w) {C : Act → World → Prop} {Q : Exit → Act → World → Prop}
    (hC : ∀ F' G' st' a' w', Onw w0 F0 G0 F' G' → Sim w0 F' G' n st' a' w' → K st' → C a' w') :
    if Region.wanted o (yielded all.toArray a.tmps) = true then o.wp P a w C Q ∨ (o.asks P a w ∧ LetsOut Q) else C (a.put o.dst undef) w := by
  unfold awOps at h
  obtain ⟨hk, h⟩ := h
  split at h
  · exact h.elim
  · rename_i hw
    rw [wanted_of hs.2.1 hw]
    simp only [Bool.false_eq_true, if_false]
    exact hC F G _ _ _ ho (hs.put hk (Rep_v _ _ _)) h
  · rename_i hw
    rw [wanted_of hs.2.1 hw, if_pos rfl]
    left
    split at h
    · rename_i f args ts ho'
      split at h
      · rename_i g caps hf
        exact call_sound hs ho' hk hf h fun F' G' d H' t' a' w' onw hK' hs' => hC F' G' _ a' w' (ho.trans onw) hs' hK'
      · exact h.elim
    · rcases h with ⟨nid, hnid, d, wr, hop, h⟩ | h | ⟨S, hm, h⟩
      · exact op_sound hT hs hk hnid hop fun F' G' a' w' onw hs' => hC F' G' _ a' w' (ho.trans onw) hs' h
      · exact nil_sound hT hs hk h.1 fun b a' hs' => hC F G _ a' w ho hs' (h.2 b)
      · obtain ⟨u, F', G', w', d, H', t', hr, onw, R', hd', hS⟩ := hm _ _ _ _ _ hs
        unfold Oper.wp
        rw [hr]
        exact hC F' G' _ _ w' (ho.trans onw) (Sim.put (st := ⟨st.tm, H', t'⟩) ⟨R', hs.2.1.mono onw.mem onw.gh, hs.2.2⟩ hk hd') (h _ _ _ hS)
def AllR (f : Nat → Prop) : List Nat → Prop
  | [] => True
  | i :: r => f i ∧ AllR f r
theorem AllR.get {f : Nat → Prop} : ∀ {l : List Nat}, AllR f l → ∀ i ∈ l, f i
  | [], _, i, h => by cases h
  | j :: l, h, i, hi => by
    rcases List.mem_cons.1 hi with rfl | hi
    · exact h.1
    · exact AllR.get h.2 i hi
def anyW (P : Program) (tab : Tab) (n : Nat) (ops : List Oper) (K : St → Prop) : Nat → Array Bool → St → Prop
  | 0, L, st => Region.ready .any ops.toArray L = [] ∧ K st
  | fuel + 1, L, st => (Region.ready .any ops.toArray L).isEmpty = false ∧ AllR (fun i => ∃ o, ops[i]? = some o ∧ awOps P tab n ops (anyW P tab n ops K fuel (L.setIfInBounds i true)) [o] st) (Region.ready .any ops.toArray L)
theorem anyW_sound (hT : Tab.Ok P tab) {ops : List Oper} {K : St → Prop} {Q : Exit → St → Prop} (hK : ∀ s, K s → Q .normal s) : ∀ (fuel : Nat) (L : Array Bool) (st : St), anyW P tab n ops K fuel L st → ∀ w0 F0 G0 F G a w, Onw w0 F0 G0 F G → Sim w0 F G n st a w → wpAny P .any ops.toArray (Lift w0 F0 G0 n Q) fuel L a w
  | 0, L, st, h, w0, F0, G0, F, G, a, w, ho, hs => ⟨h.1, F, G, st, ho, hs, hK _ h.2⟩
  | fuel + 1, L, st, h, w0, F0, G0, F, G, a, w, ho, hs => ⟨fun e => (by rw [anyW, e] at h; cases h.1), fun i hi => by
      obtain ⟨o, hoo, hh⟩ := AllR.get h.2 i hi
      unfold wpOp
      rw [List.getElem?_toArray, hoo]
      exact awOp_one hT hh ho hs fun F' G' st' a' w' ho' hs' hk => anyW_sound hT hK fuel _ st' hk w0 F0 G0 F' G' a' w' ho' hs'⟩
theorem AW_any (hT : Tab.Ok P tab) (hm : P.follows .mixedOrders = true) {id : Nat} {ops : List Oper} {Q : Exit → St → Prop} {st : St}
    (h : ∀ KK : St → Prop, (∀ s, Q .normal s → KK s) → anyW P tab n ops KK ops.length (Array.replicate ops.length false) st) : AW P n (.region id ops.toArray true) Q st := fun w0 F G a w hs => by
  refine wp_region_any hm ?_
  have hs' : Sim w0 F G n st a { w with drawn := w.drawn + 1 } := ⟨hs.1.drewN 1, hs.2⟩
  simpa using anyW_sound hT (fun _ h => h) _ _ st (h _ fun _ h => h) w0 F G F G a _ (.refl _ _ _) hs'
theorem anyW_end {ops : List Oper} {K : St → Prop} {L : Array Bool} {st : St} (h : Region.ready .any ops.toArray L = []) (hk : K st) : anyW P tab n ops K 0 L st := ⟨h, hk⟩
theorem anyW_step {ops : List Oper} {K : St → Prop} {fuel : Nat} {L : Array Bool} {st : St} (r : List Nat) (hr : Region.ready .any ops.toArray L = r) (h0 : r.isEmpty = false) (h : AllR (fun i => ∃ o, ops[i]? = some o ∧ awOps P tab n ops (anyW P tab n ops K fuel (L.setIfInBounds i true)) [o] st) r) : anyW P tab n ops K (fuel + 1) L st := by
  subst hr; exact ⟨h0, h⟩
end
end Go.Proofs.Ytalhegbjlfkipaa.T
end

section
namespace Go.Proofs.Ytalhegbjlfkipaa.T
open Go Go.RowKit Gr
set_option linter.unusedSimpArgs false

/-! Graphs: the law over bridges and cycles. -/
theorem plain_ed (l : List (Int × Int)) : plainL (edC l) = true := by
  induction l with
  | nil => rfl
  | cons x r ih =>
    simp only [edC, List.flatMap_cons, List.cons_append, List.nil_append] at ih ⊢
    simp only [plainL, plainD, ih, Bool.and_self]
theorem isCell_ed (l : List (Int × Int)) : (edC l).all isCell = true := by
  induction l with
  | nil => rfl
  | cons x r ih =>
    simp only [edC, List.flatMap_cons, List.all_append, Bool.and_eq_true] at ih ⊢
    exact ⟨rfl, ih⟩
set_option maxHeartbeats 1000000 in
theorem cloneE_ (p q : Int) (r : List (Int × Int)) (hl : r.length ≤ 1000000) : PFresh Try.prog 36 [eds ((p, q) :: r)] 43 2 (r.length + 1) (edC ((p, q) :: r)) := by
  refine PFresh.intro (plain_ed _) fun t => ACall.enter tab_ok Try.func36 rfl rfl Try.ntmps36 (by simp) ?_
  simp only [enterTM]
  have f2 : edC ((p, q) :: r) = int p :: int q :: edC r := rfl
  have hcl := isCell_ed r
  have hld := edC_div ((p, q) :: r)
  have hll := edC_len ((p, q) :: r)
  have f1 : eds ((p, q) :: r) = .sl 2 (int p :: int q :: edC r) false := rfl
  rw [f2] at hld hll
  rw [f1, f2]
  simp only [List.length_cons] at hll hld
  ((refine wqa ?_))
  ((refine wqa ?_))
  ((refine wia ?_))
  ((refine wsa ?_))
  ((repeat refine AW_seq ?_); (refine AW_region_k tab_ok fun KR hKR => ?_); (repeat ((first | refine awOps_n rfl fun KK hKK => ?_ | refine awOps_g rfl rfl fun KK hKK => ?_ | refine awOps_gc rfl fun KK hKK => ?_); simp (disch := omega) only [bb, bt, zDs, zD, eqCells, simprocAttr, isSlice, hcl, hld]; refine hKK _ ?_; clear hKK KK)); (refine awOps_nil ?_); (refine hKR _ ?_); (try clear hKR KR); (repeat (with_reducible first | refine q1 ?_ | refine q2 ?_ | refine q3 ?_ | refine q4 ?_ | refine q5 ?_ | refine q6 ?_ | (refine q7 ?_ ?_; (focus (with_unfolding_all rfl))))))
  ((repeat refine AW_seq ?_); (refine wta ?_); simp (disch := omega) only [retQ, resD, oneD, rsv, rs, rsL, rsL_eq_map, List.map_map, bb, bt, zDs, zD, eqCells, simprocAttr, Try.results36])
  exact .inr ⟨0, t + 1, rfl, rfl⟩
theorem cloneEds (l : List (Int × Int)) (h0 : 1 ≤ l.length) (hl : l.length ≤ 1000000) : PFresh Try.prog 36 [eds l] 43 2 l.length (edC l) := by
  cases l with
  | nil => simp at h0
  | cons x r => exact cloneE_ x.1 x.2 r (by simp at hl; omega)
theorem opens1 (r : List Int) (i : Int) (hr : r.length ≤ 1000000) : PRet Try.prog 34 [ints r, .rp [int i] 0] (bool (r.contains i)) := by
  refine PRet.intro 1 fun t => ACall.enter tab_ok Try.func34 rfl rfl Try.ntmps34 (by simp) ?_
  simp only [enterTM]
  have h1 := containsInts r i hr
  ((refine gga1 h1 ?_))
  ((repeat refine AW_seq ?_); (refine wta ?_); simp (disch := omega) only [retQ, resD, oneD, rsv, rs, rsL, rsL_eq_map, List.map_map, bb, bt, zDs, zD, eqCells, simprocAttr, Try.results34])
theorem edN_erase : ∀ (E : List (Nat × Nat)) (k : Nat), (edN E).eraseIdx k = edN (E.eraseIdx k)
  | [], k => by simp [edN]
  | a :: E, 0 => by simp [edN]
  | a :: E, k + 1 => by
    have ih := edN_erase E k
    unfold edN at ih ⊢
    simp only [List.map_cons, List.eraseIdx_cons_succ, ih]
theorem sorted_range (p : Nat → Bool) (m : Nat) : sortedP (nl ((List.range m).filter p)) = true := by
  have hs : ((List.range m).filter p).Pairwise (· < ·) := List.pairwise_lt_range.filter _
  generalize (List.range m).filter p = L at *
  unfold sortedP
  rw [List.all_eq_true]
  intro i hi
  rw [List.mem_range, nl_len] at hi
  have h1 : (nl L)[i]? = some (L[i] : Int) := nl_get (List.getElem?_eq_getElem (by omega))
  have h2 : (nl L)[i + 1]? = some (L[i + 1] : Int) := nl_get (List.getElem?_eq_getElem (by omega))
  rw [h1, h2]
  have := List.pairwise_iff_getElem.1 hs i (i + 1) (by omega) (by omega) (by omega)
  simp only [Option.getD_some, Bool.not_eq_true', decide_eq_false_iff_not]
  omega
set_option maxHeartbeats 4000000 in
theorem law_opens (n : Int) (l : List (Int × Int)) : PRet Try.prog 8 [int n, eds l] (bool true) := by
  refine PRet.intro 2 fun t => ACall.enter tab_ok Try.func8 rfl rfl Try.ntmps8 (by simp) ?_
  simp only [enterTM]
  have hA := awake06
  have hR := right2 n l
  cases hr : (decide (n ≤ 30) && decide (l.length ≤ 40)) && validG n l
  · rw [hr] at hR
    ((refine gga2 hA hR ?_))
    ((repeat refine AW_seq ?_); (refine wta ?_); simp (disch := omega) only [retQ, resD, oneD, rsv, rs, rsL, rsL_eq_map, List.map_map, bb, bt, zDs, zD, eqCells, simprocAttr, Try.results8])
  rw [hr] at hR
  simp only [Bool.and_eq_true, decide_eq_true_eq] at hr
  obtain ⟨⟨hn30, hl40⟩, hv⟩ := hr
  obtain ⟨m, E, rfl, rfl, ho, hm, hE⟩ := valid_nat hv
  rw [edN_len] at hl40
  have h1 := partsG m E ho hv hm hE
  have h2 := bridgesG m E ho hv hm hE
  have h3 := cyclesG m E ho hv hm hE
  have hbl := bridgesP_len E
  have hSo := isSorted (nl (bridgesP E)) (by rw [nl_len]; omega)
  rw [show sortedP (nl (bridgesP E)) = true from sorted_range _ _] at hSo
  have hdiv : (edC (edN E)).length / 2 = E.length := by rw [edC_div, edN_len]
  have hle : decide ((E.length : Int) ≤ (E.length : Int)) = true := by simp
  have hble : decide (((bridgesP E).length : Int) ≤ (E.length : Int)) = true := decide_eq_true (by omega)
  have hBl := nl_len (bridgesP E)
  ((refine ggb6 hdiv hA hR h1 h2 h3 hSo ?_))
  ((repeat refine AW_seq ?_))
  refine AW_mid (fun w : Nat => ⟨[(1, eds (edN E)), (4, bool false), (7, ints (nl (bridgesP E)))], [], w⟩) (fun _ => True) ?_ ?_
  · refine AW_block ?_
    refine AW_loop_w (fun w : Nat × Nat => ⟨[(0, int m), (1, eds (edN E)), (4, bool false), (5, mat ((partsP m E).map nl)), (7, ints (nl (bridgesP E))), (9, mat ((cyclesP E).map nl)), (58, int E.length), (59, int w.1)], [], w.2⟩) (fun w => E.length - w.1) (fun w => w.1 ≤ E.length) (0, t) (Nat.zero_le _) (by (simp (disch := omega) only [StLe, tmLe, hpLe_refl, hpLe, bl, bb, bt, zDs, zD, eqCells, simprocAttr])) ?_
    rintro ⟨k, tt⟩ hk
    simp only at hk
    by_cases hlt : k < E.length
    · obtain ⟨⟨a, b⟩, hab⟩ : ∃ w, E[k]? = some w := ⟨_, List.getElem?_eq_getElem hlt⟩
      have hbm : (nl (bridgesP E)).contains (k : Int) = bridgeP E k := by
        rw [contains_nl, Bool.eq_iff_iff, List.contains_iff_mem]
        unfold bridgesP
        rw [List.mem_filter, List.mem_range]
        exact ⟨fun h => h.2, fun h => ⟨hlt, h⟩⟩
      have hCo := containsInts (nl (bridgesP E)) (k : Int) (by rw [nl_len]; omega)
      rw [hbm] at hCo
      have hcl := cycles_len E
      have hrl := rest_len E
      have hCf := containsFuncRows ((cyclesP E).map nl) 34 [.rp [int k] 0] (fun r => r.contains (k : Int)) (map_len (by omega)) (fun r h => by
        obtain ⟨r', hr', rfl⟩ := List.mem_map.1 h
        have := cycle_row ho hr'
        exact opens1 _ _ (by rw [nl_len]; omega))
      have hany : ((cyclesP E).map nl).any (fun r => r.contains (k : Int)) = !(bridgeP E k) := by
        rw [bridge_cycles ho hlt, Bool.not_not, List.any_map]
        refine congrArg (fun f => List.any (cyclesP E) f) (funext fun r => ?_)
        simp only [Function.comp_apply, contains_nl]
      rw [hany] at hCf
      have hCl := cloneEds (edN E) (by rw [edN_len]; omega) (by rw [edN_len]; omega)
      rw [edN_len] at hCl
      ((refine ggb0 (F := _∧_) ⟨@Int.ofNat_lt, hlt⟩ ?_))
      ((repeat refine AW_seq ?_))
      refine AW_block ?_
      ((refine wqa ?_))
      ((refine AW.freeze (0) (by first | rfl | (simp only [setH, List.getElem?_cons_zero, List.getElem?_cons_succ, fz_ed]; done)) ?_); simp (disch := omega) only [fzT, fz, fzL, fzL_ints, fzL_mat, fzH, fzB, eq_self, bb, bt, zDs, zD, eqCells, simprocAttr, fz_ed])
      have hne : (bridgeP E k == !(bridgeP E k)) = false := by cases bridgeP E k <;> rfl
      ((refine ggb2 hne hCo hCf ?_))
      ((repeat refine AW_seq ?_))
      refine AW_mid (fun w : Nat × Nat => ⟨[(0, int m), (1, eds (edN E)), (4, bool false), (5, mat ((partsP m E).map nl)), (7, ints (nl (bridgesP E))), (9, mat ((cyclesP E).map nl)), (58, int E.length), (59, int k), (12, bool (bridgeP E k)), (13, .own 2 1 w.1 0 (E.length - 1))], [none, some ⟨43, w.1, edC ((edN E).eraseIdx k)⟩], w.2⟩) (fun _ => True) ?_ ?_
      · refine AW_any tab_ok follows_mixed fun KR hKR => ?_
        simp only [List.length_cons, List.length_nil, Nat.reduceAdd]
        refine anyW_step [0, 2, 3] (by kernel_rfl) rfl ⟨⟨_, rfl, ?_⟩, ⟨_, rfl, ?_⟩, ⟨_, rfl, ?_⟩, trivial⟩
        · (refine awOps_n rfl fun KK hKK => ?_); (simp (disch := omega) only [bb, bt, zDs, zD, eqCells, simprocAttr]); (refine hKK _ ?_); clear hKK KK; (refine awOps_nil ?_)
          refine anyW_step [1, 2, 3] (by kernel_rfl) rfl ⟨⟨_, rfl, ?_⟩, ⟨_, rfl, ?_⟩, ⟨_, rfl, ?_⟩, trivial⟩
          · ((try with_reducible intro KR hKR); (first | refine awOps_nc fun KK hKK => ?_ | refine awOps_gc rfl fun KK hKK => ?_); simp (disch := omega) only [bb, bt, zDs, zD, eqCells, simprocAttr, goC, callO_fn, argsD, and_self]); (refine ACall.of_fresh hCl (by first | (simp only [List.map_cons, List.map_nil, List.append_nil, List.nil_append, List.cons_append, ufa, uf]; done) | rfl) ?_); (simp (disch := omega) only [bb, bt, zDs, zD, eqCells, simprocAttr, afterC]; refine hKK _ ?_; clear hKK KK); (refine awOps_nil ?_)
            refine anyW_step [2, 3] (by kernel_rfl) rfl ⟨⟨_, rfl, ?_⟩, ⟨_, rfl, ?_⟩, trivial⟩
            · (refine awOps_n rfl fun KK hKK => ?_); (simp (disch := omega) only [bb, bt, zDs, zD, eqCells, simprocAttr]); (refine hKK _ ?_); clear hKK KK; (refine awOps_nil ?_)
              refine anyW_step [3] (by kernel_rfl) rfl ⟨⟨_, rfl, ?_⟩, trivial⟩
              (refine awOps_n rfl fun KK hKK => ?_); (simp (disch := omega) only [bb, bt, zDs, zD, eqCells, simprocAttr]); (refine hKK _ ?_); clear hKK KK; (refine awOps_nil ?_)
              refine anyW_step [4] (by kernel_rfl) rfl ⟨⟨_, rfl, ?_⟩, trivial⟩
              (refine awOps_n rfl fun KK hKK => ?_); (simp (disch := omega) only [bb, bt, zDs, zD, eqCells, simprocAttr]); (refine hKK _ ?_); clear hKK KK; (refine awOps_nil ?_)
              refine anyW_step [5] (by kernel_rfl) rfl ⟨⟨_, rfl, ?_⟩, trivial⟩
              ((try with_reducible intro KR hKR); (first | refine awOps_nc fun KK hKK => ?_ | refine awOps_gc rfl fun KK hKK => ?_); simp (disch := omega) only [bb, bt, zDs, zD, eqCells, simprocAttr, goC, callO_fn, argsD, and_self]); (refine delete_pair (bl := ⟨43, tt + 1 + 1, edC (edN E)⟩) (l := edN E) (k := k) rfl rfl (edN_len E) hlt ?_); (simp (disch := omega) only [bb, bt, zDs, zD, eqCells, simprocAttr, afterC]; refine hKK _ ?_; clear hKK KK); (refine awOps_nil ?_)
              refine anyW_step [6] (by kernel_rfl) rfl ⟨⟨_, rfl, ?_⟩, trivial⟩
              (refine awOps_n rfl fun KK hKK => ?_); (simp (disch := omega) only [bb, bt, zDs, zD, eqCells, simprocAttr]); (refine hKK _ ?_); clear hKK KK; (refine awOps_nil ?_)
              refine anyW_end (by kernel_rfl) (hKR _ ?_)
              ((refine wua_GXO ?_))
              refine ⟨(tt + 1 + 1 + 1, tt + 1 + 1 + 1), trivial, ?_⟩
              (simp (disch := omega) only [StLe, tmLe, hpLe_refl, hpLe, bl, bb, bt, zDs, zD, eqCells, simprocAttr])
            · (refine awOps_n rfl fun KK hKK => ?_); (simp (disch := omega) only [bb, bt, zDs, zD, eqCells, simprocAttr]); (refine hKK _ ?_); clear hKK KK; (refine awOps_nil ?_)
              refine anyW_step [2, 4] (by kernel_rfl) rfl ⟨⟨_, rfl, ?_⟩, ⟨_, rfl, ?_⟩, trivial⟩
              · (refine awOps_n rfl fun KK hKK => ?_); (simp (disch := omega) only [bb, bt, zDs, zD, eqCells, simprocAttr]); (refine hKK _ ?_); clear hKK KK; (refine awOps_nil ?_)
                refine anyW_step [4] (by kernel_rfl) rfl ⟨⟨_, rfl, ?_⟩, trivial⟩
                (refine awOps_n rfl fun KK hKK => ?_); (simp (disch := omega) only [bb, bt, zDs, zD, eqCells, simprocAttr]); (refine hKK _ ?_); clear hKK KK; (refine awOps_nil ?_)
                refine anyW_step [5] (by kernel_rfl) rfl ⟨⟨_, rfl, ?_⟩, trivial⟩
                ((try with_reducible intro KR hKR); (first | refine awOps_nc fun KK hKK => ?_ | refine awOps_gc rfl fun KK hKK => ?_); simp (disch := omega) only [bb, bt, zDs, zD, eqCells, simprocAttr, goC, callO_fn, argsD, and_self]); (refine delete_pair (bl := ⟨43, tt + 1 + 1, edC (edN E)⟩) (l := edN E) (k := k) rfl rfl (edN_len E) hlt ?_); (simp (disch := omega) only [bb, bt, zDs, zD, eqCells, simprocAttr, afterC]; refine hKK _ ?_; clear hKK KK); (refine awOps_nil ?_)
                refine anyW_step [6] (by kernel_rfl) rfl ⟨⟨_, rfl, ?_⟩, trivial⟩
                (refine awOps_n rfl fun KK hKK => ?_); (simp (disch := omega) only [bb, bt, zDs, zD, eqCells, simprocAttr]); (refine hKK _ ?_); clear hKK KK; (refine awOps_nil ?_)
                refine anyW_end (by kernel_rfl) (hKR _ ?_)
                ((refine wua_GXO ?_))
                refine ⟨(tt + 1 + 1 + 1, tt + 1 + 1 + 1), trivial, ?_⟩
                (simp (disch := omega) only [StLe, tmLe, hpLe_refl, hpLe, bl, bb, bt, zDs, zD, eqCells, simprocAttr])
              · (refine awOps_n rfl fun KK hKK => ?_); (simp (disch := omega) only [bb, bt, zDs, zD, eqCells, simprocAttr]); (refine hKK _ ?_); clear hKK KK; (refine awOps_nil ?_)
                refine anyW_step [2] (by kernel_rfl) rfl ⟨⟨_, rfl, ?_⟩, trivial⟩
                (refine awOps_n rfl fun KK hKK => ?_); (simp (disch := omega) only [bb, bt, zDs, zD, eqCells, simprocAttr]); (refine hKK _ ?_); clear hKK KK; (refine awOps_nil ?_)
                refine anyW_step [5] (by kernel_rfl) rfl ⟨⟨_, rfl, ?_⟩, trivial⟩
                ((try with_reducible intro KR hKR); (first | refine awOps_nc fun KK hKK => ?_ | refine awOps_gc rfl fun KK hKK => ?_); simp (disch := omega) only [bb, bt, zDs, zD, eqCells, simprocAttr, goC, callO_fn, argsD, and_self]); (refine delete_pair (bl := ⟨43, tt + 1 + 1, edC (edN E)⟩) (l := edN E) (k := k) rfl rfl (edN_len E) hlt ?_); (simp (disch := omega) only [bb, bt, zDs, zD, eqCells, simprocAttr, afterC]; refine hKK _ ?_; clear hKK KK); (refine awOps_nil ?_)
                refine anyW_step [6] (by kernel_rfl) rfl ⟨⟨_, rfl, ?_⟩, trivial⟩
                (refine awOps_n rfl fun KK hKK => ?_); (simp (disch := omega) only [bb, bt, zDs, zD, eqCells, simprocAttr]); (refine hKK _ ?_); clear hKK KK; (refine awOps_nil ?_)
                refine anyW_end (by kernel_rfl) (hKR _ ?_)
                ((refine wua_GXO ?_))
                refine ⟨(tt + 1 + 1 + 1, tt + 1 + 1 + 1), trivial, ?_⟩
                (simp (disch := omega) only [StLe, tmLe, hpLe_refl, hpLe, bl, bb, bt, zDs, zD, eqCells, simprocAttr])
          · (refine awOps_n rfl fun KK hKK => ?_); (simp (disch := omega) only [bb, bt, zDs, zD, eqCells, simprocAttr]); (refine hKK _ ?_); clear hKK KK; (refine awOps_nil ?_)
            refine anyW_step [1, 3] (by kernel_rfl) rfl ⟨⟨_, rfl, ?_⟩, ⟨_, rfl, ?_⟩, trivial⟩
            · ((try with_reducible intro KR hKR); (first | refine awOps_nc fun KK hKK => ?_ | refine awOps_gc rfl fun KK hKK => ?_); simp (disch := omega) only [bb, bt, zDs, zD, eqCells, simprocAttr, goC, callO_fn, argsD, and_self]); (refine ACall.of_fresh hCl (by first | (simp only [List.map_cons, List.map_nil, List.append_nil, List.nil_append, List.cons_append, ufa, uf]; done) | rfl) ?_); (simp (disch := omega) only [bb, bt, zDs, zD, eqCells, simprocAttr, afterC]; refine hKK _ ?_; clear hKK KK); (refine awOps_nil ?_)
              refine anyW_step [3] (by kernel_rfl) rfl ⟨⟨_, rfl, ?_⟩, trivial⟩
              (refine awOps_n rfl fun KK hKK => ?_); (simp (disch := omega) only [bb, bt, zDs, zD, eqCells, simprocAttr]); (refine hKK _ ?_); clear hKK KK; (refine awOps_nil ?_)
              refine anyW_step [4] (by kernel_rfl) rfl ⟨⟨_, rfl, ?_⟩, trivial⟩
              (refine awOps_n rfl fun KK hKK => ?_); (simp (disch := omega) only [bb, bt, zDs, zD, eqCells, simprocAttr]); (refine hKK _ ?_); clear hKK KK; (refine awOps_nil ?_)
              refine anyW_step [5] (by kernel_rfl) rfl ⟨⟨_, rfl, ?_⟩, trivial⟩
              ((try with_reducible intro KR hKR); (first | refine awOps_nc fun KK hKK => ?_ | refine awOps_gc rfl fun KK hKK => ?_); simp (disch := omega) only [bb, bt, zDs, zD, eqCells, simprocAttr, goC, callO_fn, argsD, and_self]); (refine delete_pair (bl := ⟨43, tt + 1 + 1, edC (edN E)⟩) (l := edN E) (k := k) rfl rfl (edN_len E) hlt ?_); (simp (disch := omega) only [bb, bt, zDs, zD, eqCells, simprocAttr, afterC]; refine hKK _ ?_; clear hKK KK); (refine awOps_nil ?_)
              refine anyW_step [6] (by kernel_rfl) rfl ⟨⟨_, rfl, ?_⟩, trivial⟩
              (refine awOps_n rfl fun KK hKK => ?_); (simp (disch := omega) only [bb, bt, zDs, zD, eqCells, simprocAttr]); (refine hKK _ ?_); clear hKK KK; (refine awOps_nil ?_)
              refine anyW_end (by kernel_rfl) (hKR _ ?_)
              ((refine wua_GXO ?_))
              refine ⟨(tt + 1 + 1 + 1, tt + 1 + 1 + 1), trivial, ?_⟩
              (simp (disch := omega) only [StLe, tmLe, hpLe_refl, hpLe, bl, bb, bt, zDs, zD, eqCells, simprocAttr])
            · (refine awOps_n rfl fun KK hKK => ?_); (simp (disch := omega) only [bb, bt, zDs, zD, eqCells, simprocAttr]); (refine hKK _ ?_); clear hKK KK; (refine awOps_nil ?_)
              refine anyW_step [1, 4] (by kernel_rfl) rfl ⟨⟨_, rfl, ?_⟩, ⟨_, rfl, ?_⟩, trivial⟩
              · ((try with_reducible intro KR hKR); (first | refine awOps_nc fun KK hKK => ?_ | refine awOps_gc rfl fun KK hKK => ?_); simp (disch := omega) only [bb, bt, zDs, zD, eqCells, simprocAttr, goC, callO_fn, argsD, and_self]); (refine ACall.of_fresh hCl (by first | (simp only [List.map_cons, List.map_nil, List.append_nil, List.nil_append, List.cons_append, ufa, uf]; done) | rfl) ?_); (simp (disch := omega) only [bb, bt, zDs, zD, eqCells, simprocAttr, afterC]; refine hKK _ ?_; clear hKK KK); (refine awOps_nil ?_)
                refine anyW_step [4] (by kernel_rfl) rfl ⟨⟨_, rfl, ?_⟩, trivial⟩
                (refine awOps_n rfl fun KK hKK => ?_); (simp (disch := omega) only [bb, bt, zDs, zD, eqCells, simprocAttr]); (refine hKK _ ?_); clear hKK KK; (refine awOps_nil ?_)
                refine anyW_step [5] (by kernel_rfl) rfl ⟨⟨_, rfl, ?_⟩, trivial⟩
                ((try with_reducible intro KR hKR); (first | refine awOps_nc fun KK hKK => ?_ | refine awOps_gc rfl fun KK hKK => ?_); simp (disch := omega) only [bb, bt, zDs, zD, eqCells, simprocAttr, goC, callO_fn, argsD, and_self]); (refine delete_pair (bl := ⟨43, tt + 1 + 1, edC (edN E)⟩) (l := edN E) (k := k) rfl rfl (edN_len E) hlt ?_); (simp (disch := omega) only [bb, bt, zDs, zD, eqCells, simprocAttr, afterC]; refine hKK _ ?_; clear hKK KK); (refine awOps_nil ?_)
                refine anyW_step [6] (by kernel_rfl) rfl ⟨⟨_, rfl, ?_⟩, trivial⟩
                (refine awOps_n rfl fun KK hKK => ?_); (simp (disch := omega) only [bb, bt, zDs, zD, eqCells, simprocAttr]); (refine hKK _ ?_); clear hKK KK; (refine awOps_nil ?_)
                refine anyW_end (by kernel_rfl) (hKR _ ?_)
                ((refine wua_GXO ?_))
                refine ⟨(tt + 1 + 1 + 1, tt + 1 + 1 + 1), trivial, ?_⟩
                (simp (disch := omega) only [StLe, tmLe, hpLe_refl, hpLe, bl, bb, bt, zDs, zD, eqCells, simprocAttr])
              · (refine awOps_n rfl fun KK hKK => ?_); (simp (disch := omega) only [bb, bt, zDs, zD, eqCells, simprocAttr]); (refine hKK _ ?_); clear hKK KK; (refine awOps_nil ?_)
                refine anyW_step [1] (by kernel_rfl) rfl ⟨⟨_, rfl, ?_⟩, trivial⟩
                ((try with_reducible intro KR hKR); (first | refine awOps_nc fun KK hKK => ?_ | refine awOps_gc rfl fun KK hKK => ?_); simp (disch := omega) only [bb, bt, zDs, zD, eqCells, simprocAttr, goC, callO_fn, argsD, and_self]); (refine ACall.of_fresh hCl (by first | (simp only [List.map_cons, List.map_nil, List.append_nil, List.nil_append, List.cons_append, ufa, uf]; done) | rfl) ?_); (simp (disch := omega) only [bb, bt, zDs, zD, eqCells, simprocAttr, afterC]; refine hKK _ ?_; clear hKK KK); (refine awOps_nil ?_)
                refine anyW_step [5] (by kernel_rfl) rfl ⟨⟨_, rfl, ?_⟩, trivial⟩
                ((try with_reducible intro KR hKR); (first | refine awOps_nc fun KK hKK => ?_ | refine awOps_gc rfl fun KK hKK => ?_); simp (disch := omega) only [bb, bt, zDs, zD, eqCells, simprocAttr, goC, callO_fn, argsD, and_self]); (refine delete_pair (bl := ⟨43, tt + 1 + 1, edC (edN E)⟩) (l := edN E) (k := k) rfl rfl (edN_len E) hlt ?_); (simp (disch := omega) only [bb, bt, zDs, zD, eqCells, simprocAttr, afterC]; refine hKK _ ?_; clear hKK KK); (refine awOps_nil ?_)
                refine anyW_step [6] (by kernel_rfl) rfl ⟨⟨_, rfl, ?_⟩, trivial⟩
                (refine awOps_n rfl fun KK hKK => ?_); (simp (disch := omega) only [bb, bt, zDs, zD, eqCells, simprocAttr]); (refine hKK _ ?_); clear hKK KK; (refine awOps_nil ?_)
                refine anyW_end (by kernel_rfl) (hKR _ ?_)
                ((refine wua_GXO ?_))
                refine ⟨(tt + 1 + 1 + 1, tt + 1 + 1 + 1), trivial, ?_⟩
                (simp (disch := omega) only [StLe, tmLe, hpLe_refl, hpLe, bl, bb, bt, zDs, zD, eqCells, simprocAttr])
          · (refine awOps_n rfl fun KK hKK => ?_); (simp (disch := omega) only [bb, bt, zDs, zD, eqCells, simprocAttr]); (refine hKK _ ?_); clear hKK KK; (refine awOps_nil ?_)
            refine anyW_step [1, 2, 4] (by kernel_rfl) rfl ⟨⟨_, rfl, ?_⟩, ⟨_, rfl, ?_⟩, ⟨_, rfl, ?_⟩, trivial⟩
            · ((try with_reducible intro KR hKR); (first | refine awOps_nc fun KK hKK => ?_ | refine awOps_gc rfl fun KK hKK => ?_); simp (disch := omega) only [bb, bt, zDs, zD, eqCells, simprocAttr, goC, callO_fn, argsD, and_self]); (refine ACall.of_fresh hCl (by first | (simp only [List.map_cons, List.map_nil, List.append_nil, List.nil_append, List.cons_append, ufa, uf]; done) | rfl) ?_); (simp (disch := omega) only [bb, bt, zDs, zD, eqCells, simprocAttr, afterC]; refine hKK _ ?_; clear hKK KK); (refine awOps_nil ?_)
              refine anyW_step [2, 4] (by kernel_rfl) rfl ⟨⟨_, rfl, ?_⟩, ⟨_, rfl, ?_⟩, trivial⟩
              · (refine awOps_n rfl fun KK hKK => ?_); (simp (disch := omega) only [bb, bt, zDs, zD, eqCells, simprocAttr]); (refine hKK _ ?_); clear hKK KK; (refine awOps_nil ?_)
                refine anyW_step [4] (by kernel_rfl) rfl ⟨⟨_, rfl, ?_⟩, trivial⟩
                (refine awOps_n rfl fun KK hKK => ?_); (simp (disch := omega) only [bb, bt, zDs, zD, eqCells, simprocAttr]); (refine hKK _ ?_); clear hKK KK; (refine awOps_nil ?_)
                refine anyW_step [5] (by kernel_rfl) rfl ⟨⟨_, rfl, ?_⟩, trivial⟩
                ((try with_reducible intro KR hKR); (first | refine awOps_nc fun KK hKK => ?_ | refine awOps_gc rfl fun KK hKK => ?_); simp (disch := omega) only [bb, bt, zDs, zD, eqCells, simprocAttr, goC, callO_fn, argsD, and_self]); (refine delete_pair (bl := ⟨43, tt + 1 + 1, edC (edN E)⟩) (l := edN E) (k := k) rfl rfl (edN_len E) hlt ?_); (simp (disch := omega) only [bb, bt, zDs, zD, eqCells, simprocAttr, afterC]; refine hKK _ ?_; clear hKK KK); (refine awOps_nil ?_)
                refine anyW_step [6] (by kernel_rfl) rfl ⟨⟨_, rfl, ?_⟩, trivial⟩
                (refine awOps_n rfl fun KK hKK => ?_); (simp (disch := omega) only [bb, bt, zDs, zD, eqCells, simprocAttr]); (refine hKK _ ?_); clear hKK KK; (refine awOps_nil ?_)
                refine anyW_end (by kernel_rfl) (hKR _ ?_)
                ((refine wua_GXO ?_))
                refine ⟨(tt + 1 + 1 + 1, tt + 1 + 1 + 1), trivial, ?_⟩
                (simp (disch := omega) only [StLe, tmLe, hpLe_refl, hpLe, bl, bb, bt, zDs, zD, eqCells, simprocAttr])
              · (refine awOps_n rfl fun KK hKK => ?_); (simp (disch := omega) only [bb, bt, zDs, zD, eqCells, simprocAttr]); (refine hKK _ ?_); clear hKK KK; (refine awOps_nil ?_)
                refine anyW_step [2] (by kernel_rfl) rfl ⟨⟨_, rfl, ?_⟩, trivial⟩
                (refine awOps_n rfl fun KK hKK => ?_); (simp (disch := omega) only [bb, bt, zDs, zD, eqCells, simprocAttr]); (refine hKK _ ?_); clear hKK KK; (refine awOps_nil ?_)
                refine anyW_step [5] (by kernel_rfl) rfl ⟨⟨_, rfl, ?_⟩, trivial⟩
                ((try with_reducible intro KR hKR); (first | refine awOps_nc fun KK hKK => ?_ | refine awOps_gc rfl fun KK hKK => ?_); simp (disch := omega) only [bb, bt, zDs, zD, eqCells, simprocAttr, goC, callO_fn, argsD, and_self]); (refine delete_pair (bl := ⟨43, tt + 1 + 1, edC (edN E)⟩) (l := edN E) (k := k) rfl rfl (edN_len E) hlt ?_); (simp (disch := omega) only [bb, bt, zDs, zD, eqCells, simprocAttr, afterC]; refine hKK _ ?_; clear hKK KK); (refine awOps_nil ?_)
                refine anyW_step [6] (by kernel_rfl) rfl ⟨⟨_, rfl, ?_⟩, trivial⟩
                (refine awOps_n rfl fun KK hKK => ?_); (simp (disch := omega) only [bb, bt, zDs, zD, eqCells, simprocAttr]); (refine hKK _ ?_); clear hKK KK; (refine awOps_nil ?_)
                refine anyW_end (by kernel_rfl) (hKR _ ?_)
                ((refine wua_GXO ?_))
                refine ⟨(tt + 1 + 1 + 1, tt + 1 + 1 + 1), trivial, ?_⟩
                (simp (disch := omega) only [StLe, tmLe, hpLe_refl, hpLe, bl, bb, bt, zDs, zD, eqCells, simprocAttr])
            · (refine awOps_n rfl fun KK hKK => ?_); (simp (disch := omega) only [bb, bt, zDs, zD, eqCells, simprocAttr]); (refine hKK _ ?_); clear hKK KK; (refine awOps_nil ?_)
              refine anyW_step [1, 4] (by kernel_rfl) rfl ⟨⟨_, rfl, ?_⟩, ⟨_, rfl, ?_⟩, trivial⟩
              · ((try with_reducible intro KR hKR); (first | refine awOps_nc fun KK hKK => ?_ | refine awOps_gc rfl fun KK hKK => ?_); simp (disch := omega) only [bb, bt, zDs, zD, eqCells, simprocAttr, goC, callO_fn, argsD, and_self]); (refine ACall.of_fresh hCl (by first | (simp only [List.map_cons, List.map_nil, List.append_nil, List.nil_append, List.cons_append, ufa, uf]; done) | rfl) ?_); (simp (disch := omega) only [bb, bt, zDs, zD, eqCells, simprocAttr, afterC]; refine hKK _ ?_; clear hKK KK); (refine awOps_nil ?_)
                refine anyW_step [4] (by kernel_rfl) rfl ⟨⟨_, rfl, ?_⟩, trivial⟩
                (refine awOps_n rfl fun KK hKK => ?_); (simp (disch := omega) only [bb, bt, zDs, zD, eqCells, simprocAttr]); (refine hKK _ ?_); clear hKK KK; (refine awOps_nil ?_)
                refine anyW_step [5] (by kernel_rfl) rfl ⟨⟨_, rfl, ?_⟩, trivial⟩
                ((try with_reducible intro KR hKR); (first | refine awOps_nc fun KK hKK => ?_ | refine awOps_gc rfl fun KK hKK => ?_); simp (disch := omega) only [bb, bt, zDs, zD, eqCells, simprocAttr, goC, callO_fn, argsD, and_self]); (refine delete_pair (bl := ⟨43, tt + 1 + 1, edC (edN E)⟩) (l := edN E) (k := k) rfl rfl (edN_len E) hlt ?_); (simp (disch := omega) only [bb, bt, zDs, zD, eqCells, simprocAttr, afterC]; refine hKK _ ?_; clear hKK KK); (refine awOps_nil ?_)
                refine anyW_step [6] (by kernel_rfl) rfl ⟨⟨_, rfl, ?_⟩, trivial⟩
                (refine awOps_n rfl fun KK hKK => ?_); (simp (disch := omega) only [bb, bt, zDs, zD, eqCells, simprocAttr]); (refine hKK _ ?_); clear hKK KK; (refine awOps_nil ?_)
                refine anyW_end (by kernel_rfl) (hKR _ ?_)
                ((refine wua_GXO ?_))
                refine ⟨(tt + 1 + 1 + 1, tt + 1 + 1 + 1), trivial, ?_⟩
                (simp (disch := omega) only [StLe, tmLe, hpLe_refl, hpLe, bl, bb, bt, zDs, zD, eqCells, simprocAttr])
              · (refine awOps_n rfl fun KK hKK => ?_); (simp (disch := omega) only [bb, bt, zDs, zD, eqCells, simprocAttr]); (refine hKK _ ?_); clear hKK KK; (refine awOps_nil ?_)
                refine anyW_step [1] (by kernel_rfl) rfl ⟨⟨_, rfl, ?_⟩, trivial⟩
                ((try with_reducible intro KR hKR); (first | refine awOps_nc fun KK hKK => ?_ | refine awOps_gc rfl fun KK hKK => ?_); simp (disch := omega) only [bb, bt, zDs, zD, eqCells, simprocAttr, goC, callO_fn, argsD, and_self]); (refine ACall.of_fresh hCl (by first | (simp only [List.map_cons, List.map_nil, List.append_nil, List.nil_append, List.cons_append, ufa, uf]; done) | rfl) ?_); (simp (disch := omega) only [bb, bt, zDs, zD, eqCells, simprocAttr, afterC]; refine hKK _ ?_; clear hKK KK); (refine awOps_nil ?_)
                refine anyW_step [5] (by kernel_rfl) rfl ⟨⟨_, rfl, ?_⟩, trivial⟩
                ((try with_reducible intro KR hKR); (first | refine awOps_nc fun KK hKK => ?_ | refine awOps_gc rfl fun KK hKK => ?_); simp (disch := omega) only [bb, bt, zDs, zD, eqCells, simprocAttr, goC, callO_fn, argsD, and_self]); (refine delete_pair (bl := ⟨43, tt + 1 + 1, edC (edN E)⟩) (l := edN E) (k := k) rfl rfl (edN_len E) hlt ?_); (simp (disch := omega) only [bb, bt, zDs, zD, eqCells, simprocAttr, afterC]; refine hKK _ ?_; clear hKK KK); (refine awOps_nil ?_)
                refine anyW_step [6] (by kernel_rfl) rfl ⟨⟨_, rfl, ?_⟩, trivial⟩
                (refine awOps_n rfl fun KK hKK => ?_); (simp (disch := omega) only [bb, bt, zDs, zD, eqCells, simprocAttr]); (refine hKK _ ?_); clear hKK KK; (refine awOps_nil ?_)
                refine anyW_end (by kernel_rfl) (hKR _ ?_)
                ((refine wua_GXO ?_))
                refine ⟨(tt + 1 + 1 + 1, tt + 1 + 1 + 1), trivial, ?_⟩
                (simp (disch := omega) only [StLe, tmLe, hpLe_refl, hpLe, bl, bb, bt, zDs, zD, eqCells, simprocAttr])
            · (refine awOps_n rfl fun KK hKK => ?_); (simp (disch := omega) only [bb, bt, zDs, zD, eqCells, simprocAttr]); (refine hKK _ ?_); clear hKK KK; (refine awOps_nil ?_)
              refine anyW_step [1, 2] (by kernel_rfl) rfl ⟨⟨_, rfl, ?_⟩, ⟨_, rfl, ?_⟩, trivial⟩
              · ((try with_reducible intro KR hKR); (first | refine awOps_nc fun KK hKK => ?_ | refine awOps_gc rfl fun KK hKK => ?_); simp (disch := omega) only [bb, bt, zDs, zD, eqCells, simprocAttr, goC, callO_fn, argsD, and_self]); (refine ACall.of_fresh hCl (by first | (simp only [List.map_cons, List.map_nil, List.append_nil, List.nil_append, List.cons_append, ufa, uf]; done) | rfl) ?_); (simp (disch := omega) only [bb, bt, zDs, zD, eqCells, simprocAttr, afterC]; refine hKK _ ?_; clear hKK KK); (refine awOps_nil ?_)
                refine anyW_step [2] (by kernel_rfl) rfl ⟨⟨_, rfl, ?_⟩, trivial⟩
                (refine awOps_n rfl fun KK hKK => ?_); (simp (disch := omega) only [bb, bt, zDs, zD, eqCells, simprocAttr]); (refine hKK _ ?_); clear hKK KK; (refine awOps_nil ?_)
                refine anyW_step [5] (by kernel_rfl) rfl ⟨⟨_, rfl, ?_⟩, trivial⟩
                ((try with_reducible intro KR hKR); (first | refine awOps_nc fun KK hKK => ?_ | refine awOps_gc rfl fun KK hKK => ?_); simp (disch := omega) only [bb, bt, zDs, zD, eqCells, simprocAttr, goC, callO_fn, argsD, and_self]); (refine delete_pair (bl := ⟨43, tt + 1 + 1, edC (edN E)⟩) (l := edN E) (k := k) rfl rfl (edN_len E) hlt ?_); (simp (disch := omega) only [bb, bt, zDs, zD, eqCells, simprocAttr, afterC]; refine hKK _ ?_; clear hKK KK); (refine awOps_nil ?_)
                refine anyW_step [6] (by kernel_rfl) rfl ⟨⟨_, rfl, ?_⟩, trivial⟩
                (refine awOps_n rfl fun KK hKK => ?_); (simp (disch := omega) only [bb, bt, zDs, zD, eqCells, simprocAttr]); (refine hKK _ ?_); clear hKK KK; (refine awOps_nil ?_)
                refine anyW_end (by kernel_rfl) (hKR _ ?_)
                ((refine wua_GXO ?_))
                refine ⟨(tt + 1 + 1 + 1, tt + 1 + 1 + 1), trivial, ?_⟩
                (simp (disch := omega) only [StLe, tmLe, hpLe_refl, hpLe, bl, bb, bt, zDs, zD, eqCells, simprocAttr])
              · (refine awOps_n rfl fun KK hKK => ?_); (simp (disch := omega) only [bb, bt, zDs, zD, eqCells, simprocAttr]); (refine hKK _ ?_); clear hKK KK; (refine awOps_nil ?_)
                refine anyW_step [1] (by kernel_rfl) rfl ⟨⟨_, rfl, ?_⟩, trivial⟩
                ((try with_reducible intro KR hKR); (first | refine awOps_nc fun KK hKK => ?_ | refine awOps_gc rfl fun KK hKK => ?_); simp (disch := omega) only [bb, bt, zDs, zD, eqCells, simprocAttr, goC, callO_fn, argsD, and_self]); (refine ACall.of_fresh hCl (by first | (simp only [List.map_cons, List.map_nil, List.append_nil, List.nil_append, List.cons_append, ufa, uf]; done) | rfl) ?_); (simp (disch := omega) only [bb, bt, zDs, zD, eqCells, simprocAttr, afterC]; refine hKK _ ?_; clear hKK KK); (refine awOps_nil ?_)
                refine anyW_step [5] (by kernel_rfl) rfl ⟨⟨_, rfl, ?_⟩, trivial⟩
                ((try with_reducible intro KR hKR); (first | refine awOps_nc fun KK hKK => ?_ | refine awOps_gc rfl fun KK hKK => ?_); simp (disch := omega) only [bb, bt, zDs, zD, eqCells, simprocAttr, goC, callO_fn, argsD, and_self]); (refine delete_pair (bl := ⟨43, tt + 1 + 1, edC (edN E)⟩) (l := edN E) (k := k) rfl rfl (edN_len E) hlt ?_); (simp (disch := omega) only [bb, bt, zDs, zD, eqCells, simprocAttr, afterC]; refine hKK _ ?_; clear hKK KK); (refine awOps_nil ?_)
                refine anyW_step [6] (by kernel_rfl) rfl ⟨⟨_, rfl, ?_⟩, trivial⟩
                (refine awOps_n rfl fun KK hKK => ?_); (simp (disch := omega) only [bb, bt, zDs, zD, eqCells, simprocAttr]); (refine hKK _ ?_); clear hKK KK; (refine awOps_nil ?_)
                refine anyW_end (by kernel_rfl) (hKR _ ?_)
                ((refine wua_GXO ?_))
                refine ⟨(tt + 1 + 1 + 1, tt + 1 + 1 + 1), trivial, ?_⟩
                (simp (disch := omega) only [StLe, tmLe, hpLe_refl, hpLe, bl, bb, bt, zDs, zD, eqCells, simprocAttr])
        · (refine awOps_n rfl fun KK hKK => ?_); (simp (disch := omega) only [bb, bt, zDs, zD, eqCells, simprocAttr]); (refine hKK _ ?_); clear hKK KK; (refine awOps_nil ?_)
          refine anyW_step [0, 3] (by kernel_rfl) rfl ⟨⟨_, rfl, ?_⟩, ⟨_, rfl, ?_⟩, trivial⟩
          · (refine awOps_n rfl fun KK hKK => ?_); (simp (disch := omega) only [bb, bt, zDs, zD, eqCells, simprocAttr]); (refine hKK _ ?_); clear hKK KK; (refine awOps_nil ?_)
            refine anyW_step [1, 3] (by kernel_rfl) rfl ⟨⟨_, rfl, ?_⟩, ⟨_, rfl, ?_⟩, trivial⟩
            · ((try with_reducible intro KR hKR); (first | refine awOps_nc fun KK hKK => ?_ | refine awOps_gc rfl fun KK hKK => ?_); simp (disch := omega) only [bb, bt, zDs, zD, eqCells, simprocAttr, goC, callO_fn, argsD, and_self]); (refine ACall.of_fresh hCl (by first | (simp only [List.map_cons, List.map_nil, List.append_nil, List.nil_append, List.cons_append, ufa, uf]; done) | rfl) ?_); (simp (disch := omega) only [bb, bt, zDs, zD, eqCells, simprocAttr, afterC]; refine hKK _ ?_; clear hKK KK); (refine awOps_nil ?_)
              refine anyW_step [3] (by kernel_rfl) rfl ⟨⟨_, rfl, ?_⟩, trivial⟩
              (refine awOps_n rfl fun KK hKK => ?_); (simp (disch := omega) only [bb, bt, zDs, zD, eqCells, simprocAttr]); (refine hKK _ ?_); clear hKK KK; (refine awOps_nil ?_)
              refine anyW_step [4] (by kernel_rfl) rfl ⟨⟨_, rfl, ?_⟩, trivial⟩
              (refine awOps_n rfl fun KK hKK => ?_); (simp (disch := omega) only [bb, bt, zDs, zD, eqCells, simprocAttr]); (refine hKK _ ?_); clear hKK KK; (refine awOps_nil ?_)
              refine anyW_step [5] (by kernel_rfl) rfl ⟨⟨_, rfl, ?_⟩, trivial⟩
              ((try with_reducible intro KR hKR); (first | refine awOps_nc fun KK hKK => ?_ | refine awOps_gc rfl fun KK hKK => ?_); simp (disch := omega) only [bb, bt, zDs, zD, eqCells, simprocAttr, goC, callO_fn, argsD, and_self]); (refine delete_pair (bl := ⟨43, tt + 1 + 1, edC (edN E)⟩) (l := edN E) (k := k) rfl rfl (edN_len E) hlt ?_); (simp (disch := omega) only [bb, bt, zDs, zD, eqCells, simprocAttr, afterC]; refine hKK _ ?_; clear hKK KK); (refine awOps_nil ?_)
              refine anyW_step [6] (by kernel_rfl) rfl ⟨⟨_, rfl, ?_⟩, trivial⟩
              (refine awOps_n rfl fun KK hKK => ?_); (simp (disch := omega) only [bb, bt, zDs, zD, eqCells, simprocAttr]); (refine hKK _ ?_); clear hKK KK; (refine awOps_nil ?_)
              refine anyW_end (by kernel_rfl) (hKR _ ?_)
              ((refine wua_GXO ?_))
              refine ⟨(tt + 1 + 1 + 1, tt + 1 + 1 + 1), trivial, ?_⟩
              (simp (disch := omega) only [StLe, tmLe, hpLe_refl, hpLe, bl, bb, bt, zDs, zD, eqCells, simprocAttr])
            · (refine awOps_n rfl fun KK hKK => ?_); (simp (disch := omega) only [bb, bt, zDs, zD, eqCells, simprocAttr]); (refine hKK _ ?_); clear hKK KK; (refine awOps_nil ?_)
              refine anyW_step [1, 4] (by kernel_rfl) rfl ⟨⟨_, rfl, ?_⟩, ⟨_, rfl, ?_⟩, trivial⟩
              · ((try with_reducible intro KR hKR); (first | refine awOps_nc fun KK hKK => ?_ | refine awOps_gc rfl fun KK hKK => ?_); simp (disch := omega) only [bb, bt, zDs, zD, eqCells, simprocAttr, goC, callO_fn, argsD, and_self]); (refine ACall.of_fresh hCl (by first | (simp only [List.map_cons, List.map_nil, List.append_nil, List.nil_append, List.cons_append, ufa, uf]; done) | rfl) ?_); (simp (disch := omega) only [bb, bt, zDs, zD, eqCells, simprocAttr, afterC]; refine hKK _ ?_; clear hKK KK); (refine awOps_nil ?_)
                refine anyW_step [4] (by kernel_rfl) rfl ⟨⟨_, rfl, ?_⟩, trivial⟩
                (refine awOps_n rfl fun KK hKK => ?_); (simp (disch := omega) only [bb, bt, zDs, zD, eqCells, simprocAttr]); (refine hKK _ ?_); clear hKK KK; (refine awOps_nil ?_)
                refine anyW_step [5] (by kernel_rfl) rfl ⟨⟨_, rfl, ?_⟩, trivial⟩
                ((try with_reducible intro KR hKR); (first | refine awOps_nc fun KK hKK => ?_ | refine awOps_gc rfl fun KK hKK => ?_); simp (disch := omega) only [bb, bt, zDs, zD, eqCells, simprocAttr, goC, callO_fn, argsD, and_self]); (refine delete_pair (bl := ⟨43, tt + 1 + 1, edC (edN E)⟩) (l := edN E) (k := k) rfl rfl (edN_len E) hlt ?_); (simp (disch := omega) only [bb, bt, zDs, zD, eqCells, simprocAttr, afterC]; refine hKK _ ?_; clear hKK KK); (refine awOps_nil ?_)
                refine anyW_step [6] (by kernel_rfl) rfl ⟨⟨_, rfl, ?_⟩, trivial⟩
                (refine awOps_n rfl fun KK hKK => ?_); (simp (disch := omega) only [bb, bt, zDs, zD, eqCells, simprocAttr]); (refine hKK _ ?_); clear hKK KK; (refine awOps_nil ?_)
                refine anyW_end (by kernel_rfl) (hKR _ ?_)
                ((refine wua_GXO ?_))
                refine ⟨(tt + 1 + 1 + 1, tt + 1 + 1 + 1), trivial, ?_⟩
                (simp (disch := omega) only [StLe, tmLe, hpLe_refl, hpLe, bl, bb, bt, zDs, zD, eqCells, simprocAttr])
              · (refine awOps_n rfl fun KK hKK => ?_); (simp (disch := omega) only [bb, bt, zDs, zD, eqCells, simprocAttr]); (refine hKK _ ?_); clear hKK KK; (refine awOps_nil ?_)
                refine anyW_step [1] (by kernel_rfl) rfl ⟨⟨_, rfl, ?_⟩, trivial⟩
                ((try with_reducible intro KR hKR); (first | refine awOps_nc fun KK hKK => ?_ | refine awOps_gc rfl fun KK hKK => ?_); simp (disch := omega) only [bb, bt, zDs, zD, eqCells, simprocAttr, goC, callO_fn, argsD, and_self]); (refine ACall.of_fresh hCl (by first | (simp only [List.map_cons, List.map_nil, List.append_nil, List.nil_append, List.cons_append, ufa, uf]; done) | rfl) ?_); (simp (disch := omega) only [bb, bt, zDs, zD, eqCells, simprocAttr, afterC]; refine hKK _ ?_; clear hKK KK); (refine awOps_nil ?_)
                refine anyW_step [5] (by kernel_rfl) rfl ⟨⟨_, rfl, ?_⟩, trivial⟩
                ((try with_reducible intro KR hKR); (first | refine awOps_nc fun KK hKK => ?_ | refine awOps_gc rfl fun KK hKK => ?_); simp (disch := omega) only [bb, bt, zDs, zD, eqCells, simprocAttr, goC, callO_fn, argsD, and_self]); (refine delete_pair (bl := ⟨43, tt + 1 + 1, edC (edN E)⟩) (l := edN E) (k := k) rfl rfl (edN_len E) hlt ?_); (simp (disch := omega) only [bb, bt, zDs, zD, eqCells, simprocAttr, afterC]; refine hKK _ ?_; clear hKK KK); (refine awOps_nil ?_)
                refine anyW_step [6] (by kernel_rfl) rfl ⟨⟨_, rfl, ?_⟩, trivial⟩
                (refine awOps_n rfl fun KK hKK => ?_); (simp (disch := omega) only [bb, bt, zDs, zD, eqCells, simprocAttr]); (refine hKK _ ?_); clear hKK KK; (refine awOps_nil ?_)
                refine anyW_end (by kernel_rfl) (hKR _ ?_)
                ((refine wua_GXO ?_))
                refine ⟨(tt + 1 + 1 + 1, tt + 1 + 1 + 1), trivial, ?_⟩
                (simp (disch := omega) only [StLe, tmLe, hpLe_refl, hpLe, bl, bb, bt, zDs, zD, eqCells, simprocAttr])
          · (refine awOps_n rfl fun KK hKK => ?_); (simp (disch := omega) only [bb, bt, zDs, zD, eqCells, simprocAttr]); (refine hKK _ ?_); clear hKK KK; (refine awOps_nil ?_)
            refine anyW_step [0, 4] (by kernel_rfl) rfl ⟨⟨_, rfl, ?_⟩, ⟨_, rfl, ?_⟩, trivial⟩
            · (refine awOps_n rfl fun KK hKK => ?_); (simp (disch := omega) only [bb, bt, zDs, zD, eqCells, simprocAttr]); (refine hKK _ ?_); clear hKK KK; (refine awOps_nil ?_)
              refine anyW_step [1, 4] (by kernel_rfl) rfl ⟨⟨_, rfl, ?_⟩, ⟨_, rfl, ?_⟩, trivial⟩
              · ((try with_reducible intro KR hKR); (first | refine awOps_nc fun KK hKK => ?_ | refine awOps_gc rfl fun KK hKK => ?_); simp (disch := omega) only [bb, bt, zDs, zD, eqCells, simprocAttr, goC, callO_fn, argsD, and_self]); (refine ACall.of_fresh hCl (by first | (simp only [List.map_cons, List.map_nil, List.append_nil, List.nil_append, List.cons_append, ufa, uf]; done) | rfl) ?_); (simp (disch := omega) only [bb, bt, zDs, zD, eqCells, simprocAttr, afterC]; refine hKK _ ?_; clear hKK KK); (refine awOps_nil ?_)
                refine anyW_step [4] (by kernel_rfl) rfl ⟨⟨_, rfl, ?_⟩, trivial⟩
                (refine awOps_n rfl fun KK hKK => ?_); (simp (disch := omega) only [bb, bt, zDs, zD, eqCells, simprocAttr]); (refine hKK _ ?_); clear hKK KK; (refine awOps_nil ?_)
                refine anyW_step [5] (by kernel_rfl) rfl ⟨⟨_, rfl, ?_⟩, trivial⟩
                ((try with_reducible intro KR hKR); (first | refine awOps_nc fun KK hKK => ?_ | refine awOps_gc rfl fun KK hKK => ?_); simp (disch := omega) only [bb, bt, zDs, zD, eqCells, simprocAttr, goC, callO_fn, argsD, and_self]); (refine delete_pair (bl := ⟨43, tt + 1 + 1, edC (edN E)⟩) (l := edN E) (k := k) rfl rfl (edN_len E) hlt ?_); (simp (disch := omega) only [bb, bt, zDs, zD, eqCells, simprocAttr, afterC]; refine hKK _ ?_; clear hKK KK); (refine awOps_nil ?_)
                refine anyW_step [6] (by kernel_rfl) rfl ⟨⟨_, rfl, ?_⟩, trivial⟩
                (refine awOps_n rfl fun KK hKK => ?_); (simp (disch := omega) only [bb, bt, zDs, zD, eqCells, simprocAttr]); (refine hKK _ ?_); clear hKK KK; (refine awOps_nil ?_)
                refine anyW_end (by kernel_rfl) (hKR _ ?_)
                ((refine wua_GXO ?_))
                refine ⟨(tt + 1 + 1 + 1, tt + 1 + 1 + 1), trivial, ?_⟩
                (simp (disch := omega) only [StLe, tmLe, hpLe_refl, hpLe, bl, bb, bt, zDs, zD, eqCells, simprocAttr])
              · (refine awOps_n rfl fun KK hKK => ?_); (simp (disch := omega) only [bb, bt, zDs, zD, eqCells, simprocAttr]); (refine hKK _ ?_); clear hKK KK; (refine awOps_nil ?_)
                refine anyW_step [1] (by kernel_rfl) rfl ⟨⟨_, rfl, ?_⟩, trivial⟩
                ((try with_reducible intro KR hKR); (first | refine awOps_nc fun KK hKK => ?_ | refine awOps_gc rfl fun KK hKK => ?_); simp (disch := omega) only [bb, bt, zDs, zD, eqCells, simprocAttr, goC, callO_fn, argsD, and_self]); (refine ACall.of_fresh hCl (by first | (simp only [List.map_cons, List.map_nil, List.append_nil, List.nil_append, List.cons_append, ufa, uf]; done) | rfl) ?_); (simp (disch := omega) only [bb, bt, zDs, zD, eqCells, simprocAttr, afterC]; refine hKK _ ?_; clear hKK KK); (refine awOps_nil ?_)
                refine anyW_step [5] (by kernel_rfl) rfl ⟨⟨_, rfl, ?_⟩, trivial⟩
                ((try with_reducible intro KR hKR); (first | refine awOps_nc fun KK hKK => ?_ | refine awOps_gc rfl fun KK hKK => ?_); simp (disch := omega) only [bb, bt, zDs, zD, eqCells, simprocAttr, goC, callO_fn, argsD, and_self]); (refine delete_pair (bl := ⟨43, tt + 1 + 1, edC (edN E)⟩) (l := edN E) (k := k) rfl rfl (edN_len E) hlt ?_); (simp (disch := omega) only [bb, bt, zDs, zD, eqCells, simprocAttr, afterC]; refine hKK _ ?_; clear hKK KK); (refine awOps_nil ?_)
                refine anyW_step [6] (by kernel_rfl) rfl ⟨⟨_, rfl, ?_⟩, trivial⟩
                (refine awOps_n rfl fun KK hKK => ?_); (simp (disch := omega) only [bb, bt, zDs, zD, eqCells, simprocAttr]); (refine hKK _ ?_); clear hKK KK; (refine awOps_nil ?_)
                refine anyW_end (by kernel_rfl) (hKR _ ?_)
                ((refine wua_GXO ?_))
                refine ⟨(tt + 1 + 1 + 1, tt + 1 + 1 + 1), trivial, ?_⟩
                (simp (disch := omega) only [StLe, tmLe, hpLe_refl, hpLe, bl, bb, bt, zDs, zD, eqCells, simprocAttr])
            · (refine awOps_n rfl fun KK hKK => ?_); (simp (disch := omega) only [bb, bt, zDs, zD, eqCells, simprocAttr]); (refine hKK _ ?_); clear hKK KK; (refine awOps_nil ?_)
              refine anyW_step [0] (by kernel_rfl) rfl ⟨⟨_, rfl, ?_⟩, trivial⟩
              (refine awOps_n rfl fun KK hKK => ?_); (simp (disch := omega) only [bb, bt, zDs, zD, eqCells, simprocAttr]); (refine hKK _ ?_); clear hKK KK; (refine awOps_nil ?_)
              refine anyW_step [1] (by kernel_rfl) rfl ⟨⟨_, rfl, ?_⟩, trivial⟩
              ((try with_reducible intro KR hKR); (first | refine awOps_nc fun KK hKK => ?_ | refine awOps_gc rfl fun KK hKK => ?_); simp (disch := omega) only [bb, bt, zDs, zD, eqCells, simprocAttr, goC, callO_fn, argsD, and_self]); (refine ACall.of_fresh hCl (by first | (simp only [List.map_cons, List.map_nil, List.append_nil, List.nil_append, List.cons_append, ufa, uf]; done) | rfl) ?_); (simp (disch := omega) only [bb, bt, zDs, zD, eqCells, simprocAttr, afterC]; refine hKK _ ?_; clear hKK KK); (refine awOps_nil ?_)
              refine anyW_step [5] (by kernel_rfl) rfl ⟨⟨_, rfl, ?_⟩, trivial⟩
              ((try with_reducible intro KR hKR); (first | refine awOps_nc fun KK hKK => ?_ | refine awOps_gc rfl fun KK hKK => ?_); simp (disch := omega) only [bb, bt, zDs, zD, eqCells, simprocAttr, goC, callO_fn, argsD, and_self]); (refine delete_pair (bl := ⟨43, tt + 1 + 1, edC (edN E)⟩) (l := edN E) (k := k) rfl rfl (edN_len E) hlt ?_); (simp (disch := omega) only [bb, bt, zDs, zD, eqCells, simprocAttr, afterC]; refine hKK _ ?_; clear hKK KK); (refine awOps_nil ?_)
              refine anyW_step [6] (by kernel_rfl) rfl ⟨⟨_, rfl, ?_⟩, trivial⟩
              (refine awOps_n rfl fun KK hKK => ?_); (simp (disch := omega) only [bb, bt, zDs, zD, eqCells, simprocAttr]); (refine hKK _ ?_); clear hKK KK; (refine awOps_nil ?_)
              refine anyW_end (by kernel_rfl) (hKR _ ?_)
              ((refine wua_GXO ?_))
              refine ⟨(tt + 1 + 1 + 1, tt + 1 + 1 + 1), trivial, ?_⟩
              (simp (disch := omega) only [StLe, tmLe, hpLe_refl, hpLe, bl, bb, bt, zDs, zD, eqCells, simprocAttr])
        · (refine awOps_n rfl fun KK hKK => ?_); (simp (disch := omega) only [bb, bt, zDs, zD, eqCells, simprocAttr]); (refine hKK _ ?_); clear hKK KK; (refine awOps_nil ?_)
          refine anyW_step [0, 2, 4] (by kernel_rfl) rfl ⟨⟨_, rfl, ?_⟩, ⟨_, rfl, ?_⟩, ⟨_, rfl, ?_⟩, trivial⟩
          · (refine awOps_n rfl fun KK hKK => ?_); (simp (disch := omega) only [bb, bt, zDs, zD, eqCells, simprocAttr]); (refine hKK _ ?_); clear hKK KK; (refine awOps_nil ?_)
            refine anyW_step [1, 2, 4] (by kernel_rfl) rfl ⟨⟨_, rfl, ?_⟩, ⟨_, rfl, ?_⟩, ⟨_, rfl, ?_⟩, trivial⟩
            · ((try with_reducible intro KR hKR); (first | refine awOps_nc fun KK hKK => ?_ | refine awOps_gc rfl fun KK hKK => ?_); simp (disch := omega) only [bb, bt, zDs, zD, eqCells, simprocAttr, goC, callO_fn, argsD, and_self]); (refine ACall.of_fresh hCl (by first | (simp only [List.map_cons, List.map_nil, List.append_nil, List.nil_append, List.cons_append, ufa, uf]; done) | rfl) ?_); (simp (disch := omega) only [bb, bt, zDs, zD, eqCells, simprocAttr, afterC]; refine hKK _ ?_; clear hKK KK); (refine awOps_nil ?_)
              refine anyW_step [2, 4] (by kernel_rfl) rfl ⟨⟨_, rfl, ?_⟩, ⟨_, rfl, ?_⟩, trivial⟩
              · (refine awOps_n rfl fun KK hKK => ?_); (simp (disch := omega) only [bb, bt, zDs, zD, eqCells, simprocAttr]); (refine hKK _ ?_); clear hKK KK; (refine awOps_nil ?_)
                refine anyW_step [4] (by kernel_rfl) rfl ⟨⟨_, rfl, ?_⟩, trivial⟩
                (refine awOps_n rfl fun KK hKK => ?_); (simp (disch := omega) only [bb, bt, zDs, zD, eqCells, simprocAttr]); (refine hKK _ ?_); clear hKK KK; (refine awOps_nil ?_)
                refine anyW_step [5] (by kernel_rfl) rfl ⟨⟨_, rfl, ?_⟩, trivial⟩
                ((try with_reducible intro KR hKR); (first | refine awOps_nc fun KK hKK => ?_ | refine awOps_gc rfl fun KK hKK => ?_); simp (disch := omega) only [bb, bt, zDs, zD, eqCells, simprocAttr, goC, callO_fn, argsD, and_self]); (refine delete_pair (bl := ⟨43, tt + 1 + 1, edC (edN E)⟩) (l := edN E) (k := k) rfl rfl (edN_len E) hlt ?_); (simp (disch := omega) only [bb, bt, zDs, zD, eqCells, simprocAttr, afterC]; refine hKK _ ?_; clear hKK KK); (refine awOps_nil ?_)
                refine anyW_step [6] (by kernel_rfl) rfl ⟨⟨_, rfl, ?_⟩, trivial⟩
                (refine awOps_n rfl fun KK hKK => ?_); (simp (disch := omega) only [bb, bt, zDs, zD, eqCells, simprocAttr]); (refine hKK _ ?_); clear hKK KK; (refine awOps_nil ?_)
                refine anyW_end (by kernel_rfl) (hKR _ ?_)
                ((refine wua_GXO ?_))
                refine ⟨(tt + 1 + 1 + 1, tt + 1 + 1 + 1), trivial, ?_⟩
                (simp (disch := omega) only [StLe, tmLe, hpLe_refl, hpLe, bl, bb, bt, zDs, zD, eqCells, simprocAttr])
              · (refine awOps_n rfl fun KK hKK => ?_); (simp (disch := omega) only [bb, bt, zDs, zD, eqCells, simprocAttr]); (refine hKK _ ?_); clear hKK KK; (refine awOps_nil ?_)
                refine anyW_step [2] (by kernel_rfl) rfl ⟨⟨_, rfl, ?_⟩, trivial⟩
                (refine awOps_n rfl fun KK hKK => ?_); (simp (disch := omega) only [bb, bt, zDs, zD, eqCells, simprocAttr]); (refine hKK _ ?_); clear hKK KK; (refine awOps_nil ?_)
                refine anyW_step [5] (by kernel_rfl) rfl ⟨⟨_, rfl, ?_⟩, trivial⟩
                ((try with_reducible intro KR hKR); (first | refine awOps_nc fun KK hKK => ?_ | refine awOps_gc rfl fun KK hKK => ?_); simp (disch := omega) only [bb, bt, zDs, zD, eqCells, simprocAttr, goC, callO_fn, argsD, and_self]); (refine delete_pair (bl := ⟨43, tt + 1 + 1, edC (edN E)⟩) (l := edN E) (k := k) rfl rfl (edN_len E) hlt ?_); (simp (disch := omega) only [bb, bt, zDs, zD, eqCells, simprocAttr, afterC]; refine hKK _ ?_; clear hKK KK); (refine awOps_nil ?_)
                refine anyW_step [6] (by kernel_rfl) rfl ⟨⟨_, rfl, ?_⟩, trivial⟩
                (refine awOps_n rfl fun KK hKK => ?_); (simp (disch := omega) only [bb, bt, zDs, zD, eqCells, simprocAttr]); (refine hKK _ ?_); clear hKK KK; (refine awOps_nil ?_)
                refine anyW_end (by kernel_rfl) (hKR _ ?_)
                ((refine wua_GXO ?_))
                refine ⟨(tt + 1 + 1 + 1, tt + 1 + 1 + 1), trivial, ?_⟩
                (simp (disch := omega) only [StLe, tmLe, hpLe_refl, hpLe, bl, bb, bt, zDs, zD, eqCells, simprocAttr])
            · (refine awOps_n rfl fun KK hKK => ?_); (simp (disch := omega) only [bb, bt, zDs, zD, eqCells, simprocAttr]); (refine hKK _ ?_); clear hKK KK; (refine awOps_nil ?_)
              refine anyW_step [1, 4] (by kernel_rfl) rfl ⟨⟨_, rfl, ?_⟩, ⟨_, rfl, ?_⟩, trivial⟩
              · ((try with_reducible intro KR hKR); (first | refine awOps_nc fun KK hKK => ?_ | refine awOps_gc rfl fun KK hKK => ?_); simp (disch := omega) only [bb, bt, zDs, zD, eqCells, simprocAttr, goC, callO_fn, argsD, and_self]); (refine ACall.of_fresh hCl (by first | (simp only [List.map_cons, List.map_nil, List.append_nil, List.nil_append, List.cons_append, ufa, uf]; done) | rfl) ?_); (simp (disch := omega) only [bb, bt, zDs, zD, eqCells, simprocAttr, afterC]; refine hKK _ ?_; clear hKK KK); (refine awOps_nil ?_)
                refine anyW_step [4] (by kernel_rfl) rfl ⟨⟨_, rfl, ?_⟩, trivial⟩
                (refine awOps_n rfl fun KK hKK => ?_); (simp (disch := omega) only [bb, bt, zDs, zD, eqCells, simprocAttr]); (refine hKK _ ?_); clear hKK KK; (refine awOps_nil ?_)
                refine anyW_step [5] (by kernel_rfl) rfl ⟨⟨_, rfl, ?_⟩, trivial⟩
                ((try with_reducible intro KR hKR); (first | refine awOps_nc fun KK hKK => ?_ | refine awOps_gc rfl fun KK hKK => ?_); simp (disch := omega) only [bb, bt, zDs, zD, eqCells, simprocAttr, goC, callO_fn, argsD, and_self]); (refine delete_pair (bl := ⟨43, tt + 1 + 1, edC (edN E)⟩) (l := edN E) (k := k) rfl rfl (edN_len E) hlt ?_); (simp (disch := omega) only [bb, bt, zDs, zD, eqCells, simprocAttr, afterC]; refine hKK _ ?_; clear hKK KK); (refine awOps_nil ?_)
                refine anyW_step [6] (by kernel_rfl) rfl ⟨⟨_, rfl, ?_⟩, trivial⟩
                (refine awOps_n rfl fun KK hKK => ?_); (simp (disch := omega) only [bb, bt, zDs, zD, eqCells, simprocAttr]); (refine hKK _ ?_); clear hKK KK; (refine awOps_nil ?_)
                refine anyW_end (by kernel_rfl) (hKR _ ?_)
                ((refine wua_GXO ?_))
                refine ⟨(tt + 1 + 1 + 1, tt + 1 + 1 + 1), trivial, ?_⟩
                (simp (disch := omega) only [StLe, tmLe, hpLe_refl, hpLe, bl, bb, bt, zDs, zD, eqCells, simprocAttr])
              · (refine awOps_n rfl fun KK hKK => ?_); (simp (disch := omega) only [bb, bt, zDs, zD, eqCells, simprocAttr]); (refine hKK _ ?_); clear hKK KK; (refine awOps_nil ?_)
                refine anyW_step [1] (by kernel_rfl) rfl ⟨⟨_, rfl, ?_⟩, trivial⟩
                ((try with_reducible intro KR hKR); (first | refine awOps_nc fun KK hKK => ?_ | refine awOps_gc rfl fun KK hKK => ?_); simp (disch := omega) only [bb, bt, zDs, zD, eqCells, simprocAttr, goC, callO_fn, argsD, and_self]); (refine ACall.of_fresh hCl (by first | (simp only [List.map_cons, List.map_nil, List.append_nil, List.nil_append, List.cons_append, ufa, uf]; done) | rfl) ?_); (simp (disch := omega) only [bb, bt, zDs, zD, eqCells, simprocAttr, afterC]; refine hKK _ ?_; clear hKK KK); (refine awOps_nil ?_)
                refine anyW_step [5] (by kernel_rfl) rfl ⟨⟨_, rfl, ?_⟩, trivial⟩
                ((try with_reducible intro KR hKR); (first | refine awOps_nc fun KK hKK => ?_ | refine awOps_gc rfl fun KK hKK => ?_); simp (disch := omega) only [bb, bt, zDs, zD, eqCells, simprocAttr, goC, callO_fn, argsD, and_self]); (refine delete_pair (bl := ⟨43, tt + 1 + 1, edC (edN E)⟩) (l := edN E) (k := k) rfl rfl (edN_len E) hlt ?_); (simp (disch := omega) only [bb, bt, zDs, zD, eqCells, simprocAttr, afterC]; refine hKK _ ?_; clear hKK KK); (refine awOps_nil ?_)
                refine anyW_step [6] (by kernel_rfl) rfl ⟨⟨_, rfl, ?_⟩, trivial⟩
                (refine awOps_n rfl fun KK hKK => ?_); (simp (disch := omega) only [bb, bt, zDs, zD, eqCells, simprocAttr]); (refine hKK _ ?_); clear hKK KK; (refine awOps_nil ?_)
                refine anyW_end (by kernel_rfl) (hKR _ ?_)
                ((refine wua_GXO ?_))
                refine ⟨(tt + 1 + 1 + 1, tt + 1 + 1 + 1), trivial, ?_⟩
                (simp (disch := omega) only [StLe, tmLe, hpLe_refl, hpLe, bl, bb, bt, zDs, zD, eqCells, simprocAttr])
            · (refine awOps_n rfl fun KK hKK => ?_); (simp (disch := omega) only [bb, bt, zDs, zD, eqCells, simprocAttr]); (refine hKK _ ?_); clear hKK KK; (refine awOps_nil ?_)
              refine anyW_step [1, 2] (by kernel_rfl) rfl ⟨⟨_, rfl, ?_⟩, ⟨_, rfl, ?_⟩, trivial⟩
              · ((try with_reducible intro KR hKR); (first | refine awOps_nc fun KK hKK => ?_ | refine awOps_gc rfl fun KK hKK => ?_); simp (disch := omega) only [bb, bt, zDs, zD, eqCells, simprocAttr, goC, callO_fn, argsD, and_self]); (refine ACall.of_fresh hCl (by first | (simp only [List.map_cons, List.map_nil, List.append_nil, List.nil_append, List.cons_append, ufa, uf]; done) | rfl) ?_); (simp (disch := omega) only [bb, bt, zDs, zD, eqCells, simprocAttr, afterC]; refine hKK _ ?_; clear hKK KK); (refine awOps_nil ?_)
                refine anyW_step [2] (by kernel_rfl) rfl ⟨⟨_, rfl, ?_⟩, trivial⟩
                (refine awOps_n rfl fun KK hKK => ?_); (simp (disch := omega) only [bb, bt, zDs, zD, eqCells, simprocAttr]); (refine hKK _ ?_); clear hKK KK; (refine awOps_nil ?_)
                refine anyW_step [5] (by kernel_rfl) rfl ⟨⟨_, rfl, ?_⟩, trivial⟩
                ((try with_reducible intro KR hKR); (first | refine awOps_nc fun KK hKK => ?_ | refine awOps_gc rfl fun KK hKK => ?_); simp (disch := omega) only [bb, bt, zDs, zD, eqCells, simprocAttr, goC, callO_fn, argsD, and_self]); (refine delete_pair (bl := ⟨43, tt + 1 + 1, edC (edN E)⟩) (l := edN E) (k := k) rfl rfl (edN_len E) hlt ?_); (simp (disch := omega) only [bb, bt, zDs, zD, eqCells, simprocAttr, afterC]; refine hKK _ ?_; clear hKK KK); (refine awOps_nil ?_)
                refine anyW_step [6] (by kernel_rfl) rfl ⟨⟨_, rfl, ?_⟩, trivial⟩
                (refine awOps_n rfl fun KK hKK => ?_); (simp (disch := omega) only [bb, bt, zDs, zD, eqCells, simprocAttr]); (refine hKK _ ?_); clear hKK KK; (refine awOps_nil ?_)
                refine anyW_end (by kernel_rfl) (hKR _ ?_)
                ((refine wua_GXO ?_))
                refine ⟨(tt + 1 + 1 + 1, tt + 1 + 1 + 1), trivial, ?_⟩
                (simp (disch := omega) only [StLe, tmLe, hpLe_refl, hpLe, bl, bb, bt, zDs, zD, eqCells, simprocAttr])
              · (refine awOps_n rfl fun KK hKK => ?_); (simp (disch := omega) only [bb, bt, zDs, zD, eqCells, simprocAttr]); (refine hKK _ ?_); clear hKK KK; (refine awOps_nil ?_)
                refine anyW_step [1] (by kernel_rfl) rfl ⟨⟨_, rfl, ?_⟩, trivial⟩
                ((try with_reducible intro KR hKR); (first | refine awOps_nc fun KK hKK => ?_ | refine awOps_gc rfl fun KK hKK => ?_); simp (disch := omega) only [bb, bt, zDs, zD, eqCells, simprocAttr, goC, callO_fn, argsD, and_self]); (refine ACall.of_fresh hCl (by first | (simp only [List.map_cons, List.map_nil, List.append_nil, List.nil_append, List.cons_append, ufa, uf]; done) | rfl) ?_); (simp (disch := omega) only [bb, bt, zDs, zD, eqCells, simprocAttr, afterC]; refine hKK _ ?_; clear hKK KK); (refine awOps_nil ?_)
                refine anyW_step [5] (by kernel_rfl) rfl ⟨⟨_, rfl, ?_⟩, trivial⟩
                ((try with_reducible intro KR hKR); (first | refine awOps_nc fun KK hKK => ?_ | refine awOps_gc rfl fun KK hKK => ?_); simp (disch := omega) only [bb, bt, zDs, zD, eqCells, simprocAttr, goC, callO_fn, argsD, and_self]); (refine delete_pair (bl := ⟨43, tt + 1 + 1, edC (edN E)⟩) (l := edN E) (k := k) rfl rfl (edN_len E) hlt ?_); (simp (disch := omega) only [bb, bt, zDs, zD, eqCells, simprocAttr, afterC]; refine hKK _ ?_; clear hKK KK); (refine awOps_nil ?_)
                refine anyW_step [6] (by kernel_rfl) rfl ⟨⟨_, rfl, ?_⟩, trivial⟩
                (refine awOps_n rfl fun KK hKK => ?_); (simp (disch := omega) only [bb, bt, zDs, zD, eqCells, simprocAttr]); (refine hKK _ ?_); clear hKK KK; (refine awOps_nil ?_)
                refine anyW_end (by kernel_rfl) (hKR _ ?_)
                ((refine wua_GXO ?_))
                refine ⟨(tt + 1 + 1 + 1, tt + 1 + 1 + 1), trivial, ?_⟩
                (simp (disch := omega) only [StLe, tmLe, hpLe_refl, hpLe, bl, bb, bt, zDs, zD, eqCells, simprocAttr])
          · (refine awOps_n rfl fun KK hKK => ?_); (simp (disch := omega) only [bb, bt, zDs, zD, eqCells, simprocAttr]); (refine hKK _ ?_); clear hKK KK; (refine awOps_nil ?_)
            refine anyW_step [0, 4] (by kernel_rfl) rfl ⟨⟨_, rfl, ?_⟩, ⟨_, rfl, ?_⟩, trivial⟩
            · (refine awOps_n rfl fun KK hKK => ?_); (simp (disch := omega) only [bb, bt, zDs, zD, eqCells, simprocAttr]); (refine hKK _ ?_); clear hKK KK; (refine awOps_nil ?_)
              refine anyW_step [1, 4] (by kernel_rfl) rfl ⟨⟨_, rfl, ?_⟩, ⟨_, rfl, ?_⟩, trivial⟩
              · ((try with_reducible intro KR hKR); (first | refine awOps_nc fun KK hKK => ?_ | refine awOps_gc rfl fun KK hKK => ?_); simp (disch := omega) only [bb, bt, zDs, zD, eqCells, simprocAttr, goC, callO_fn, argsD, and_self]); (refine ACall.of_fresh hCl (by first | (simp only [List.map_cons, List.map_nil, List.append_nil, List.nil_append, List.cons_append, ufa, uf]; done) | rfl) ?_); (simp (disch := omega) only [bb, bt, zDs, zD, eqCells, simprocAttr, afterC]; refine hKK _ ?_; clear hKK KK); (refine awOps_nil ?_)
                refine anyW_step [4] (by kernel_rfl) rfl ⟨⟨_, rfl, ?_⟩, trivial⟩
                (refine awOps_n rfl fun KK hKK => ?_); (simp (disch := omega) only [bb, bt, zDs, zD, eqCells, simprocAttr]); (refine hKK _ ?_); clear hKK KK; (refine awOps_nil ?_)
                refine anyW_step [5] (by kernel_rfl) rfl ⟨⟨_, rfl, ?_⟩, trivial⟩
                ((try with_reducible intro KR hKR); (first | refine awOps_nc fun KK hKK => ?_ | refine awOps_gc rfl fun KK hKK => ?_); simp (disch := omega) only [bb, bt, zDs, zD, eqCells, simprocAttr, goC, callO_fn, argsD, and_self]); (refine delete_pair (bl := ⟨43, tt + 1 + 1, edC (edN E)⟩) (l := edN E) (k := k) rfl rfl (edN_len E) hlt ?_); (simp (disch := omega) only [bb, bt, zDs, zD, eqCells, simprocAttr, afterC]; refine hKK _ ?_; clear hKK KK); (refine awOps_nil ?_)
                refine anyW_step [6] (by kernel_rfl) rfl ⟨⟨_, rfl, ?_⟩, trivial⟩
                (refine awOps_n rfl fun KK hKK => ?_); (simp (disch := omega) only [bb, bt, zDs, zD, eqCells, simprocAttr]); (refine hKK _ ?_); clear hKK KK; (refine awOps_nil ?_)
                refine anyW_end (by kernel_rfl) (hKR _ ?_)
                ((refine wua_GXO ?_))
                refine ⟨(tt + 1 + 1 + 1, tt + 1 + 1 + 1), trivial, ?_⟩
                (simp (disch := omega) only [StLe, tmLe, hpLe_refl, hpLe, bl, bb, bt, zDs, zD, eqCells, simprocAttr])
              · (refine awOps_n rfl fun KK hKK => ?_); (simp (disch := omega) only [bb, bt, zDs, zD, eqCells, simprocAttr]); (refine hKK _ ?_); clear hKK KK; (refine awOps_nil ?_)
                refine anyW_step [1] (by kernel_rfl) rfl ⟨⟨_, rfl, ?_⟩, trivial⟩
                ((try with_reducible intro KR hKR); (first | refine awOps_nc fun KK hKK => ?_ | refine awOps_gc rfl fun KK hKK => ?_); simp (disch := omega) only [bb, bt, zDs, zD, eqCells, simprocAttr, goC, callO_fn, argsD, and_self]); (refine ACall.of_fresh hCl (by first | (simp only [List.map_cons, List.map_nil, List.append_nil, List.nil_append, List.cons_append, ufa, uf]; done) | rfl) ?_); (simp (disch := omega) only [bb, bt, zDs, zD, eqCells, simprocAttr, afterC]; refine hKK _ ?_; clear hKK KK); (refine awOps_nil ?_)
                refine anyW_step [5] (by kernel_rfl) rfl ⟨⟨_, rfl, ?_⟩, trivial⟩
                ((try with_reducible intro KR hKR); (first | refine awOps_nc fun KK hKK => ?_ | refine awOps_gc rfl fun KK hKK => ?_); simp (disch := omega) only [bb, bt, zDs, zD, eqCells, simprocAttr, goC, callO_fn, argsD, and_self]); (refine delete_pair (bl := ⟨43, tt + 1 + 1, edC (edN E)⟩) (l := edN E) (k := k) rfl rfl (edN_len E) hlt ?_); (simp (disch := omega) only [bb, bt, zDs, zD, eqCells, simprocAttr, afterC]; refine hKK _ ?_; clear hKK KK); (refine awOps_nil ?_)
                refine anyW_step [6] (by kernel_rfl) rfl ⟨⟨_, rfl, ?_⟩, trivial⟩
                (refine awOps_n rfl fun KK hKK => ?_); (simp (disch := omega) only [bb, bt, zDs, zD, eqCells, simprocAttr]); (refine hKK _ ?_); clear hKK KK; (refine awOps_nil ?_)
                refine anyW_end (by kernel_rfl) (hKR _ ?_)
                ((refine wua_GXO ?_))
                refine ⟨(tt + 1 + 1 + 1, tt + 1 + 1 + 1), trivial, ?_⟩
                (simp (disch := omega) only [StLe, tmLe, hpLe_refl, hpLe, bl, bb, bt, zDs, zD, eqCells, simprocAttr])
            · (refine awOps_n rfl fun KK hKK => ?_); (simp (disch := omega) only [bb, bt, zDs, zD, eqCells, simprocAttr]); (refine hKK _ ?_); clear hKK KK; (refine awOps_nil ?_)
              refine anyW_step [0] (by kernel_rfl) rfl ⟨⟨_, rfl, ?_⟩, trivial⟩
              (refine awOps_n rfl fun KK hKK => ?_); (simp (disch := omega) only [bb, bt, zDs, zD, eqCells, simprocAttr]); (refine hKK _ ?_); clear hKK KK; (refine awOps_nil ?_)
              refine anyW_step [1] (by kernel_rfl) rfl ⟨⟨_, rfl, ?_⟩, trivial⟩
              ((try with_reducible intro KR hKR); (first | refine awOps_nc fun KK hKK => ?_ | refine awOps_gc rfl fun KK hKK => ?_); simp (disch := omega) only [bb, bt, zDs, zD, eqCells, simprocAttr, goC, callO_fn, argsD, and_self]); (refine ACall.of_fresh hCl (by first | (simp only [List.map_cons, List.map_nil, List.append_nil, List.nil_append, List.cons_append, ufa, uf]; done) | rfl) ?_); (simp (disch := omega) only [bb, bt, zDs, zD, eqCells, simprocAttr, afterC]; refine hKK _ ?_; clear hKK KK); (refine awOps_nil ?_)
              refine anyW_step [5] (by kernel_rfl) rfl ⟨⟨_, rfl, ?_⟩, trivial⟩
              ((try with_reducible intro KR hKR); (first | refine awOps_nc fun KK hKK => ?_ | refine awOps_gc rfl fun KK hKK => ?_); simp (disch := omega) only [bb, bt, zDs, zD, eqCells, simprocAttr, goC, callO_fn, argsD, and_self]); (refine delete_pair (bl := ⟨43, tt + 1 + 1, edC (edN E)⟩) (l := edN E) (k := k) rfl rfl (edN_len E) hlt ?_); (simp (disch := omega) only [bb, bt, zDs, zD, eqCells, simprocAttr, afterC]; refine hKK _ ?_; clear hKK KK); (refine awOps_nil ?_)
              refine anyW_step [6] (by kernel_rfl) rfl ⟨⟨_, rfl, ?_⟩, trivial⟩
              (refine awOps_n rfl fun KK hKK => ?_); (simp (disch := omega) only [bb, bt, zDs, zD, eqCells, simprocAttr]); (refine hKK _ ?_); clear hKK KK; (refine awOps_nil ?_)
              refine anyW_end (by kernel_rfl) (hKR _ ?_)
              ((refine wua_GXO ?_))
              refine ⟨(tt + 1 + 1 + 1, tt + 1 + 1 + 1), trivial, ?_⟩
              (simp (disch := omega) only [StLe, tmLe, hpLe_refl, hpLe, bl, bb, bt, zDs, zD, eqCells, simprocAttr])
          · (refine awOps_n rfl fun KK hKK => ?_); (simp (disch := omega) only [bb, bt, zDs, zD, eqCells, simprocAttr]); (refine hKK _ ?_); clear hKK KK; (refine awOps_nil ?_)
            refine anyW_step [0, 2] (by kernel_rfl) rfl ⟨⟨_, rfl, ?_⟩, ⟨_, rfl, ?_⟩, trivial⟩
            · (refine awOps_n rfl fun KK hKK => ?_); (simp (disch := omega) only [bb, bt, zDs, zD, eqCells, simprocAttr]); (refine hKK _ ?_); clear hKK KK; (refine awOps_nil ?_)
              refine anyW_step [1, 2] (by kernel_rfl) rfl ⟨⟨_, rfl, ?_⟩, ⟨_, rfl, ?_⟩, trivial⟩
              · ((try with_reducible intro KR hKR); (first | refine awOps_nc fun KK hKK => ?_ | refine awOps_gc rfl fun KK hKK => ?_); simp (disch := omega) only [bb, bt, zDs, zD, eqCells, simprocAttr, goC, callO_fn, argsD, and_self]); (refine ACall.of_fresh hCl (by first | (simp only [List.map_cons, List.map_nil, List.append_nil, List.nil_append, List.cons_append, ufa, uf]; done) | rfl) ?_); (simp (disch := omega) only [bb, bt, zDs, zD, eqCells, simprocAttr, afterC]; refine hKK _ ?_; clear hKK KK); (refine awOps_nil ?_)
                refine anyW_step [2] (by kernel_rfl) rfl ⟨⟨_, rfl, ?_⟩, trivial⟩
                (refine awOps_n rfl fun KK hKK => ?_); (simp (disch := omega) only [bb, bt, zDs, zD, eqCells, simprocAttr]); (refine hKK _ ?_); clear hKK KK; (refine awOps_nil ?_)
                refine anyW_step [5] (by kernel_rfl) rfl ⟨⟨_, rfl, ?_⟩, trivial⟩
                ((try with_reducible intro KR hKR); (first | refine awOps_nc fun KK hKK => ?_ | refine awOps_gc rfl fun KK hKK => ?_); simp (disch := omega) only [bb, bt, zDs, zD, eqCells, simprocAttr, goC, callO_fn, argsD, and_self]); (refine delete_pair (bl := ⟨43, tt + 1 + 1, edC (edN E)⟩) (l := edN E) (k := k) rfl rfl (edN_len E) hlt ?_); (simp (disch := omega) only [bb, bt, zDs, zD, eqCells, simprocAttr, afterC]; refine hKK _ ?_; clear hKK KK); (refine awOps_nil ?_)
                refine anyW_step [6] (by kernel_rfl) rfl ⟨⟨_, rfl, ?_⟩, trivial⟩
                (refine awOps_n rfl fun KK hKK => ?_); (simp (disch := omega) only [bb, bt, zDs, zD, eqCells, simprocAttr]); (refine hKK _ ?_); clear hKK KK; (refine awOps_nil ?_)
                refine anyW_end (by kernel_rfl) (hKR _ ?_)
                ((refine wua_GXO ?_))
                refine ⟨(tt + 1 + 1 + 1, tt + 1 + 1 + 1), trivial, ?_⟩
                (simp (disch := omega) only [StLe, tmLe, hpLe_refl, hpLe, bl, bb, bt, zDs, zD, eqCells, simprocAttr])
              · (refine awOps_n rfl fun KK hKK => ?_); (simp (disch := omega) only [bb, bt, zDs, zD, eqCells, simprocAttr]); (refine hKK _ ?_); clear hKK KK; (refine awOps_nil ?_)
                refine anyW_step [1] (by kernel_rfl) rfl ⟨⟨_, rfl, ?_⟩, trivial⟩
                ((try with_reducible intro KR hKR); (first | refine awOps_nc fun KK hKK => ?_ | refine awOps_gc rfl fun KK hKK => ?_); simp (disch := omega) only [bb, bt, zDs, zD, eqCells, simprocAttr, goC, callO_fn, argsD, and_self]); (refine ACall.of_fresh hCl (by first | (simp only [List.map_cons, List.map_nil, List.append_nil, List.nil_append, List.cons_append, ufa, uf]; done) | rfl) ?_); (simp (disch := omega) only [bb, bt, zDs, zD, eqCells, simprocAttr, afterC]; refine hKK _ ?_; clear hKK KK); (refine awOps_nil ?_)
                refine anyW_step [5] (by kernel_rfl) rfl ⟨⟨_, rfl, ?_⟩, trivial⟩
                ((try with_reducible intro KR hKR); (first | refine awOps_nc fun KK hKK => ?_ | refine awOps_gc rfl fun KK hKK => ?_); simp (disch := omega) only [bb, bt, zDs, zD, eqCells, simprocAttr, goC, callO_fn, argsD, and_self]); (refine delete_pair (bl := ⟨43, tt + 1 + 1, edC (edN E)⟩) (l := edN E) (k := k) rfl rfl (edN_len E) hlt ?_); (simp (disch := omega) only [bb, bt, zDs, zD, eqCells, simprocAttr, afterC]; refine hKK _ ?_; clear hKK KK); (refine awOps_nil ?_)
                refine anyW_step [6] (by kernel_rfl) rfl ⟨⟨_, rfl, ?_⟩, trivial⟩
                (refine awOps_n rfl fun KK hKK => ?_); (simp (disch := omega) only [bb, bt, zDs, zD, eqCells, simprocAttr]); (refine hKK _ ?_); clear hKK KK; (refine awOps_nil ?_)
                refine anyW_end (by kernel_rfl) (hKR _ ?_)
                ((refine wua_GXO ?_))
                refine ⟨(tt + 1 + 1 + 1, tt + 1 + 1 + 1), trivial, ?_⟩
                (simp (disch := omega) only [StLe, tmLe, hpLe_refl, hpLe, bl, bb, bt, zDs, zD, eqCells, simprocAttr])
            · (refine awOps_n rfl fun KK hKK => ?_); (simp (disch := omega) only [bb, bt, zDs, zD, eqCells, simprocAttr]); (refine hKK _ ?_); clear hKK KK; (refine awOps_nil ?_)
              refine anyW_step [0] (by kernel_rfl) rfl ⟨⟨_, rfl, ?_⟩, trivial⟩
              (refine awOps_n rfl fun KK hKK => ?_); (simp (disch := omega) only [bb, bt, zDs, zD, eqCells, simprocAttr]); (refine hKK _ ?_); clear hKK KK; (refine awOps_nil ?_)
              refine anyW_step [1] (by kernel_rfl) rfl ⟨⟨_, rfl, ?_⟩, trivial⟩
              ((try with_reducible intro KR hKR); (first | refine awOps_nc fun KK hKK => ?_ | refine awOps_gc rfl fun KK hKK => ?_); simp (disch := omega) only [bb, bt, zDs, zD, eqCells, simprocAttr, goC, callO_fn, argsD, and_self]); (refine ACall.of_fresh hCl (by first | (simp only [List.map_cons, List.map_nil, List.append_nil, List.nil_append, List.cons_append, ufa, uf]; done) | rfl) ?_); (simp (disch := omega) only [bb, bt, zDs, zD, eqCells, simprocAttr, afterC]; refine hKK _ ?_; clear hKK KK); (refine awOps_nil ?_)
              refine anyW_step [5] (by kernel_rfl) rfl ⟨⟨_, rfl, ?_⟩, trivial⟩
              ((try with_reducible intro KR hKR); (first | refine awOps_nc fun KK hKK => ?_ | refine awOps_gc rfl fun KK hKK => ?_); simp (disch := omega) only [bb, bt, zDs, zD, eqCells, simprocAttr, goC, callO_fn, argsD, and_self]); (refine delete_pair (bl := ⟨43, tt + 1 + 1, edC (edN E)⟩) (l := edN E) (k := k) rfl rfl (edN_len E) hlt ?_); (simp (disch := omega) only [bb, bt, zDs, zD, eqCells, simprocAttr, afterC]; refine hKK _ ?_; clear hKK KK); (refine awOps_nil ?_)
              refine anyW_step [6] (by kernel_rfl) rfl ⟨⟨_, rfl, ?_⟩, trivial⟩
              (refine awOps_n rfl fun KK hKK => ?_); (simp (disch := omega) only [bb, bt, zDs, zD, eqCells, simprocAttr]); (refine hKK _ ?_); clear hKK KK; (refine awOps_nil ?_)
              refine anyW_end (by kernel_rfl) (hKR _ ?_)
              ((refine wua_GXO ?_))
              refine ⟨(tt + 1 + 1 + 1, tt + 1 + 1 + 1), trivial, ?_⟩
              (simp (disch := omega) only [StLe, tmLe, hpLe_refl, hpLe, bl, bb, bt, zDs, zD, eqCells, simprocAttr])
      rintro ⟨g, t2⟩ -
      have herl : (E.eraseIdx k).length = E.length - 1 := List.length_eraseIdx_of_lt hlt
      rw [edN_erase]
      have hsc : (edC (edN (E.eraseIdx k))).length = (E.length - 1) * 2 := by rw [edC_len, edN_len, herl]
      have htk : List.take ((E.length - 1) * 2) (edC (edN (E.eraseIdx k))) = edC (edN (E.eraseIdx k)) := List.take_of_length_le (by omega)
      ((refine AW.freeze (1) (by first | rfl | (simp only [setH, List.getElem?_cons_zero, List.getElem?_cons_succ, fz_ed, htk, hsc, Nat.le_refl, ↓reduceIte]; done)) ?_); simp (disch := omega) only [fzT, fz, fzL, fzL_ints, fzL_mat, fzH, fzB, eq_self, bb, bt, zDs, zD, eqCells, simprocAttr, fz_ed, htk, hsc, Nat.le_refl, ↓reduceIte])
      have hoE := ho.erase k
      have hvE := valid_ok hoE hm (by omega)
      have h4 := partsG m (E.eraseIdx k) hoE hvE hm (by omega)
      have h5 := countG m (E.eraseIdx k) hoE hvE hm (by omega)
      have hre := roots_erase ho hab
      have u1 := euler_parts ho
      have u2 := euler_cycles E
      have u3 := euler_parts hoE
      have u4 := euler_cycles (E.eraseIdx k)
      have u5 := cycles_len (E.eraseIdx k)
      have hbp : bridgeP E k = (lab (E.eraseIdx k) a != lab (E.eraseIdx k) b) := by unfold bridgeP; rw [hab]
      rw [← hbp, ← partsP_len, ← partsP_len] at hre
      have hpl := parts_len m E
      cases hb : bridgeP E k
      · rw [hb] at hre
        simp only [Bool.false_eq_true, ↓reduceIte, Nat.add_zero] at hre
        have hcon : Con (E.eraseIdx k) a b := Classical.byContradiction fun h => by
          have := (bridge_iff hab).2 h
          rw [hb] at this
          cases this
        rw [partsP_congr (con_erase ho hab hcon)] at h4
        have h6 := sameNat (partsP m E) (partsP m E) (by omega) (by omega) fun r h => by have := parts_row h; omega
        rw [beq_self_eq_true] at h6
        have f1 : (((restP (E.eraseIdx k)).length : Int) != ((cyclesP E).length : Int) - 1) = false := by simp; omega
        ((refine ggb3 f1 h4 h5 h6 ?_))
        refine ⟨(k + 1, t2), hlt, by show E.length - (k + 1) < E.length - k; omega, ?_⟩
        (simp (disch := omega) only [StLe, tmLe, hpLe_refl, hpLe, bl, bb, bt, zDs, zD, eqCells, simprocAttr])
      · rw [hb] at hre
        simp only [↓reduceIte] at hre
        have f1 : (((partsP m (E.eraseIdx k)).length : Int) != ((partsP m E).length : Int) + 1) = false := by simp; omega
        have f2 : (((restP (E.eraseIdx k)).length : Int) != ((cyclesP E).length : Int)) = false := by simp; omega
        ((refine ggb2 (F := _∧_) ⟨f1, f2⟩ h4 h5 ?_))
        refine ⟨(k + 1, t2), hlt, by show E.length - (k + 1) < E.length - k; omega, ?_⟩
        (simp (disch := omega) only [StLe, tmLe, hpLe_refl, hpLe, bl, bb, bt, zDs, zD, eqCells, simprocAttr])
    · have hke : k = E.length := by omega
      subst hke
      ((refine ggb0 @Int.lt_irrefl ?_))
      refine ⟨tt, trivial, ?_⟩
      (simp (disch := omega) only [StLe, tmLe, hpLe_refl, hpLe, bl, bb, bt, zDs, zD, eqCells, simprocAttr])
  rintro w -
  ((refine ggb0 (F := _∧_∧_) ⟨hble, hdiv, hBl⟩ ?_))
  ((repeat refine AW_seq ?_); (refine wta ?_); simp (disch := omega) only [retQ, resD, oneD, rsv, rs, rsL, rsL_eq_map, List.map_map, bb, bt, zDs, zD, eqCells, simprocAttr, Try.results8])
end Go.Proofs.Ytalhegbjlfkipaa.T
end
