import Derived.Test.YtcjmknmlfggblaaTC
import Derived.Test.YtcjmknmlfggblaaWY
import Derived.Test.YtcjmknmlfggblaaWV
import Derived.Test.YtcjmknmlfggblaaWU
import Derived.Test.YtcjmknmlfggblaaWS
import Derived.Test.YtcjmknmlfggblaaWO
set_option linter.all false
namespace Go.Proofs.Ytcjmknmlfggblaa.T
open Go Go.RowKit Lin
set_option linter.unusedSimpArgs false

theorem indS_mem (rk : Nat → Nat) (k : Nat) : ∀ n, k ∈ (indS rk n).1 ↔ k < n ∧ (indS rk k).2 < rk (k + 1)
  | 0 => by simp [indS]
  | n + 1 => by
    have ih := indS_mem rk k n
    simp only [indS]
    split
    · rename_i h
      rw [List.mem_append, ih, List.mem_singleton]
      constructor
      · rintro (⟨h1, h2⟩ | rfl)
        · exact ⟨by omega, h2⟩
        · exact ⟨by omega, h⟩
      · rintro ⟨h1, h2⟩
        by_cases e : k = n
        · exact .inr e
        · exact .inl ⟨by omega, h2⟩
    · rename_i h
      rw [ih]
      constructor
      · rintro ⟨h1, h2⟩; exact ⟨by omega, h2⟩
      · rintro ⟨h1, h2⟩
        by_cases e : k = n
        · subst e; exact absurd h2 h
        · exact ⟨by omega, h2⟩
theorem indS_up (rk : Nat → Nat) : ∀ n, ((indS rk n).1).Pairwise (· < ·)
  | 0 => by simp [indS]
  | n + 1 => by
    have ih := indS_up rk n
    simp only [indS]
    split
    · rw [List.pairwise_append]
      refine ⟨ih, by simp, fun a ha b hb => ?_⟩
      simp only [List.mem_singleton] at hb
      subst hb
      exact ((indS_mem rk a b).1 ha).1
    · exact ih
theorem sortedP_nat (l : List Nat) (h : l.Pairwise (· < ·)) : sortedP (l.map fun x : Nat => (x : Int)) = true := by
  unfold sortedP
  rw [List.all_eq_true]
  intro i hi
  rw [List.mem_range, List.length_map] at hi
  have h1 : i + 1 < l.length := by omega
  have h2 : i < l.length := by omega
  have := List.pairwise_iff_getElem.1 h i (i + 1) h2 h1 (by omega)
  simp only [List.getElem?_map, List.getElem?_eq_getElem h1, List.getElem?_eq_getElem h2, Option.map_some, Option.getD_some, Bool.not_eq_true', decide_eq_false_iff_not]
  omega
theorem ind_rank {m : List (List Int)} (hv : validP m = true) : (indP m).length = rankP m (wid m) := by
  have h := (kept_rank (valid_small hv) m.length (Nat.le_refl _)).1
  rw [List.take_of_length_le (Nat.le_refl _)] at h
  rw [← h]
  simp [kept, indP]
theorem ind_mem {m : List (List Int)} (hv : validP m = true) {k : Nat} (hk : k < m.length) : (indP m).contains k = decide (rankP (m.take k) (wid m) < rankP (m.take (k + 1)) (wid m)) := by
  rw [Bool.eq_iff_iff, List.contains_iff_mem, decide_eq_true_eq]
  unfold indP
  rw [indS_mem, indS_rank (valid_small hv) k]
  exact ⟨fun h => h.2, fun h => ⟨hk, h⟩⟩
theorem sub_valid {m l : List (List Int)} (hv : validP m = true) (h0 : 1 ≤ l.length) (hl : l.length ≤ m.length) (hm : ∀ r ∈ l, r ∈ m) : validP l = true ∧ wid l = wid m := by
  obtain ⟨h1, h2, h3⟩ := validP_iff.1 hv
  have hw : wid l = wid m := by
    cases l with
    | nil => simp at h0
    | cons a b => exact (h3 a (hm a (by simp))).1
  refine ⟨validP_iff.2 ⟨⟨h0, by omega⟩, by rw [hw]; exact h2, fun r hr => ?_⟩, hw⟩
  rw [hw]
  exact h3 r (hm r hr)
set_option maxHeartbeats 2000000 in
theorem depends (m : List (List Int)) : PRet Try.prog 7 [mat m] (bool true) := by
  refine PRet.intro 1 fun t => ACall.enter tab_ok Try.func7 rfl rfl Try.ntmps7 (by simp) ?_
  simp only [enterTM]
  cases hlg : longP m
  rotate_left 1
  · ((repeat' (first | ((with_reducible refine at_ops ?_); (first | ((first | refine awOps_n rfl fun KK hKK => ?_ | refine awOps_g rfl rfl fun KK hKK => ?_ | refine awOps_gc rfl fun KK hKK => ?_); simp (disch := omega) only [bb, bt, zDs, zD, eqCells, ↓reduceIte, reduceCtorEq, Nat.reduceAdd, Nat.reduceMul, Nat.reduceDiv, Nat.reduceSub, Nat.reduceEqDiff, Nat.reduceLT, Nat.reduceLeDiff, Int.reduceToNat, Int.reduceLE, Int.reduceLT, hlg, bne_self_eq_false, Int.reduceBNe, Int.reduceBEq, Bool.bne_false, Bool.bne_true, Bool.false_bne, Bool.true_bne]; refine hKK _ ?_; clear hKK KK) | (refine awOps_nil ?_); (refine hKR _ ?_); clear hKR KR; (repeat (first | refine q1 ?_ | refine q2 ?_ | refine q3 ?_ | refine q4 ?_ | refine q5 ?_ | refine q6 ?_ | refine q7 rfl ?_)) | ((first | refine awOps_nc fun KK hKK => ?_ | refine awOps_gc rfl fun KK hKK => ?_); simp (disch := omega) only [bb, bt, zDs, zD, eqCells, ↓reduceIte, reduceCtorEq, Nat.reduceAdd, Nat.reduceMul, Nat.reduceDiv, Nat.reduceSub, Nat.reduceEqDiff, Nat.reduceLT, Nat.reduceLeDiff, Int.reduceToNat, Int.reduceLE, Int.reduceLT, hlg, bne_self_eq_false, Int.reduceBNe, Int.reduceBEq, Bool.bne_false, Bool.bne_true, Bool.false_bne, Bool.true_bne, goC, callO_fn, argsD, and_self]; (first | ((with_reducible refine ACall.of_pret (awake) ?_ ?_); (focus (first | (simp only [List.map_cons, List.map_nil, List.append_nil, List.nil_append, List.cons_append, ufa, uf]; done) | rfl))) | ((with_reducible refine ACall.of_pret (long m) ?_ ?_); (focus (first | (simp only [List.map_cons, List.map_nil, List.append_nil, List.nil_append, List.cons_append, ufa, uf]; done) | rfl)))); simp only [afterC, St.put, putTM, ↓reduceIte, Nat.reduceEqDiff]; refine hKK _ ?_; clear hKK KK))) | (with_reducible refine AW_seq ?_) | (with_reducible refine AW_region_k tab_ok fun KR hKR => ?_) | ((with_reducible refine AW_cond_k (tab := tab) fun KK hKK => ?_); simp (disch := omega) only [bb, bt, zDs, zD, eqCells, ↓reduceIte, reduceCtorEq, Nat.reduceAdd, Nat.reduceMul, Nat.reduceDiv, Nat.reduceSub, Nat.reduceEqDiff, Nat.reduceLT, Nat.reduceLeDiff, Int.reduceToNat, Int.reduceLE, Int.reduceLT, hlg, bne_self_eq_false, Int.reduceBNe, Int.reduceBEq, Bool.bne_false, Bool.bne_true, Bool.false_bne, Bool.true_bne]; refine hKK _ ?_; clear hKK KK; (first | refine i1 ?_ | refine i0 ?_)) | ((with_reducible refine AW_skip ?_); (repeat (first | refine q1 ?_ | refine q2 ?_ | refine q3 ?_ | refine q4 ?_ | refine q5 ?_ | refine q6 ?_ | refine q7 rfl ?_))) | ((with_reducible refine AW_exit ?_); (repeat (first | refine q1 ?_ | refine q2 ?_ | refine q3 ?_ | refine q4 ?_ | refine q5 ?_ | refine q6 ?_ | refine q7 rfl ?_))))))
    ((repeat refine AW_seq ?_); (refine AW_ret ?_); (repeat (first | refine q1 ?_ | refine q2 ?_ | refine q3 ?_ | refine q4 ?_ | refine q5 ?_ | refine q6 ?_ | refine q7 rfl ?_)); simp (disch := omega) only [retQ, resD, oneD, rsv, rs, rsL, rsL_eq_map, List.map_map, bb, bt, zDs, zD, eqCells, ↓reduceIte, reduceCtorEq, Nat.reduceAdd, Nat.reduceMul, Nat.reduceDiv, Nat.reduceSub, Nat.reduceEqDiff, Nat.reduceLT, Nat.reduceLeDiff, Int.reduceToNat, Int.reduceLE, Int.reduceLT, Try.results7])
  obtain ⟨hm, hl⟩ := longP_false hlg
  have hm' : m.length ≤ 1000000 := by omega
  have hl' : ∀ r ∈ m, r.length ≤ 1000000 := fun r hr => by have := hl r hr; omega
  have hR := rank m hm' hl'
  have hI := independent m hm' hl'
  cases hv : validP m
  · rw [hv] at hR hI
    simp only [Bool.false_eq_true, if_false] at hR hI
    ((repeat' (first | ((with_reducible refine at_ops ?_); (first | ((first | refine awOps_n rfl fun KK hKK => ?_ | refine awOps_g rfl rfl fun KK hKK => ?_ | refine awOps_gc rfl fun KK hKK => ?_); simp (disch := omega) only [bb, bt, zDs, zD, eqCells, ↓reduceIte, reduceCtorEq, Nat.reduceAdd, Nat.reduceMul, Nat.reduceDiv, Nat.reduceSub, Nat.reduceEqDiff, Nat.reduceLT, Nat.reduceLeDiff, Int.reduceToNat, Int.reduceLE, Int.reduceLT, hlg, bne_self_eq_false, Int.reduceBNe, Int.reduceBEq, Bool.bne_false, Bool.bne_true, Bool.false_bne, Bool.true_bne]; refine hKK _ ?_; clear hKK KK) | (refine awOps_nil ?_); (refine hKR _ ?_); clear hKR KR; (repeat (first | refine q1 ?_ | refine q2 ?_ | refine q3 ?_ | refine q4 ?_ | refine q5 ?_ | refine q6 ?_ | refine q7 rfl ?_)) | ((first | refine awOps_nc fun KK hKK => ?_ | refine awOps_gc rfl fun KK hKK => ?_); simp (disch := omega) only [bb, bt, zDs, zD, eqCells, ↓reduceIte, reduceCtorEq, Nat.reduceAdd, Nat.reduceMul, Nat.reduceDiv, Nat.reduceSub, Nat.reduceEqDiff, Nat.reduceLT, Nat.reduceLeDiff, Int.reduceToNat, Int.reduceLE, Int.reduceLT, hlg, bne_self_eq_false, Int.reduceBNe, Int.reduceBEq, Bool.bne_false, Bool.bne_true, Bool.false_bne, Bool.true_bne, goC, callO_fn, argsD, and_self]; (first | ((with_reducible refine ACall.of_pret (awake) ?_ ?_); (focus (first | (simp only [List.map_cons, List.map_nil, List.append_nil, List.nil_append, List.cons_append, ufa, uf]; done) | rfl))) | ((with_reducible refine ACall.of_pret (long m) ?_ ?_); (focus (first | (simp only [List.map_cons, List.map_nil, List.append_nil, List.nil_append, List.cons_append, ufa, uf]; done) | rfl))) | ((with_reducible refine ACall.of_pret (hI) ?_ ?_); (focus (first | (simp only [List.map_cons, List.map_nil, List.append_nil, List.nil_append, List.cons_append, ufa, uf]; done) | rfl))) | ((with_reducible refine ACall.of_pret (hR) ?_ ?_); (focus (first | (simp only [List.map_cons, List.map_nil, List.append_nil, List.nil_append, List.cons_append, ufa, uf]; done) | rfl)))); simp only [afterC, St.put, putTM, ↓reduceIte, Nat.reduceEqDiff]; refine hKK _ ?_; clear hKK KK))) | (with_reducible refine AW_seq ?_) | (with_reducible refine AW_region_k tab_ok fun KR hKR => ?_) | ((with_reducible refine AW_cond_k (tab := tab) fun KK hKK => ?_); simp (disch := omega) only [bb, bt, zDs, zD, eqCells, ↓reduceIte, reduceCtorEq, Nat.reduceAdd, Nat.reduceMul, Nat.reduceDiv, Nat.reduceSub, Nat.reduceEqDiff, Nat.reduceLT, Nat.reduceLeDiff, Int.reduceToNat, Int.reduceLE, Int.reduceLT, hlg, bne_self_eq_false, Int.reduceBNe, Int.reduceBEq, Bool.bne_false, Bool.bne_true, Bool.false_bne, Bool.true_bne]; refine hKK _ ?_; clear hKK KK; (first | refine i1 ?_ | refine i0 ?_)) | ((with_reducible refine AW_skip ?_); (repeat (first | refine q1 ?_ | refine q2 ?_ | refine q3 ?_ | refine q4 ?_ | refine q5 ?_ | refine q6 ?_ | refine q7 rfl ?_))) | ((with_reducible refine AW_exit ?_); (repeat (first | refine q1 ?_ | refine q2 ?_ | refine q3 ?_ | refine q4 ?_ | refine q5 ?_ | refine q6 ?_ | refine q7 rfl ?_))))))
    ((repeat refine AW_seq ?_); (refine AW_ret ?_); (repeat (first | refine q1 ?_ | refine q2 ?_ | refine q3 ?_ | refine q4 ?_ | refine q5 ?_ | refine q6 ?_ | refine q7 rfl ?_)); simp (disch := omega) only [retQ, resD, oneD, rsv, rs, rsL, rsL_eq_map, List.map_map, bb, bt, zDs, zD, eqCells, ↓reduceIte, reduceCtorEq, Nat.reduceAdd, Nat.reduceMul, Nat.reduceDiv, Nat.reduceSub, Nat.reduceEqDiff, Nat.reduceLT, Nat.reduceLeDiff, Int.reduceToNat, Int.reduceLE, Int.reduceLT, Try.results7])
    rfl
  rw [hv] at hR hI
  simp only [if_true, natI_ints] at hR hI
  have hs := valid_small hv
  have hil := ind_rank hv
  have hll : (((indP m).map fun x : Nat => (x : Int))).length = rankP m (wid m) := by rw [List.length_map, hil]
  have hri : rankP m (wid m) ≤ 1000000 := by
    have := indS_len (fun k => rankP (m.take k) (wid m)) m.length
    rw [← hil]; unfold indP; omega
  have hso := isSorted ((indP m).map fun x : Nat => (x : Int)) (by omega)
  rw [sortedP_nat (indP m) (indS_up (fun k => rankP (m.take k) (wid m)) m.length)] at hso
  have hcon : ∀ k, k < m.length → PRet Try.prog 34 [ints ((indP m).map fun x : Nat => (x : Int)), int k] (bool (decide (rankP (m.take k) (wid m) < rankP (m.take (k + 1)) (wid m)))) := fun k hk => by
    have := containsInts ((indP m).map fun x : Nat => (x : Int)) k (by omega)
    rw [contains_nat, ind_mem hv hk] at this
    exact this
  generalize ((indP m).map fun x : Nat => (x : Int)) = L at *
  have e1 : ((rankP m (wid m) : Int) != (rankP m (wid m) : Int)) = false := bne_self_eq_false _
  ((repeat' (first | ((with_reducible refine at_ops ?_); (first | ((first | refine awOps_n rfl fun KK hKK => ?_ | refine awOps_g rfl rfl fun KK hKK => ?_ | refine awOps_gc rfl fun KK hKK => ?_); simp (disch := omega) only [bb, bt, zDs, zD, eqCells, ↓reduceIte, reduceCtorEq, Nat.reduceAdd, Nat.reduceMul, Nat.reduceDiv, Nat.reduceSub, Nat.reduceEqDiff, Nat.reduceLT, Nat.reduceLeDiff, Int.reduceToNat, Int.reduceLE, Int.reduceLT, hlg, hll, List.length_map, e1, bne_self_eq_false, Int.reduceBNe, Int.reduceBEq, Bool.bne_false, Bool.bne_true, Bool.false_bne, Bool.true_bne]; refine hKK _ ?_; clear hKK KK) | (refine awOps_nil ?_); (refine hKR _ ?_); clear hKR KR; (repeat (first | refine q1 ?_ | refine q2 ?_ | refine q3 ?_ | refine q4 ?_ | refine q5 ?_ | refine q6 ?_ | refine q7 rfl ?_)) | ((first | refine awOps_nc fun KK hKK => ?_ | refine awOps_gc rfl fun KK hKK => ?_); simp (disch := omega) only [bb, bt, zDs, zD, eqCells, ↓reduceIte, reduceCtorEq, Nat.reduceAdd, Nat.reduceMul, Nat.reduceDiv, Nat.reduceSub, Nat.reduceEqDiff, Nat.reduceLT, Nat.reduceLeDiff, Int.reduceToNat, Int.reduceLE, Int.reduceLT, hlg, hll, List.length_map, e1, bne_self_eq_false, Int.reduceBNe, Int.reduceBEq, Bool.bne_false, Bool.bne_true, Bool.false_bne, Bool.true_bne, goC, callO_fn, argsD, and_self]; (first | ((with_reducible refine ACall.of_pret (awake) ?_ ?_); (focus (first | (simp only [List.map_cons, List.map_nil, List.append_nil, List.nil_append, List.cons_append, ufa, uf]; done) | rfl))) | ((with_reducible refine ACall.of_pret (long m) ?_ ?_); (focus (first | (simp only [List.map_cons, List.map_nil, List.append_nil, List.nil_append, List.cons_append, ufa, uf]; done) | rfl))) | ((with_reducible refine ACall.of_pret (hI) ?_ ?_); (focus (first | (simp only [List.map_cons, List.map_nil, List.append_nil, List.nil_append, List.cons_append, ufa, uf]; done) | rfl))) | ((with_reducible refine ACall.of_pret (hR) ?_ ?_); (focus (first | (simp only [List.map_cons, List.map_nil, List.append_nil, List.nil_append, List.cons_append, ufa, uf]; done) | rfl))) | ((with_reducible refine ACall.of_pret (hso) ?_ ?_); (focus (first | (simp only [List.map_cons, List.map_nil, List.append_nil, List.nil_append, List.cons_append, ufa, uf]; done) | rfl)))); simp only [afterC, St.put, putTM, ↓reduceIte, Nat.reduceEqDiff]; refine hKK _ ?_; clear hKK KK))) | (with_reducible refine AW_seq ?_) | (with_reducible refine AW_region_k tab_ok fun KR hKR => ?_) | ((with_reducible refine AW_cond_k (tab := tab) fun KK hKK => ?_); simp (disch := omega) only [bb, bt, zDs, zD, eqCells, ↓reduceIte, reduceCtorEq, Nat.reduceAdd, Nat.reduceMul, Nat.reduceDiv, Nat.reduceSub, Nat.reduceEqDiff, Nat.reduceLT, Nat.reduceLeDiff, Int.reduceToNat, Int.reduceLE, Int.reduceLT, hlg, hll, List.length_map, e1, bne_self_eq_false, Int.reduceBNe, Int.reduceBEq, Bool.bne_false, Bool.bne_true, Bool.false_bne, Bool.true_bne]; refine hKK _ ?_; clear hKK KK; (first | refine i1 ?_ | refine i0 ?_)) | ((with_reducible refine AW_skip ?_); (repeat (first | refine q1 ?_ | refine q2 ?_ | refine q3 ?_ | refine q4 ?_ | refine q5 ?_ | refine q6 ?_ | refine q7 rfl ?_))) | ((with_reducible refine AW_exit ?_); (repeat (first | refine q1 ?_ | refine q2 ?_ | refine q3 ?_ | refine q4 ?_ | refine q5 ?_ | refine q6 ?_ | refine q7 rfl ?_))))))
  refine AW.slot 7 (mat []) (fun F G u h => ?_) ?_
  · simp only [look, Nat.reduceEqDiff, ↓reduceIte] at h
    exact Rep_nil_any h 1 (by decide)
  (simp (disch := omega) only [bb, bt, zDs, zD, eqCells, ↓reduceIte, reduceCtorEq, Nat.reduceAdd, Nat.reduceMul, Nat.reduceDiv, Nat.reduceSub, Nat.reduceEqDiff, Nat.reduceLT, Nat.reduceLeDiff, Int.reduceToNat, Int.reduceLE, Int.reduceLT])
  ((repeat refine AW_seq ?_))
  refine AW_mid (fun x : Nat => ⟨[], [], x⟩) (fun _ => True) ?_ ?_
  · refine AW_block ?_
    refine AW_loop_w (fun x : Nat × Nat => ⟨[(0, mat m), (3, ints L), (7, mat (kept m (wid m) x.1)), (50, mat m), (51, int m.length), (52, int x.1)], [], x.2⟩) (fun x => m.length - x.1) (fun x => x.1 ≤ m.length) (0, t) (Nat.zero_le _) (by (simp (disch := omega) only [StLe, tmLe, hpLe_refl, hpLe, Int.natCast_add, Int.natCast_one, Int.natCast_zero, Int.cast_ofNat_Int, Nat.le_refl, Nat.le_add_right, bb, bt, zDs, zD, eqCells, ↓reduceIte, reduceCtorEq, Nat.reduceAdd, Nat.reduceMul, Nat.reduceDiv, Nat.reduceSub, Nat.reduceEqDiff, Nat.reduceLT, Nat.reduceLeDiff, Int.reduceToNat, Int.reduceLE, Int.reduceLT, kept, indS])) ?_
    rintro ⟨k, tt⟩ hk
    simp only at hk
    by_cases hlt : k < m.length
    · obtain ⟨r, hr⟩ : ∃ r, m[k]? = some r := ⟨_, List.getElem?_eq_getElem hlt⟩
      have hrow : Lin.row m k = r := by simp [Lin.row, hr]
      obtain ⟨k1, k2, _⟩ := kept_rank hs k (by omega)
      have kn := kept_next hs hlt
      have ks := kept_succ hs k
      have kle : rankP (m.take k) (wid m) ≤ k := by
        rw [← k1]
        have := indS_len (fun k => rankP (m.take k) (wid m)) k
        simpa [kept] using this
      rw [hrow] at kn ks
      obtain ⟨gv, gw⟩ := sub_valid (l := kept m (wid m) k ++ [r]) hv (by simp) (by simp; omega) (fun x hx => by
        rcases List.mem_append.1 hx with h | h
        · exact List.mem_of_mem_take (k2 x h)
        · simp only [List.mem_singleton] at h; rw [h]; exact List.mem_of_getElem? hr)
      have hrg := rank (kept m (wid m) k ++ [r]) (by simp; omega) (fun x hx => by
        obtain ⟨_, _, b3⟩ := validP_iff.1 gv
        have := (b3 x hx).1
        have := (validP_iff.1 gv).2.1
        omega)
      rw [gv, gw, kn] at hrg
      simp only [if_true] at hrg
      have hck := hcon k hlt
      have hcl := cloneRows (kept m (wid m) k) (by omega)
      ((repeat' (first | ((with_reducible refine at_ops ?_); (first | ((first | refine awOps_n rfl fun KK hKK => ?_ | refine awOps_g rfl rfl fun KK hKK => ?_ | refine awOps_gc rfl fun KK hKK => ?_); simp (disch := omega) only [bb, bt, zDs, zD, eqCells, ↓reduceIte, reduceCtorEq, Nat.reduceAdd, Nat.reduceMul, Nat.reduceDiv, Nat.reduceSub, Nat.reduceEqDiff, Nat.reduceLT, Nat.reduceLeDiff, Int.reduceToNat, Int.reduceLE, Int.reduceLT, Int.ofNat_lt, hlt, bne_self_eq_false, Int.reduceBNe, Int.reduceBEq, Bool.bne_false, Bool.bne_true, Bool.false_bne, Bool.true_bne]; refine hKK _ ?_; clear hKK KK) | (refine awOps_nil ?_); (refine hKR _ ?_); clear hKR KR; (repeat (first | refine q1 ?_ | refine q2 ?_ | refine q3 ?_ | refine q4 ?_ | refine q5 ?_ | refine q6 ?_ | refine q7 rfl ?_)))) | (with_reducible refine AW_seq ?_) | (with_reducible refine AW_region_k tab_ok fun KR hKR => ?_) | ((with_reducible refine AW_cond_k (tab := tab) fun KK hKK => ?_); simp (disch := omega) only [bb, bt, zDs, zD, eqCells, ↓reduceIte, reduceCtorEq, Nat.reduceAdd, Nat.reduceMul, Nat.reduceDiv, Nat.reduceSub, Nat.reduceEqDiff, Nat.reduceLT, Nat.reduceLeDiff, Int.reduceToNat, Int.reduceLE, Int.reduceLT, Int.ofNat_lt, hlt, bne_self_eq_false, Int.reduceBNe, Int.reduceBEq, Bool.bne_false, Bool.bne_true, Bool.false_bne, Bool.true_bne]; refine hKK _ ?_; clear hKK KK; (first | refine i1 ?_ | refine i0 ?_)) | ((with_reducible refine AW_skip ?_); (repeat (first | refine q1 ?_ | refine q2 ?_ | refine q3 ?_ | refine q4 ?_ | refine q5 ?_ | refine q6 ?_ | refine q7 rfl ?_))) | ((with_reducible refine AW_exit ?_); (repeat (first | refine q1 ?_ | refine q2 ?_ | refine q3 ?_ | refine q4 ?_ | refine q5 ?_ | refine q6 ?_ | refine q7 rfl ?_))))))
      ((repeat refine AW_seq ?_))
      refine AW_block ?_
      ((repeat' (first | ((with_reducible refine at_ops ?_); (first | ((first | refine awOps_n rfl fun KK hKK => ?_ | refine awOps_g rfl rfl fun KK hKK => ?_ | refine awOps_gc rfl fun KK hKK => ?_); simp (disch := omega) only [bb, bt, zDs, zD, eqCells, ↓reduceIte, reduceCtorEq, Nat.reduceAdd, Nat.reduceMul, Nat.reduceDiv, Nat.reduceSub, Nat.reduceEqDiff, Nat.reduceLT, Nat.reduceLeDiff, Int.reduceToNat, Int.reduceLE, Int.reduceLT, hlt, hr, List.length_map, bne_self_eq_false, Int.reduceBNe, Int.reduceBEq, Bool.bne_false, Bool.bne_true, Bool.false_bne, Bool.true_bne]; refine hKK _ ?_; clear hKK KK) | (refine awOps_nil ?_); (refine hKR _ ?_); clear hKR KR; (repeat (first | refine q1 ?_ | refine q2 ?_ | refine q3 ?_ | refine q4 ?_ | refine q5 ?_ | refine q6 ?_ | refine q7 rfl ?_)))) | (with_reducible refine AW_seq ?_) | (with_reducible refine AW_region_k tab_ok fun KR hKR => ?_) | ((with_reducible refine AW_cond_k (tab := tab) fun KK hKK => ?_); simp (disch := omega) only [bb, bt, zDs, zD, eqCells, ↓reduceIte, reduceCtorEq, Nat.reduceAdd, Nat.reduceMul, Nat.reduceDiv, Nat.reduceSub, Nat.reduceEqDiff, Nat.reduceLT, Nat.reduceLeDiff, Int.reduceToNat, Int.reduceLE, Int.reduceLT, hlt, hr, List.length_map, bne_self_eq_false, Int.reduceBNe, Int.reduceBEq, Bool.bne_false, Bool.bne_true, Bool.false_bne, Bool.true_bne]; refine hKK _ ?_; clear hKK KK; (first | refine i1 ?_ | refine i0 ?_)) | ((with_reducible refine AW_skip ?_); (repeat (first | refine q1 ?_ | refine q2 ?_ | refine q3 ?_ | refine q4 ?_ | refine q5 ?_ | refine q6 ?_ | refine q7 rfl ?_))) | ((with_reducible refine AW_exit ?_); (repeat (first | refine q1 ?_ | refine q2 ?_ | refine q3 ?_ | refine q4 ?_ | refine q5 ?_ | refine q6 ?_ | refine q7 rfl ?_))))))
      ((first | refine awOps_nc fun KK hKK => ?_ | refine awOps_gc rfl fun KK hKK => ?_); simp (disch := omega) only [bb, bt, zDs, zD, eqCells, ↓reduceIte, reduceCtorEq, Nat.reduceAdd, Nat.reduceMul, Nat.reduceDiv, Nat.reduceSub, Nat.reduceEqDiff, Nat.reduceLT, Nat.reduceLeDiff, Int.reduceToNat, Int.reduceLE, Int.reduceLT, goC, callO_fn, argsD, and_self]; refine ACall.of_fresh (hcl) (by first | (simp only [List.map_cons, List.map_nil, List.append_nil, List.nil_append, List.cons_append, ufa, uf]; done) | rfl) ?_; simp (disch := omega) only [bb, bt, zDs, zD, eqCells, ↓reduceIte, reduceCtorEq, Nat.reduceAdd, Nat.reduceMul, Nat.reduceDiv, Nat.reduceSub, Nat.reduceEqDiff, Nat.reduceLT, Nat.reduceLeDiff, Int.reduceToNat, Int.reduceLE, Int.reduceLT, afterC]; refine hKK _ ?_; clear hKK KK)
      ((repeat ((first | refine awOps_n rfl fun KK hKK => ?_ | refine awOps_g rfl rfl fun KK hKK => ?_ | refine awOps_gc rfl fun KK hKK => ?_); simp (disch := omega) only [bb, bt, zDs, zD, eqCells, ↓reduceIte, reduceCtorEq, Nat.reduceAdd, Nat.reduceMul, Nat.reduceDiv, Nat.reduceSub, Nat.reduceEqDiff, Nat.reduceLT, Nat.reduceLeDiff, Int.reduceToNat, Int.reduceLE, Int.reduceLT, List.length_map, k1]; refine hKK _ ?_; clear hKK KK))); ((refine awOps_nil ?_); (refine hKR _ ?_); clear hKR KR; (repeat (first | refine q1 ?_ | refine q2 ?_ | refine q3 ?_ | refine q4 ?_ | refine q5 ?_ | refine q6 ?_ | refine q7 rfl ?_)))
      ((refine AW.freeze (0) (by first | rfl | (simp only [setH, List.getElem?_cons_zero, List.getElem?_cons_succ, List.length_map, k1]; done)) ?_); simp (disch := omega) only [fzT, fz, fzL, fzL_ints, fzL_mat, fzH, fzB, eq_self, bb, bt, zDs, zD, eqCells, ↓reduceIte, reduceCtorEq, Nat.reduceAdd, Nat.reduceMul, Nat.reduceDiv, Nat.reduceSub, Nat.reduceEqDiff, Nat.reduceLT, Nat.reduceLeDiff, Int.reduceToNat, Int.reduceLE, Int.reduceLT, List.length_map, k1])
      have hfin : List.take (rankP (m.take k) (wid m) + 1) (List.map ints (kept m (wid m) k) ++ [ints r]) = (kept m (wid m) k ++ [r]).map ints := by
        rw [List.take_of_length_le (by simp [k1])]; simp
      rw [hfin]
      have hgl : (kept m (wid m) k ++ [r]).length = rankP (m.take k) (wid m) + 1 := by simp [k1]
      by_cases hgt : rankP (m.take k) (wid m) < rankP (m.take (k + 1)) (wid m)
      · rw [if_pos hgt] at ks
        rw [decide_eq_true hgt] at hck
        have hgt' : (rankP (m.take k) (wid m) : Int) < (rankP (m.take (k + 1)) (wid m) : Int) := by omega
        generalize hgk : kept m (wid m) k ++ [r] = gk at *
        ((repeat' (first | ((with_reducible refine at_ops ?_); (first | ((first | refine awOps_n rfl fun KK hKK => ?_ | refine awOps_g rfl rfl fun KK hKK => ?_ | refine awOps_gc rfl fun KK hKK => ?_); simp (disch := omega) only [bb, bt, zDs, zD, eqCells, ↓reduceIte, reduceCtorEq, Nat.reduceAdd, Nat.reduceMul, Nat.reduceDiv, Nat.reduceSub, Nat.reduceEqDiff, Nat.reduceLT, Nat.reduceLeDiff, Int.reduceToNat, Int.reduceLE, Int.reduceLT, List.length_map, k1, hgt', bne_self_eq_false, Int.reduceBNe, Int.reduceBEq, Bool.bne_false, Bool.bne_true, Bool.false_bne, Bool.true_bne]; refine hKK _ ?_; clear hKK KK) | (refine awOps_nil ?_); (refine hKR _ ?_); clear hKR KR; (repeat (first | refine q1 ?_ | refine q2 ?_ | refine q3 ?_ | refine q4 ?_ | refine q5 ?_ | refine q6 ?_ | refine q7 rfl ?_)) | ((first | refine awOps_nc fun KK hKK => ?_ | refine awOps_gc rfl fun KK hKK => ?_); simp (disch := omega) only [bb, bt, zDs, zD, eqCells, ↓reduceIte, reduceCtorEq, Nat.reduceAdd, Nat.reduceMul, Nat.reduceDiv, Nat.reduceSub, Nat.reduceEqDiff, Nat.reduceLT, Nat.reduceLeDiff, Int.reduceToNat, Int.reduceLE, Int.reduceLT, List.length_map, k1, hgt', bne_self_eq_false, Int.reduceBNe, Int.reduceBEq, Bool.bne_false, Bool.bne_true, Bool.false_bne, Bool.true_bne, goC, callO_fn, argsD, and_self]; (first | ((with_reducible refine ACall.of_pret (hrg) ?_ ?_); (focus (first | (simp only [List.map_cons, List.map_nil, List.append_nil, List.nil_append, List.cons_append, ufa, uf]; done) | rfl))) | ((with_reducible refine ACall.of_pret (hck) ?_ ?_); (focus (first | (simp only [List.map_cons, List.map_nil, List.append_nil, List.nil_append, List.cons_append, ufa, uf]; done) | rfl)))); simp only [afterC, St.put, putTM, ↓reduceIte, Nat.reduceEqDiff]; refine hKK _ ?_; clear hKK KK))) | (with_reducible refine AW_seq ?_) | (with_reducible refine AW_region_k tab_ok fun KR hKR => ?_) | ((with_reducible refine AW_cond_k (tab := tab) fun KK hKK => ?_); simp (disch := omega) only [bb, bt, zDs, zD, eqCells, ↓reduceIte, reduceCtorEq, Nat.reduceAdd, Nat.reduceMul, Nat.reduceDiv, Nat.reduceSub, Nat.reduceEqDiff, Nat.reduceLT, Nat.reduceLeDiff, Int.reduceToNat, Int.reduceLE, Int.reduceLT, List.length_map, k1, hgt', bne_self_eq_false, Int.reduceBNe, Int.reduceBEq, Bool.bne_false, Bool.bne_true, Bool.false_bne, Bool.true_bne]; refine hKK _ ?_; clear hKK KK; (first | refine i1 ?_ | refine i0 ?_)) | ((with_reducible refine AW_skip ?_); (repeat (first | refine q1 ?_ | refine q2 ?_ | refine q3 ?_ | refine q4 ?_ | refine q5 ?_ | refine q6 ?_ | refine q7 rfl ?_))) | ((with_reducible refine AW_exit ?_); (repeat (first | refine q1 ?_ | refine q2 ?_ | refine q3 ?_ | refine q4 ?_ | refine q5 ?_ | refine q6 ?_ | refine q7 rfl ?_))))))
        refine ⟨(k + 1, tt + 2), hlt, by show m.length - (k + 1) < m.length - k; omega, ?_⟩
        simp only [ks]
        (simp (disch := omega) only [StLe, tmLe, hpLe_refl, hpLe, Int.natCast_add, Int.natCast_one, Int.natCast_zero, Int.cast_ofNat_Int, Nat.le_refl, Nat.le_add_right, bb, bt, zDs, zD, eqCells, ↓reduceIte, reduceCtorEq, Nat.reduceAdd, Nat.reduceMul, Nat.reduceDiv, Nat.reduceSub, Nat.reduceEqDiff, Nat.reduceLT, Nat.reduceLeDiff, Int.reduceToNat, Int.reduceLE, Int.reduceLT])
      · rw [if_neg hgt] at ks
        rw [decide_eq_false hgt] at hck
        have hgt' : ¬ (rankP (m.take k) (wid m) : Int) < (rankP (m.take (k + 1)) (wid m) : Int) := by omega
        generalize hgk : kept m (wid m) k ++ [r] = gk at *
        ((repeat' (first | ((with_reducible refine at_ops ?_); (first | ((first | refine awOps_n rfl fun KK hKK => ?_ | refine awOps_g rfl rfl fun KK hKK => ?_ | refine awOps_gc rfl fun KK hKK => ?_); simp (disch := omega) only [bb, bt, zDs, zD, eqCells, ↓reduceIte, reduceCtorEq, Nat.reduceAdd, Nat.reduceMul, Nat.reduceDiv, Nat.reduceSub, Nat.reduceEqDiff, Nat.reduceLT, Nat.reduceLeDiff, Int.reduceToNat, Int.reduceLE, Int.reduceLT, List.length_map, k1, hgt', bne_self_eq_false, Int.reduceBNe, Int.reduceBEq, Bool.bne_false, Bool.bne_true, Bool.false_bne, Bool.true_bne]; refine hKK _ ?_; clear hKK KK) | (refine awOps_nil ?_); (refine hKR _ ?_); clear hKR KR; (repeat (first | refine q1 ?_ | refine q2 ?_ | refine q3 ?_ | refine q4 ?_ | refine q5 ?_ | refine q6 ?_ | refine q7 rfl ?_)) | ((first | refine awOps_nc fun KK hKK => ?_ | refine awOps_gc rfl fun KK hKK => ?_); simp (disch := omega) only [bb, bt, zDs, zD, eqCells, ↓reduceIte, reduceCtorEq, Nat.reduceAdd, Nat.reduceMul, Nat.reduceDiv, Nat.reduceSub, Nat.reduceEqDiff, Nat.reduceLT, Nat.reduceLeDiff, Int.reduceToNat, Int.reduceLE, Int.reduceLT, List.length_map, k1, hgt', bne_self_eq_false, Int.reduceBNe, Int.reduceBEq, Bool.bne_false, Bool.bne_true, Bool.false_bne, Bool.true_bne, goC, callO_fn, argsD, and_self]; (first | ((with_reducible refine ACall.of_pret (hrg) ?_ ?_); (focus (first | (simp only [List.map_cons, List.map_nil, List.append_nil, List.nil_append, List.cons_append, ufa, uf]; done) | rfl))) | ((with_reducible refine ACall.of_pret (hck) ?_ ?_); (focus (first | (simp only [List.map_cons, List.map_nil, List.append_nil, List.nil_append, List.cons_append, ufa, uf]; done) | rfl)))); simp only [afterC, St.put, putTM, ↓reduceIte, Nat.reduceEqDiff]; refine hKK _ ?_; clear hKK KK))) | (with_reducible refine AW_seq ?_) | (with_reducible refine AW_region_k tab_ok fun KR hKR => ?_) | ((with_reducible refine AW_cond_k (tab := tab) fun KK hKK => ?_); simp (disch := omega) only [bb, bt, zDs, zD, eqCells, ↓reduceIte, reduceCtorEq, Nat.reduceAdd, Nat.reduceMul, Nat.reduceDiv, Nat.reduceSub, Nat.reduceEqDiff, Nat.reduceLT, Nat.reduceLeDiff, Int.reduceToNat, Int.reduceLE, Int.reduceLT, List.length_map, k1, hgt', bne_self_eq_false, Int.reduceBNe, Int.reduceBEq, Bool.bne_false, Bool.bne_true, Bool.false_bne, Bool.true_bne]; refine hKK _ ?_; clear hKK KK; (first | refine i1 ?_ | refine i0 ?_)) | ((with_reducible refine AW_skip ?_); (repeat (first | refine q1 ?_ | refine q2 ?_ | refine q3 ?_ | refine q4 ?_ | refine q5 ?_ | refine q6 ?_ | refine q7 rfl ?_))) | ((with_reducible refine AW_exit ?_); (repeat (first | refine q1 ?_ | refine q2 ?_ | refine q3 ?_ | refine q4 ?_ | refine q5 ?_ | refine q6 ?_ | refine q7 rfl ?_))))))
        refine ⟨(k + 1, tt + 2), hlt, by show m.length - (k + 1) < m.length - k; omega, ?_⟩
        simp only [ks]
        (simp (disch := omega) only [StLe, tmLe, hpLe_refl, hpLe, Int.natCast_add, Int.natCast_one, Int.natCast_zero, Int.cast_ofNat_Int, Nat.le_refl, Nat.le_add_right, bb, bt, zDs, zD, eqCells, ↓reduceIte, reduceCtorEq, Nat.reduceAdd, Nat.reduceMul, Nat.reduceDiv, Nat.reduceSub, Nat.reduceEqDiff, Nat.reduceLT, Nat.reduceLeDiff, Int.reduceToNat, Int.reduceLE, Int.reduceLT])
    · have hke : k = m.length := by omega
      subst hke
      ((repeat' (first | ((with_reducible refine at_ops ?_); (first | ((first | refine awOps_n rfl fun KK hKK => ?_ | refine awOps_g rfl rfl fun KK hKK => ?_ | refine awOps_gc rfl fun KK hKK => ?_); simp (disch := omega) only [bb, bt, zDs, zD, eqCells, ↓reduceIte, reduceCtorEq, Nat.reduceAdd, Nat.reduceMul, Nat.reduceDiv, Nat.reduceSub, Nat.reduceEqDiff, Nat.reduceLT, Nat.reduceLeDiff, Int.reduceToNat, Int.reduceLE, Int.reduceLT, Int.lt_irrefl, bne_self_eq_false, Int.reduceBNe, Int.reduceBEq, Bool.bne_false, Bool.bne_true, Bool.false_bne, Bool.true_bne]; refine hKK _ ?_; clear hKK KK) | (refine awOps_nil ?_); (refine hKR _ ?_); clear hKR KR; (repeat (first | refine q1 ?_ | refine q2 ?_ | refine q3 ?_ | refine q4 ?_ | refine q5 ?_ | refine q6 ?_ | refine q7 rfl ?_)))) | (with_reducible refine AW_seq ?_) | (with_reducible refine AW_region_k tab_ok fun KR hKR => ?_) | ((with_reducible refine AW_cond_k (tab := tab) fun KK hKK => ?_); simp (disch := omega) only [bb, bt, zDs, zD, eqCells, ↓reduceIte, reduceCtorEq, Nat.reduceAdd, Nat.reduceMul, Nat.reduceDiv, Nat.reduceSub, Nat.reduceEqDiff, Nat.reduceLT, Nat.reduceLeDiff, Int.reduceToNat, Int.reduceLE, Int.reduceLT, Int.lt_irrefl, bne_self_eq_false, Int.reduceBNe, Int.reduceBEq, Bool.bne_false, Bool.bne_true, Bool.false_bne, Bool.true_bne]; refine hKK _ ?_; clear hKK KK; (first | refine i1 ?_ | refine i0 ?_)) | ((with_reducible refine AW_skip ?_); (repeat (first | refine q1 ?_ | refine q2 ?_ | refine q3 ?_ | refine q4 ?_ | refine q5 ?_ | refine q6 ?_ | refine q7 rfl ?_))) | ((with_reducible refine AW_exit ?_); (repeat (first | refine q1 ?_ | refine q2 ?_ | refine q3 ?_ | refine q4 ?_ | refine q5 ?_ | refine q6 ?_ | refine q7 rfl ?_))))))
      exact ⟨tt, trivial, by (simp (disch := omega) only [StLe, tmLe, hpLe_refl, hpLe, Int.natCast_add, Int.natCast_one, Int.natCast_zero, Int.cast_ofNat_Int, Nat.le_refl, Nat.le_add_right, bb, bt, zDs, zD, eqCells, ↓reduceIte, reduceCtorEq, Nat.reduceAdd, Nat.reduceMul, Nat.reduceDiv, Nat.reduceSub, Nat.reduceEqDiff, Nat.reduceLT, Nat.reduceLeDiff, Int.reduceToNat, Int.reduceLE, Int.reduceLT])⟩
  · rintro tt -
    ((repeat' (first | ((with_reducible refine at_ops ?_); (first | ((first | refine awOps_n rfl fun KK hKK => ?_ | refine awOps_g rfl rfl fun KK hKK => ?_ | refine awOps_gc rfl fun KK hKK => ?_); simp (disch := omega) only [bb, bt, zDs, zD, eqCells, ↓reduceIte, reduceCtorEq, Nat.reduceAdd, Nat.reduceMul, Nat.reduceDiv, Nat.reduceSub, Nat.reduceEqDiff, Nat.reduceLT, Nat.reduceLeDiff, Int.reduceToNat, Int.reduceLE, Int.reduceLT, bne_self_eq_false, Int.reduceBNe, Int.reduceBEq, Bool.bne_false, Bool.bne_true, Bool.false_bne, Bool.true_bne]; refine hKK _ ?_; clear hKK KK) | (refine awOps_nil ?_); (refine hKR _ ?_); clear hKR KR; (repeat (first | refine q1 ?_ | refine q2 ?_ | refine q3 ?_ | refine q4 ?_ | refine q5 ?_ | refine q6 ?_ | refine q7 rfl ?_)))) | (with_reducible refine AW_seq ?_) | (with_reducible refine AW_region_k tab_ok fun KR hKR => ?_) | ((with_reducible refine AW_cond_k (tab := tab) fun KK hKK => ?_); simp (disch := omega) only [bb, bt, zDs, zD, eqCells, ↓reduceIte, reduceCtorEq, Nat.reduceAdd, Nat.reduceMul, Nat.reduceDiv, Nat.reduceSub, Nat.reduceEqDiff, Nat.reduceLT, Nat.reduceLeDiff, Int.reduceToNat, Int.reduceLE, Int.reduceLT, bne_self_eq_false, Int.reduceBNe, Int.reduceBEq, Bool.bne_false, Bool.bne_true, Bool.false_bne, Bool.true_bne]; refine hKK _ ?_; clear hKK KK; (first | refine i1 ?_ | refine i0 ?_)) | ((with_reducible refine AW_skip ?_); (repeat (first | refine q1 ?_ | refine q2 ?_ | refine q3 ?_ | refine q4 ?_ | refine q5 ?_ | refine q6 ?_ | refine q7 rfl ?_))) | ((with_reducible refine AW_exit ?_); (repeat (first | refine q1 ?_ | refine q2 ?_ | refine q3 ?_ | refine q4 ?_ | refine q5 ?_ | refine q6 ?_ | refine q7 rfl ?_))))))
    ((repeat refine AW_seq ?_); (refine AW_ret ?_); (repeat (first | refine q1 ?_ | refine q2 ?_ | refine q3 ?_ | refine q4 ?_ | refine q5 ?_ | refine q6 ?_ | refine q7 rfl ?_)); simp (disch := omega) only [retQ, resD, oneD, rsv, rs, rsL, rsL_eq_map, List.map_map, bb, bt, zDs, zD, eqCells, ↓reduceIte, reduceCtorEq, Nat.reduceAdd, Nat.reduceMul, Nat.reduceDiv, Nat.reduceSub, Nat.reduceEqDiff, Nat.reduceLT, Nat.reduceLeDiff, Int.reduceToNat, Int.reduceLE, Int.reduceLT, Try.results7])
end Go.Proofs.Ytcjmknmlfggblaa.T
