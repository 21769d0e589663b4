import Derived.Test.YtcjmknmlfggblaaTC
import Derived.Test.YtcjmknmlfggblaaWPC
import Derived.Test.YtcjmknmlfggblaaWP
import Derived.Test.YtcjmknmlfggblaaWS
set_option linter.all false
namespace Go.Proofs.Ytcjmknmlfggblaa.T
open Go Go.RowKit Lin
set_option linter.unusedSimpArgs false

theorem prodA_len (x : List (Int × Int)) : ∀ (m : List (List Int)) (acc : List (Int × Int)), (prodA x acc m).1.length ≤ acc.length + m.length
  | [], acc => by simp [prodA]
  | r :: m, acc => by
    simp only [prodA]
    split
    · have := prodA_len x m (acc ++ [(dotF r x (0, 1)).1])
      simp only [List.length_append, List.length_cons, List.length_nil] at this ⊢
      omega
    · simp
set_option maxHeartbeats 2000000 in
theorem products (m : List (List Int)) (x : List (Int × Int)) : PRet Try.prog 8 [mat m, frs x] (bool true) := by
  refine PRet.intro 1 fun t => ACall.enter tab_ok Try.func8 rfl rfl Try.ntmps8 (by simp) ?_
  simp only [enterTM]
  have hla := frC_len x
  have ha2 : (frC x).length / 2 = x.length := by omega
  have f0 : frC [] = [] := rfl
  cases hlg : longP m
  rotate_left 1
  · ((repeat' (first | (with_reducible refine AW_seq ?_) | (with_reducible refine AW_region_k tab_ok fun KR hKR => ?_) | ((first | with_reducible refine AW_skip ?_ | with_reducible refine AW_exit ?_ | ((with_reducible refine awOps_nil ?_); refine hKR _ ?_; clear hKR KR)); (repeat (first | refine q1 ?_ | refine q2 ?_ | refine q3 ?_ | refine q4 ?_ | refine q5 ?_ | refine q6 ?_ | refine q7 rfl ?_))) | ((first | ((with_reducible refine at_ops ?_); (first | refine awOps_n rfl fun KK hKK => ?_ | refine awOps_g rfl rfl fun KK hKK => ?_ | refine awOps_gc rfl fun KK hKK => ?_ | refine awOps_nc fun KK hKK => ?_)) | with_reducible refine AW_cond_k (tab := tab) fun KK hKK => ?_); simp (disch := omega) only [bb, bt, zDs, zD, eqCells, simprocAttr, hlg, bne_self_eq_false, Int.reduceBNe, Int.reduceBEq, Bool.bne_false, Bool.bne_true, Bool.false_bne, Bool.true_bne, goC, callO_fn, argsD, and_self]; (try ((first | (with_reducible refine ACall.of_pret (awake) ?_ ?_; (focus (first | (simp only [um]; done) | rfl))) | (with_reducible refine ACall.of_pret (long m) ?_ ?_; (focus (first | (simp only [um]; done) | rfl)))); simp only [afterC, St.put, putTM, ↓reduceIte, Nat.reduceEqDiff])); refine hKK _ ?_; clear hKK KK; (first | with_reducible refine at_ops ?_ | with_reducible refine i1 ?_ | with_reducible refine i0 ?_)))))
    ((repeat refine AW_seq ?_); (refine AW_ret ?_); (repeat (first | refine q1 ?_ | refine q2 ?_ | refine q3 ?_ | refine q4 ?_ | refine q5 ?_ | refine q6 ?_ | refine q7 rfl ?_)); simp (disch := omega) only [retQ, resD, oneD, rsv, rs, rsL, rsL_eq_map, List.map_map, bb, bt, zDs, zD, eqCells, simprocAttr, Try.results8])
  by_cases hr20 : (20 : Int) < x.length
  · ((repeat' (first | (with_reducible refine AW_seq ?_) | (with_reducible refine AW_region_k tab_ok fun KR hKR => ?_) | ((first | with_reducible refine AW_skip ?_ | with_reducible refine AW_exit ?_ | ((with_reducible refine awOps_nil ?_); refine hKR _ ?_; clear hKR KR)); (repeat (first | refine q1 ?_ | refine q2 ?_ | refine q3 ?_ | refine q4 ?_ | refine q5 ?_ | refine q6 ?_ | refine q7 rfl ?_))) | ((first | ((with_reducible refine at_ops ?_); (first | refine awOps_n rfl fun KK hKK => ?_ | refine awOps_g rfl rfl fun KK hKK => ?_ | refine awOps_gc rfl fun KK hKK => ?_ | refine awOps_nc fun KK hKK => ?_)) | with_reducible refine AW_cond_k (tab := tab) fun KK hKK => ?_); simp (disch := omega) only [bb, bt, zDs, zD, eqCells, simprocAttr, hlg, ha2, hr20, bne_self_eq_false, Int.reduceBNe, Int.reduceBEq, Bool.bne_false, Bool.bne_true, Bool.false_bne, Bool.true_bne, goC, callO_fn, argsD, and_self]; (try ((first | (with_reducible refine ACall.of_pret (awake) ?_ ?_; (focus (first | (simp only [um]; done) | rfl))) | (with_reducible refine ACall.of_pret (long m) ?_ ?_; (focus (first | (simp only [um]; done) | rfl)))); simp only [afterC, St.put, putTM, ↓reduceIte, Nat.reduceEqDiff])); refine hKK _ ?_; clear hKK KK; (first | with_reducible refine at_ops ?_ | with_reducible refine i1 ?_ | with_reducible refine i0 ?_)))))
    ((repeat refine AW_seq ?_); (refine AW_ret ?_); (repeat (first | refine q1 ?_ | refine q2 ?_ | refine q3 ?_ | refine q4 ?_ | refine q5 ?_ | refine q6 ?_ | refine q7 rfl ?_)); simp (disch := omega) only [retQ, resD, oneD, rsv, rs, rsL, rsL_eq_map, List.map_map, bb, bt, zDs, zD, eqCells, simprocAttr, Try.results8])
  obtain ⟨hm, hl⟩ := longP_false hlg
  have hm' : m.length ≤ 1000000 := by omega
  have hl' : ∀ r ∈ m, r.length ≤ 1000000 := fun r hr => by have := hl r hr; omega
  have hP := rProduct m x hm' hl' (by omega)
  have hRV := refValid m hm' hl'
  have hRA := refAll x (by omega)
  cases hv : validP m
  · rw [hv] at hRV
    have e1 : prodP m x = ([], 1) := by simp [prodP, hv]
    rw [e1] at hP
    ((repeat' (first | (with_reducible refine AW_seq ?_) | (with_reducible refine AW_region_k tab_ok fun KR hKR => ?_) | ((first | with_reducible refine AW_skip ?_ | with_reducible refine AW_exit ?_ | ((with_reducible refine awOps_nil ?_); refine hKR _ ?_; clear hKR KR)); (repeat (first | refine q1 ?_ | refine q2 ?_ | refine q3 ?_ | refine q4 ?_ | refine q5 ?_ | refine q6 ?_ | refine q7 rfl ?_))) | ((first | ((with_reducible refine at_ops ?_); (first | refine awOps_n rfl fun KK hKK => ?_ | refine awOps_g rfl rfl fun KK hKK => ?_ | refine awOps_gc rfl fun KK hKK => ?_ | refine awOps_nc fun KK hKK => ?_)) | with_reducible refine AW_cond_k (tab := tab) fun KK hKK => ?_); simp (disch := omega) only [bb, bt, zDs, zD, eqCells, simprocAttr, hlg, hr20, ha2, f0, List.length_nil, bne_self_eq_false, Int.reduceBNe, Int.reduceBEq, Bool.bne_false, Bool.bne_true, Bool.false_bne, Bool.true_bne, goC, callO_fn, argsD, and_self]; (try ((first | (with_reducible refine ACall.of_pret (awake) ?_ ?_; (focus (first | (simp only [um]; done) | rfl))) | (with_reducible refine ACall.of_pret (long m) ?_ ?_; (focus (first | (simp only [um]; done) | rfl))) | (with_reducible refine ACall.of_pret (hP) ?_ ?_; (focus (first | (simp only [um]; done) | rfl))) | (with_reducible refine ACall.of_pret (hRV) ?_ ?_; (focus (first | (simp only [um]; done) | rfl)))); simp only [afterC, St.put, putTM, ↓reduceIte, Nat.reduceEqDiff])); refine hKK _ ?_; clear hKK KK; (first | with_reducible refine at_ops ?_ | with_reducible refine i1 ?_ | with_reducible refine i0 ?_)))))
    ((repeat refine AW_seq ?_); (refine AW_ret ?_); (repeat (first | refine q1 ?_ | refine q2 ?_ | refine q3 ?_ | refine q4 ?_ | refine q5 ?_ | refine q6 ?_ | refine q7 rfl ?_)); simp (disch := omega) only [retQ, resD, oneD, rsv, rs, rsL, rsL_eq_map, List.map_map, bb, bt, zDs, zD, eqCells, simprocAttr, Try.results8])
  rw [hv] at hRV
  cases ha : allV x
  · rw [ha] at hRA
    have e1 : prodP m x = ([], 1) := by simp [prodP, ha]
    rw [e1] at hP
    ((repeat' (first | (with_reducible refine AW_seq ?_) | (with_reducible refine AW_region_k tab_ok fun KR hKR => ?_) | ((first | with_reducible refine AW_skip ?_ | with_reducible refine AW_exit ?_ | ((with_reducible refine awOps_nil ?_); refine hKR _ ?_; clear hKR KR)); (repeat (first | refine q1 ?_ | refine q2 ?_ | refine q3 ?_ | refine q4 ?_ | refine q5 ?_ | refine q6 ?_ | refine q7 rfl ?_))) | ((first | ((with_reducible refine at_ops ?_); (first | refine awOps_n rfl fun KK hKK => ?_ | refine awOps_g rfl rfl fun KK hKK => ?_ | refine awOps_gc rfl fun KK hKK => ?_ | refine awOps_nc fun KK hKK => ?_)) | with_reducible refine AW_cond_k (tab := tab) fun KK hKK => ?_); simp (disch := omega) only [bb, bt, zDs, zD, eqCells, simprocAttr, hlg, hr20, ha2, f0, List.length_nil, bne_self_eq_false, Int.reduceBNe, Int.reduceBEq, Bool.bne_false, Bool.bne_true, Bool.false_bne, Bool.true_bne, goC, callO_fn, argsD, and_self]; (try ((first | (with_reducible refine ACall.of_pret (awake) ?_ ?_; (focus (first | (simp only [um]; done) | rfl))) | (with_reducible refine ACall.of_pret (long m) ?_ ?_; (focus (first | (simp only [um]; done) | rfl))) | (with_reducible refine ACall.of_pret (hP) ?_ ?_; (focus (first | (simp only [um]; done) | rfl))) | (with_reducible refine ACall.of_pret (hRV) ?_ ?_; (focus (first | (simp only [um]; done) | rfl))) | (with_reducible refine ACall.of_pret (hRA) ?_ ?_; (focus (first | (simp only [um]; done) | rfl)))); simp only [afterC, St.put, putTM, ↓reduceIte, Nat.reduceEqDiff])); refine hKK _ ?_; clear hKK KK; (first | with_reducible refine at_ops ?_ | with_reducible refine i1 ?_ | with_reducible refine i0 ?_)))))
    ((repeat refine AW_seq ?_); (refine AW_ret ?_); (repeat (first | refine q1 ?_ | refine q2 ?_ | refine q3 ?_ | refine q4 ?_ | refine q5 ?_ | refine q6 ?_ | refine q7 rfl ?_)); simp (disch := omega) only [retQ, resD, oneD, rsv, rs, rsL, rsL_eq_map, List.map_map, bb, bt, zDs, zD, eqCells, simprocAttr, Try.results8])
  rw [ha] at hRA
  have hRP := refProduct m x hv ha (by omega)
  have hlen : (prodP m x).1.length ≤ 100 := by
    unfold prodP
    rw [if_pos ⟨hv, ha⟩]
    split
    · have := prodA_len x m []
      simp only [List.length_nil] at this
      omega
    · simp
  generalize prodP m x = X at *
  have hE2 := equalFr X.1 X.1 (by omega) (by omega)
  rw [beq_self_eq_true] at hE2
  ((repeat' (first | (with_reducible refine AW_seq ?_) | (with_reducible refine AW_region_k tab_ok fun KR hKR => ?_) | ((first | with_reducible refine AW_skip ?_ | with_reducible refine AW_exit ?_ | ((with_reducible refine awOps_nil ?_); refine hKR _ ?_; clear hKR KR)); (repeat (first | refine q1 ?_ | refine q2 ?_ | refine q3 ?_ | refine q4 ?_ | refine q5 ?_ | refine q6 ?_ | refine q7 rfl ?_))) | ((first | ((with_reducible refine at_ops ?_); (first | refine awOps_n rfl fun KK hKK => ?_ | refine awOps_g rfl rfl fun KK hKK => ?_ | refine awOps_gc rfl fun KK hKK => ?_ | refine awOps_nc fun KK hKK => ?_)) | with_reducible refine AW_cond_k (tab := tab) fun KK hKK => ?_); simp (disch := omega) only [bb, bt, zDs, zD, eqCells, simprocAttr, hlg, hr20, ha2, bne_self_eq_false, Int.reduceBNe, Int.reduceBEq, Bool.bne_false, Bool.bne_true, Bool.false_bne, Bool.true_bne, goC, callO_fn, argsD, and_self]; (try ((first | (with_reducible refine ACall.of_pret (awake) ?_ ?_; (focus (first | (simp only [um]; done) | rfl))) | (with_reducible refine ACall.of_pret (long m) ?_ ?_; (focus (first | (simp only [um]; done) | rfl))) | (with_reducible refine ACall.of_pret (hP) ?_ ?_; (focus (first | (simp only [um]; done) | rfl))) | (with_reducible refine ACall.of_pret (hRV) ?_ ?_; (focus (first | (simp only [um]; done) | rfl))) | (with_reducible refine ACall.of_pret (hRA) ?_ ?_; (focus (first | (simp only [um]; done) | rfl))) | (with_reducible refine ACall.of_pret (hRP) ?_ ?_; (focus (first | (simp only [um]; done) | rfl))) | (with_reducible refine ACall.of_pret (hE2) ?_ ?_; (focus (first | (simp only [um]; done) | rfl)))); simp only [afterC, St.put, putTM, ↓reduceIte, Nat.reduceEqDiff])); refine hKK _ ?_; clear hKK KK; (first | with_reducible refine at_ops ?_ | with_reducible refine i1 ?_ | with_reducible refine i0 ?_)))))
  ((repeat refine AW_seq ?_); (refine AW_ret ?_); (repeat (first | refine q1 ?_ | refine q2 ?_ | refine q3 ?_ | refine q4 ?_ | refine q5 ?_ | refine q6 ?_ | refine q7 rfl ?_)); simp (disch := omega) only [retQ, resD, oneD, rsv, rs, rsL, rsL_eq_map, List.map_map, bb, bt, zDs, zD, eqCells, simprocAttr, Try.results8])
end Go.Proofs.Ytcjmknmlfggblaa.T
