import Derived.Test.YtcjmknmlfggblaaTB
import Derived.Test.YtcjmknmlfggblaaWA
import Derived.Test.YtcjmknmlfggblaaWB
set_option linter.all false
namespace Go.Proofs.Ytcjmknmlfggblaa.T
open Go Go.RowKit
set_option linter.unusedSimpArgs false

theorem plainL_ints (l : List Int) : plainL (l.map int) = true := by
  induction l with
  | nil => rfl
  | cons x r ih => simp [plainL, plainD, ih]
theorem isCell_ints (l : List Int) : (l.map int).all isCell = true := by
  induction l with
  | nil => rfl
  | cons x r ih => rw [List.map_cons, List.all_cons, ih]; rfl
theorem cloneInts (l : List Int) (hl : l.length ≤ 1000000) : PFresh Try.prog 17 [ints l] 3 1 l.length (l.map int) := by
  refine PFresh.intro (plainL_ints l) fun t => ACall.enter tab_ok Try.func17 rfl rfl Try.ntmps17 (by simp) ?_
  simp only [enterTM]
  ((repeat refine AW_seq ?_); (refine AW_region_k tab_ok fun KR hKR => ?_); (repeat ((first | refine awOps_n rfl fun KK hKK => ?_ | refine awOps_g rfl rfl fun KK hKK => ?_ | refine awOps_gc rfl fun KK hKK => ?_); simp (disch := omega) only [bb, bt, zDs, zD, eqCells, simprocAttr]; refine hKK _ ?_; clear hKK KK)); (refine awOps_nil ?_); (refine hKR _ ?_); clear hKR KR; (repeat (first | refine q1 ?_ | refine q2 ?_ | refine q3 ?_ | refine q4 ?_ | refine q5 ?_ | refine q6 ?_ | refine q7 rfl ?_)))
  cases l with
  | nil =>
    ((repeat refine AW_seq ?_); (refine AW_region_k tab_ok fun KR hKR => ?_)); ((repeat ((first | refine awOps_n rfl fun KK hKK => ?_ | refine awOps_g rfl rfl fun KK hKK => ?_ | refine awOps_gc rfl fun KK hKK => ?_); simp (disch := omega) only [bb, bt, zDs, zD, eqCells, simprocAttr]; refine hKK _ ?_; clear hKK KK)))
    (refine awOps_nilk (by focus (simp (disch := omega) only [bb, bt, zDs, zD, eqCells, simprocAttr, isSlice, nilT]; done)) (by decide) (by focus (simp (disch := omega) only [bb, bt, zDs, zD, eqCells, simprocAttr, isSlice, nilT]; done)) fun KK hKK q => ?_; simp only [St.put, putTM, ↓reduceIte, Nat.reduceEqDiff]; refine hKK _ ?_; clear hKK KK)
    ((refine awOps_nil ?_); (refine hKR _ ?_); clear hKR KR; (repeat (first | refine q1 ?_ | refine q2 ?_ | refine q3 ?_ | refine q4 ?_ | refine q5 ?_ | refine q6 ?_ | refine q7 rfl ?_)))
    cases q
    · ((repeat refine AW_seq ?_); (refine AW_cond_k (tab := tab) fun KK hKK => ?_); simp (disch := omega) only [bb, bt, zDs, zD, eqCells, simprocAttr]; refine hKK _ ?_; clear hKK KK; (first | refine i1 ?_ | refine i0 ?_))
      ((repeat refine AW_seq ?_); (refine AW_skip ?_); (repeat (first | refine q1 ?_ | refine q2 ?_ | refine q3 ?_ | refine q4 ?_ | refine q5 ?_ | refine q6 ?_ | refine q7 rfl ?_)))
      ((repeat refine AW_seq ?_); (refine AW_region_k tab_ok fun KR hKR => ?_); (repeat ((first | refine awOps_n rfl fun KK hKK => ?_ | refine awOps_g rfl rfl fun KK hKK => ?_ | refine awOps_gc rfl fun KK hKK => ?_); simp (disch := omega) only [bb, bt, zDs, zD, eqCells, simprocAttr, isSlice]; refine hKK _ ?_; clear hKK KK)); (refine awOps_nil ?_); (refine hKR _ ?_); clear hKR KR; (repeat (first | refine q1 ?_ | refine q2 ?_ | refine q3 ?_ | refine q4 ?_ | refine q5 ?_ | refine q6 ?_ | refine q7 rfl ?_)))
      ((repeat refine AW_seq ?_); (refine AW_ret ?_); (repeat (first | refine q1 ?_ | refine q2 ?_ | refine q3 ?_ | refine q4 ?_ | refine q5 ?_ | refine q6 ?_ | refine q7 rfl ?_)); simp (disch := omega) only [retQ, resD, oneD, rsv, rs, rsL, rsL_eq_map, List.map_map, bb, bt, zDs, zD, eqCells, simprocAttr, Try.results17])
      exact .inl ⟨1, by omega, rfl⟩
    · ((repeat refine AW_seq ?_); (refine AW_cond_k (tab := tab) fun KK hKK => ?_); simp (disch := omega) only [bb, bt, zDs, zD, eqCells, simprocAttr]; refine hKK _ ?_; clear hKK KK; (first | refine i1 ?_ | refine i0 ?_))
      ((repeat refine AW_seq ?_); (refine AW_region_k tab_ok fun KR hKR => ?_); (repeat ((first | refine awOps_n rfl fun KK hKK => ?_ | refine awOps_g rfl rfl fun KK hKK => ?_ | refine awOps_gc rfl fun KK hKK => ?_); simp (disch := omega) only [bb, bt, zDs, zD, eqCells, simprocAttr]; refine hKK _ ?_; clear hKK KK)); (refine awOps_nil ?_); (refine hKR _ ?_); clear hKR KR; (repeat (first | refine q1 ?_ | refine q2 ?_ | refine q3 ?_ | refine q4 ?_ | refine q5 ?_ | refine q6 ?_ | refine q7 rfl ?_)))
      ((repeat refine AW_seq ?_); (refine AW_ret ?_); (repeat (first | refine q1 ?_ | refine q2 ?_ | refine q3 ?_ | refine q4 ?_ | refine q5 ?_ | refine q6 ?_ | refine q7 rfl ?_)); simp (disch := omega) only [retQ, resD, oneD, rsv, rs, rsL, rsL_eq_map, List.map_map, bb, bt, zDs, zD, eqCells, simprocAttr, Try.results17])
      exact .inl ⟨1, by omega, rfl⟩
  | cons x r =>
    simp only [List.length_cons] at hl
    ((repeat refine AW_seq ?_); (refine AW_region_k tab_ok fun KR hKR => ?_); (repeat ((first | refine awOps_n rfl fun KK hKK => ?_ | refine awOps_g rfl rfl fun KK hKK => ?_ | refine awOps_gc rfl fun KK hKK => ?_); simp (disch := omega) only [bb, bt, zDs, zD, eqCells, simprocAttr]; refine hKK _ ?_; clear hKK KK)); (refine awOps_nil ?_); (refine hKR _ ?_); clear hKR KR; (repeat (first | refine q1 ?_ | refine q2 ?_ | refine q3 ?_ | refine q4 ?_ | refine q5 ?_ | refine q6 ?_ | refine q7 rfl ?_)))
    ((repeat refine AW_seq ?_); (refine AW_cond_k (tab := tab) fun KK hKK => ?_); simp (disch := omega) only [bb, bt, zDs, zD, eqCells, simprocAttr]; refine hKK _ ?_; clear hKK KK; (first | refine i1 ?_ | refine i0 ?_))
    ((repeat refine AW_seq ?_); (refine AW_skip ?_); (repeat (first | refine q1 ?_ | refine q2 ?_ | refine q3 ?_ | refine q4 ?_ | refine q5 ?_ | refine q6 ?_ | refine q7 rfl ?_)))
    ((repeat refine AW_seq ?_); (refine AW_region_k tab_ok fun KR hKR => ?_); (repeat ((first | refine awOps_n rfl fun KK hKK => ?_ | refine awOps_g rfl rfl fun KK hKK => ?_ | refine awOps_gc rfl fun KK hKK => ?_); simp (disch := omega) only [bb, bt, zDs, zD, eqCells, simprocAttr, isSlice, isCell_ints]; refine hKK _ ?_; clear hKK KK)); (refine awOps_nil ?_); (refine hKR _ ?_); clear hKR KR; (repeat (first | refine q1 ?_ | refine q2 ?_ | refine q3 ?_ | refine q4 ?_ | refine q5 ?_ | refine q6 ?_ | refine q7 rfl ?_)))
    ((repeat refine AW_seq ?_); (refine AW_ret ?_); (repeat (first | refine q1 ?_ | refine q2 ?_ | refine q3 ?_ | refine q4 ?_ | refine q5 ?_ | refine q6 ?_ | refine q7 rfl ?_)); simp (disch := omega) only [retQ, resD, oneD, rsv, rs, rsL, rsL_eq_map, List.map_map, bb, bt, zDs, zD, eqCells, simprocAttr, Try.results17])
    exact .inr ⟨0, t + 1, rfl, rfl⟩
end Go.Proofs.Ytcjmknmlfggblaa.T
