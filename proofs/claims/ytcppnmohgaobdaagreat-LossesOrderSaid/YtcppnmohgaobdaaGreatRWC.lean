import Derived.Test.YtcppnmohgaobdaaGreatRTB
import Derived.Test.YtcppnmohgaobdaaGreatRWA
import Derived.Test.YtcppnmohgaobdaaGreatRWB
set_option linter.all false
namespace Go.Proofs.YtcppnmohgaobdaaGreat.T
open Go Go.RowKit
theorem plainL_ints (l : List Int) : plainL (l.map int) = true := by
  induction l with
  | nil => rfl
  | cons x r ih => simp [plainL, plainD, ih]
theorem isCell_ints (l : List Int) : (l.map int).all isCell = true := by
  induction l with
  | nil => rfl
  | cons x r ih => rw [List.map_cons, List.all_cons, ih]; rfl
theorem cloneInts (l : List Int) (hl : l.length ≤ 1000000) : PFresh Tryz.prog 99 [ints l] 3 1 l.length (l.map int) := by
  refine PFresh.intro (plainL_ints l) fun t => ACall.enter tab_ok Tryz.func99 rfl rfl Tryz.ntmps99 (by simp) ?_
  simp only [enterTM]
  ((refine wqa ?_))
  cases l with
  | nil =>
    ((repeat refine AW_seq ?_); (refine AW_region_k tab_ok fun KR hKR => ?_)); ((refine wra ?_))
    (refine awOps_nilk (by focus (simp (disch := omega) only [bb, bt, zDs, zD, eqCells, simprocAttr, isSlice, nilT]; done)) (by decide) (by focus (simp (disch := omega) only [bb, bt, zDs, zD, eqCells, simprocAttr, isSlice, nilT]; done)) fun KK hKK q => ?_; simp only [St.put, putTM, ↓reduceIte, Nat.reduceEqDiff]; refine hKK _ ?_; clear hKK KK)
    ((refine wea ?_); (try clear hKR KR))
    cases q
    · ((refine wia ?_))
      ((refine wsa ?_))
      ((repeat refine AW_seq ?_); (refine AW_region_k tab_ok fun KR hKR => ?_); (repeat ((first | refine awOps_n rfl fun KK hKK => ?_ | refine awOps_g rfl rfl fun KK hKK => ?_ | refine awOps_gc rfl fun KK hKK => ?_); simp (disch := omega) only [bb, bt, zDs, zD, eqCells, simprocAttr, isSlice]; refine hKK _ ?_; clear hKK KK)); (refine awOps_nil ?_); (refine hKR _ ?_); (try clear hKR KR); (repeat (with_reducible first | refine q1 ?_ | refine q2 ?_ | refine q3 ?_ | refine q4 ?_ | refine q5 ?_ | refine q6 ?_ | (refine q7 ?_ ?_; (focus (with_unfolding_all rfl))))))
      ((repeat refine AW_seq ?_); (refine wta ?_); simp (disch := omega) only [retQ, resD, oneD, rsv, rs, rsL, rsL_eq_map, List.map_map, bb, bt, zDs, zD, eqCells, simprocAttr, Tryz.results99])
      exact .inl ⟨1, by omega, rfl⟩
    · ((refine wia ?_))
      ((refine wqa ?_))
      ((repeat refine AW_seq ?_); (refine wta ?_); simp (disch := omega) only [retQ, resD, oneD, rsv, rs, rsL, rsL_eq_map, List.map_map, bb, bt, zDs, zD, eqCells, simprocAttr, Tryz.results99])
      exact .inl ⟨1, by omega, rfl⟩
  | cons x r =>
    simp only [List.length_cons] at hl
    ((refine wqa ?_))
    ((refine wia ?_))
    ((refine wsa ?_))
    ((repeat refine AW_seq ?_); (refine AW_region_k tab_ok fun KR hKR => ?_); (repeat ((first | refine awOps_n rfl fun KK hKK => ?_ | refine awOps_g rfl rfl fun KK hKK => ?_ | refine awOps_gc rfl fun KK hKK => ?_); simp (disch := omega) only [bb, bt, zDs, zD, eqCells, simprocAttr, isSlice, isCell_ints]; refine hKK _ ?_; clear hKK KK)); (refine awOps_nil ?_); (refine hKR _ ?_); (try clear hKR KR); (repeat (with_reducible first | refine q1 ?_ | refine q2 ?_ | refine q3 ?_ | refine q4 ?_ | refine q5 ?_ | refine q6 ?_ | (refine q7 ?_ ?_; (focus (with_unfolding_all rfl))))))
    ((repeat refine AW_seq ?_); (refine wta ?_); simp (disch := omega) only [retQ, resD, oneD, rsv, rs, rsL, rsL_eq_map, List.map_map, bb, bt, zDs, zD, eqCells, simprocAttr, Tryz.results99])
    exact .inr ⟨0, t + 1, rfl, rfl⟩
end Go.Proofs.YtcppnmohgaobdaaGreat.T

