import Derived.Test.YtpcakodemleoiaaGreatHTB
import Derived.Test.YtpcakodemleoiaaGreatHWA
import Derived.Test.YtpcakodemleoiaaGreatHWB
set_option linter.all false
namespace Go.Proofs.YtpcakodemleoiaaGreat.T
open Go Go.RowKit
theorem Y4w (l : List Int) : Y0q (l.map int) = true := by
 induction l with
 | nil => rfl
 | cons x r ih => simp [Y0q, Y0z, ih]
theorem Y7x (l : List Int) : (l.map int).all Y1u = true := by
 induction l with
 | nil => rfl
 | cons x r ih => rw [List.map_cons, List.all_cons, ih]; rfl
theorem cloneInts (l : List Int) (hl : l.length ≤ 1000000) : PFresh Tryz.prog 122 [ints l] 3 1 l.length (l.map int) := by
 refine PFresh.intro (Y4w l) fun t => ACall.enter tab_ok Tryz.func122 rfl rfl Tryz.ntmps122 (by simp) ?_
 simp only [Y06]
 ((refine wqa ?_))
 cases l with
 | nil =>
  ((repeat refine Y01 ?_); (refine Y05 tab_ok fun KR hKR => ?_)); ((refine wra ?_))
  (refine awOps_nilk (by focus (simp (disch := omega) only [bb, bt, zDs, zD, Y00, simprocAttr, Y1h, nilT]; done)) (by decide) (by focus (simp (disch := omega) only [bb, bt, zDs, zD, Y00, simprocAttr, Y1h, nilT]; done)) fun KK hKK q => ?_; simp only [St.put, putTM, ↓reduceIte, Nat.reduceEqDiff]; refine hKK _ ?_; clear hKK KK)
  ((refine wea ?_); (try clear hKR KR))
  cases q
  ·((refine wia ?_))
   ((refine wsa ?_))
   ((repeat refine Y01 ?_); (refine Y05 tab_ok fun KR hKR => ?_); (repeat ((first | refine Y0r rfl fun KK hKK => ?_ | refine Y0s rfl rfl fun KK hKK => ?_ | refine Y0c rfl fun KK hKK => ?_); simp (disch := omega) only [bb, bt, zDs, zD, Y00, simprocAttr, Y1h]; refine hKK _ ?_; clear hKK KK)); (refine Y0g ?_); (refine hKR _ ?_); (try clear hKR KR); (repeat (with_reducible first | refine q1 ?_ | refine q2 ?_ | refine q3 ?_ | refine q4 ?_ | refine q5 ?_ | refine q6 ?_ | (refine q7 ?_ ?_; (focus (with_unfolding_all rfl))))))
   ((repeat refine Y01 ?_); (refine wta ?_); simp (disch := omega) only [retQ, resD, oneD, rsv, rs, rsL, Y02, List.map_map, bb, bt, zDs, zD, Y00, simprocAttr, Tryz.results122])
   exact .inl ⟨1, by omega, rfl⟩
  ·((refine wia ?_))
   ((refine wqa ?_))
   ((repeat refine Y01 ?_); (refine wta ?_); simp (disch := omega) only [retQ, resD, oneD, rsv, rs, rsL, Y02, List.map_map, bb, bt, zDs, zD, Y00, simprocAttr, Tryz.results122])
   exact .inl ⟨1, by omega, rfl⟩
 | cons x r =>
  simp only [List.length_cons] at hl
  ((refine wqa ?_))
  ((refine wia ?_))
  ((refine wsa ?_))
  ((repeat refine Y01 ?_); (refine Y05 tab_ok fun KR hKR => ?_); (repeat ((first | refine Y0r rfl fun KK hKK => ?_ | refine Y0s rfl rfl fun KK hKK => ?_ | refine Y0c rfl fun KK hKK => ?_); simp (disch := omega) only [bb, bt, zDs, zD, Y00, simprocAttr, Y1h, Y7x]; refine hKK _ ?_; clear hKK KK)); (refine Y0g ?_); (refine hKR _ ?_); (try clear hKR KR); (repeat (with_reducible first | refine q1 ?_ | refine q2 ?_ | refine q3 ?_ | refine q4 ?_ | refine q5 ?_ | refine q6 ?_ | (refine q7 ?_ ?_; (focus (with_unfolding_all rfl))))))
  ((repeat refine Y01 ?_); (refine wta ?_); simp (disch := omega) only [retQ, resD, oneD, rsv, rs, rsL, Y02, List.map_map, bb, bt, zDs, zD, Y00, simprocAttr, Tryz.results122])
  exact .inr ⟨0, t + 1, rfl, rfl⟩
end Go.Proofs.YtpcakodemleoiaaGreat.T

