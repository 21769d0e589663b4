import Derived.Test.YtpbpafmgkdihlaaGreatDoorQTB
import Derived.Test.YtpbpafmgkdihlaaGreatDoorQWA
import Derived.Test.YtpbpafmgkdihlaaGreatDoorQWB
set_option linter.all false
namespace Go.Proofs.YtpbpafmgkdihlaaGreatDoor.T
open Go Go.RowKit
theorem Yhj (l : List Int) : Y11 (l.map int) = true := by
 induction l with
 | nil => rfl
 | cons x r ih => simp [Y11, Y17, ih]
theorem Yi3 (l : List Int) : (l.map int).all Y26 = true := by
 induction l with
 | nil => rfl
 | cons x r ih => rw [List.map_cons, List.all_cons, ih]; rfl
theorem Y7z (l : List Int) (hl : l.length ≤ 1000000) : PFresh Tryz.prog 106 [ints l] 3 1 l.length (l.map int) := by
 refine PFresh.intro (Yhj l) fun t => ACall.enter tab_ok Tryz.func106 rfl rfl Tryz.ntmps106 (by simp) ?_
 simp only [Y04]
 refine wqa ?_
 cases l with
 | nil =>
  ((repeat refine Y00 ?_); (refine Y03 tab_ok fun KR hKR => ?_)); ((refine wra ?_))
  (refine Ymp (by focus (simp (disch := omega) only [bb, bt, zDs, zD, Y01, simprocAttr, Y1y, nilT]; done)) (by decide) (by focus (simp (disch := omega) only [bb, bt, zDs, zD, Y01, simprocAttr, Y1y, nilT]; done)) fun KK hKK q => ?_; simp only [St.put, Y1r, ↓reduceIte, Nat.reduceEqDiff]; refine hKK _ ?_; clear hKK KK)
  ((refine wea ?_); (try clear hKR KR))
  cases q
  ·refine wia ?_
   refine wsa ?_
   ((repeat refine Y00 ?_); (refine Y03 tab_ok fun KR hKR => ?_); (repeat ((first | refine Y19 rfl fun KK hKK => ?_ | refine Y1a rfl rfl fun KK hKK => ?_ | refine Y08 rfl fun KK hKK => ?_); simp (disch := omega) only [bb, bt, zDs, zD, Y01, simprocAttr, Y1y]; refine hKK _ ?_; clear hKK KK)); (refine Y0o ?_); (refine hKR _ ?_); (try clear hKR KR); (refine qq1 ?_))
   refine exq Tryz.results106 ?_
   exact .inl ⟨1, by omega, rfl⟩
  ·refine wia ?_
   refine wqa ?_
   refine exq Tryz.results106 ?_
   exact .inl ⟨1, by omega, rfl⟩
 | cons x r =>
  simp only [List.length_cons] at hl
  refine wqa ?_
  refine wia ?_
  refine wsa ?_
  ((repeat refine Y00 ?_); (refine Y03 tab_ok fun KR hKR => ?_); (repeat ((first | refine Y19 rfl fun KK hKK => ?_ | refine Y1a rfl rfl fun KK hKK => ?_ | refine Y08 rfl fun KK hKK => ?_); simp (disch := omega) only [bb, bt, zDs, zD, Y01, simprocAttr, Y1y, Yi3]; refine hKK _ ?_; clear hKK KK)); (refine Y0o ?_); (refine hKR _ ?_); (try clear hKR KR); (refine qq1 ?_))
  refine exq Tryz.results106 ?_
  exact .inr ⟨0, t + 1, rfl, rfl⟩
end Go.Proofs.YtpbpafmgkdihlaaGreatDoor.T
