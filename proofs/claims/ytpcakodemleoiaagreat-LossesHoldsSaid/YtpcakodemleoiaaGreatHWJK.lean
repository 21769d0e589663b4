import Derived.Test.YtpcakodemleoiaaGreatHTB
import Derived.Test.YtpcakodemleoiaaGreatHWF
import Derived.Test.YtpcakodemleoiaaGreatHRefVal
import Derived.Test.YtpcakodemleoiaaGreatHWH
set_option linter.all false
section
namespace Go.Proofs.YtpcakodemleoiaaGreat.T
open Go Go.RowKit Lin
abbrev frD (p : Int × Int) : D := .agg [int p.1, int p.2]
def frC (l : List (Int × Int)) : List D := l.flatMap fun p => [int p.1, int p.2]
abbrev frs (l : List (Int × Int)) : D := .sl 2 (frC l) false
theorem Y0o (l : List (Int × Int)) : (frC l).length = l.length * 2 := by
 induction l with
 | nil => rfl
 | cons p l ih => simp only [frC, List.flatMap_cons, List.length_append, List.length_cons, List.length_nil] at ih ⊢; omega
theorem Y2q (l : List (Int × Int)) : (frC l).length / 2 = l.length := by rw [Y0o]; omega
theorem Y0p : ∀ (l : List (Int × Int)) (i : Nat) (p : Int × Int), l[i]? = some p → ((frC l).drop (i * 2)).take 2 = [int p.1, int p.2]
 | [], i, p, h => by simp at h
 | q :: l, 0, p, h => by simp at h; subst h; rfl
 | q :: l, i + 1, p, h => by
  have := Y0p l i p (by simpa using h)
  have e : (i + 1) * 2 = i * 2 + 1 + 1 := by omega
  rw [e]
  simpa [frC] using this
theorem rSize (n : Int) (h : -9223372036854775808 ≤ n ∧ n ≤ 9223372036854775807) : PRet Tryz.prog 45 [int n] (word n.natAbs) := by
 refine PRet.of_plain _ _ ⟨_, Tryz.func45, rfl, rfl⟩ rfl rfl rfl rfl fun w => ?_
 have := Y69 n h.1 h.2 w
 rw [show max n (-n) = (n.natAbs : Int) by omega] at this
 exact this.mono fun _ _ => Y6c
theorem rGcd (a b : Nat) (h : a < 18446744073709551616 ∧ b < 18446744073709551616) : PRet Tryz.prog 44 [word a, word b] (word (Nat.gcd a b : Nat)) :=
 PRet.of_plain _ _ ⟨_, Tryz.func44, rfl, rfl⟩ rfl rfl rfl rfl fun w => (Ybn a b h.1 h.2 w).mono fun _ _ => Y9z
theorem refGcd (a b : Nat) (h : a < 340282366920938463463374607431768211456 ∧ b < 340282366920938463463374607431768211456 ∧ 0 < b) : PRet Tryz.prog 69 [uD a, uD b] (uD (Nat.gcd a b)) :=
 PRet.of_plain _ _ ⟨_, Tryz.func69, rfl, rfl⟩ rfl rfl rfl rfl fun w => Yf6 (IsU.split h.1) (IsU.split h.2.1) h.2.2 w
theorem Y3y (n d : Int) : PRet Tryz.prog 43 [frD (n, d)] (bool (vfrac n d)) :=
 PRet.of_plain _ _ ⟨_, Tryz.func43, rfl, rfl⟩ rfl rfl rfl rfl fun w => ratio_Valid n d w
theorem Ybm (n d : Int) : PRet Tryz.prog 34 [frD (n, d)] (bool (vfrac n d)) :=
 PRet.of_plain _ _ ⟨_, Tryz.func34, rfl, rfl⟩ rfl rfl rfl rfl fun w => ref_FValid n d w
def signP (neg : Bool) (n d : Nat) : (Int × Int) × Int := if 1152921504606846976 < n ∨ 1152921504606846976 < d then ((0, 0), 5) else ((if neg = true then -(n : Int) else n, d), 0)
abbrev fe (x : (Int × Int) × Int) : D := .tup [frD x.1, int x.2]
set_option maxHeartbeats 1000000 in
theorem Yde (neg : Bool) (n d : Nat) (h : n < 18446744073709551616 ∧ d < 18446744073709551616) : PRet Tryz.prog 47 [bool neg, word n, word d] (fe (signP neg n d)) := by
 refine PRet.intro 2 fun t => ACall.enter tab_ok Tryz.func47 rfl rfl Tryz.ntmps47 (by simp) ?_
 simp only [Y06]
 ((refine wqa ?_))
 by_cases h1 : (1152921504606846976 : Int) < n
 ·((refine wqb h1 ?_))
  ((refine wia ?_))
  ((refine wqa ?_))
  ((repeat refine Y01 ?_); (refine wta ?_); simp (disch := omega) only [retQ, resD, oneD, rsv, rs, rsL, Y02, List.map_map, bb, bt, zDs, zD, Y00, simprocAttr, Tryz.results47])
  unfold signP; rw [if_pos (by omega)]
 ·by_cases h2 : (1152921504606846976 : Int) < d
  ·((refine wqb (F := _∧_) ⟨h1, h2⟩ ?_))
   ((refine wia ?_))
   ((refine wqa ?_))
   ((repeat refine Y01 ?_); (refine wta ?_); simp (disch := omega) only [retQ, resD, oneD, rsv, rs, rsL, Y02, List.map_map, bb, bt, zDs, zD, Y00, simprocAttr, Tryz.results47])
   unfold signP; rw [if_pos (by omega)]
  ·have e0 : signP neg n d = ((if neg = true then -(n : Int) else (n : Int), (d : Int)), (0 : Int)) := by unfold signP; rw [if_neg (by omega)]
   rw [e0]
   ((refine wqb (F := _∧_) ⟨h1, h2⟩ ?_))
   ((refine wia ?_))
   ((refine wsa ?_))
   ((refine wqa ?_))
   ((refine wqa ?_))
   cases neg
   ·((refine wia ?_))
    ((refine wsa ?_))
    ((refine wqa ?_))
    ((repeat refine Y01 ?_); (refine wta ?_); simp (disch := omega) only [retQ, resD, oneD, rsv, rs, rsL, Y02, List.map_map, bb, bt, zDs, zD, Y00, simprocAttr, Tryz.results47])
   ·((refine wia ?_))
    ((refine wqa ?_))
    ((refine wqa ?_))
    ((repeat refine Y01 ?_); (refine wta ?_); simp (disch := omega) only [retQ, resD, oneD, rsv, rs, rsL, Y02, List.map_map, bb, bt, zDs, zD, Y00, simprocAttr, Tryz.results47])
def makeP (n d : Int) : (Int × Int) × Int := if d = 0 then ((0, 0), 16) else signP (decide (n ≠ 0) && (decide (n < 0) != decide (d < 0))) (n.natAbs / Nat.gcd n.natAbs d.natAbs) (d.natAbs / Nat.gcd n.natAbs d.natAbs)
set_option maxHeartbeats 1000000 in
theorem make (n d : Int) (hn : -9223372036854775808 ≤ n ∧ n ≤ 9223372036854775807) (hd : -9223372036854775808 ≤ d ∧ d ≤ 9223372036854775807) : PRet Tryz.prog 37 [int n, int d] (fe (makeP n d)) := by
 refine PRet.intro 2 fun t => ACall.enter tab_ok Tryz.func37 rfl rfl Tryz.ntmps37 (by simp) ?_
 simp only [Y06]
 ((refine wqa ?_))
 by_cases hd0 : d = 0
 ·have e1 : (d == 0) = true := by simp [hd0]
  ((refine wqb e1 ?_))
  ((refine wia ?_))
  ((refine wqa ?_))
  ((repeat refine Y01 ?_); (refine wta ?_); simp (disch := omega) only [retQ, resD, oneD, rsv, rs, rsL, Y02, List.map_map, bb, bt, zDs, zD, Y00, simprocAttr, Tryz.results37])
  unfold makeP; rw [if_pos hd0]
 ·have e1 : (d == 0) = false := by simpa using hd0
  have hg : 0 < Nat.gcd n.natAbs d.natAbs := Nat.gcd_pos_of_pos_right _ (by omega)
  have hg' : ¬ ((Nat.gcd n.natAbs d.natAbs : Nat) : Int) = 0 := by omega
  have q1 : IntKind.u64.wrap ((n.natAbs : Int).tdiv (Nat.gcd n.natAbs d.natAbs : Nat)) = ((n.natAbs / Nat.gcd n.natAbs d.natAbs : Nat) : Int) := by
   rw [Int.tdiv_eq_ediv_of_nonneg (by omega), ← Int.natCast_ediv]
   have hle := Nat.div_le_self n.natAbs (Nat.gcd n.natAbs d.natAbs)
   generalize n.natAbs / Nat.gcd n.natAbs d.natAbs = z at *
   exact wu64 _ (by omega)
  have q2 : IntKind.u64.wrap ((d.natAbs : Int).tdiv (Nat.gcd n.natAbs d.natAbs : Nat)) = ((d.natAbs / Nat.gcd n.natAbs d.natAbs : Nat) : Int) := by
   rw [Int.tdiv_eq_ediv_of_nonneg (by omega), ← Int.natCast_ediv]
   have hle := Nat.div_le_self d.natAbs (Nat.gcd n.natAbs d.natAbs)
   generalize d.natAbs / Nat.gcd n.natAbs d.natAbs = z at *
   exact wu64 _ (by omega)
  have l1 := Nat.div_le_self n.natAbs (Nat.gcd n.natAbs d.natAbs)
  have l2 := Nat.div_le_self d.natAbs (Nat.gcd n.natAbs d.natAbs)
  ((refine wqb e1 ?_))
  ((refine wia ?_))
  ((refine wsa ?_))
  ((repeat refine Y01 ?_); (refine Y05 tab_ok fun KR hKR => ?_)); ((refine wra ?_))
  ((refine wka1 (rSize n hn) ?_))
  ((refine wra ?_))
  ((refine wka1 (rSize d hd) ?_))
  ((refine wra ?_)); ((refine wea ?_); (try clear hKR KR))
  ((repeat refine Y01 ?_); (refine Y05 tab_ok fun KR hKR => ?_)); ((refine wra ?_))
  ((refine wka1 (rGcd n.natAbs d.natAbs (by omega)) ?_))
  ((refine wra ?_)); ((refine wea ?_); (try clear hKR KR))
  have e0 : makeP n d = signP (decide (n ≠ 0) && (decide (n < 0) != decide (d < 0))) (n.natAbs / Nat.gcd n.natAbs d.natAbs) (d.natAbs / Nat.gcd n.natAbs d.natAbs) := by unfold makeP; rw [if_neg hd0]
  rw [e0]
  by_cases hn0 : n = 0
  ·have e2 : (n != 0) = false := by simp [hn0]
   have e3 : (decide (n ≠ 0) && (decide (n < 0) != decide (d < 0))) = false := by simp [hn0]
   rw [e3]
   have hs := Yde false (n.natAbs / Nat.gcd n.natAbs d.natAbs) (d.natAbs / Nat.gcd n.natAbs d.natAbs) (by omega)
   generalize signP false (n.natAbs / Nat.gcd n.natAbs d.natAbs) (d.natAbs / Nat.gcd n.natAbs d.natAbs) = r at *
   ((repeat refine Y01 ?_); (refine Y0a tab_ok Y08 0 fun KR hKR => ?_); simp only [List.replicate_succ, List.replicate_zero, List.append_nil, List.nil_append, List.cons_append, List.length_cons, List.length_nil, Nat.reduceAdd])
   ((refine wdb (F := _∧_∧_∧_) ⟨e2, hg', q1, q2⟩ ?_))
   ((first | refine Y19 fun KK hKK => ?_ | refine Y1a rfl fun KK hKK => ?_); simp (disch := omega) only [bb, bt, zDs, zD, Y00, simprocAttr, goCDS, Y0e, argsZ, argsD, ufa, uf]; refine PGive.ret (hs) ?_; simp (disch := omega) only [bb, bt, zDs, zD, Y00, simprocAttr, Y0x]; refine hKK _ _ _ ?_; clear hKK KK)
   ((refine wda ?_))
   ((refine Y0n ?_); simp only [List.reverse_cons, List.reverse_nil, List.nil_append, List.cons_append]; (refine hKR _ _ (by first | rfl | kernel_rfl) ?_); (try clear hKR KR); (repeat (with_reducible first | refine q1 ?_ | refine q2 ?_ | refine q3 ?_ | refine q4 ?_ | refine q5 ?_ | refine q6 ?_ | (refine q7 ?_ ?_; (focus (with_unfolding_all rfl))))))
   ((repeat refine Y01 ?_); (refine wta ?_); simp (disch := omega) only [retQ, resD, oneD, rsv, rs, rsL, Y02, List.map_map, bb, bt, zDs, zD, Y00, simprocAttr, Tryz.results37])
  ·have e2 : (n != 0) = true := by simpa using hn0
   have e3 : (decide (n ≠ 0) && (decide (n < 0) != decide (d < 0))) = (decide (n < 0) != decide (d < 0)) := by simp [hn0]
   rw [e3]
   have hs := Yde (decide (n < 0) != decide (d < 0)) (n.natAbs / Nat.gcd n.natAbs d.natAbs) (d.natAbs / Nat.gcd n.natAbs d.natAbs) (by omega)
   generalize signP (decide (n < 0) != decide (d < 0)) (n.natAbs / Nat.gcd n.natAbs d.natAbs) (d.natAbs / Nat.gcd n.natAbs d.natAbs) = r at *
   ((repeat refine Y01 ?_); (refine Y0a tab_ok Y08 0 fun KR hKR => ?_); simp only [List.replicate_succ, List.replicate_zero, List.append_nil, List.nil_append, List.cons_append, List.length_cons, List.length_nil, Nat.reduceAdd])
   ((refine wdb (F := _∧_∧_∧_) ⟨e2, hg', q1, q2⟩ ?_))
   ((first | refine Y19 fun KK hKK => ?_ | refine Y1a rfl fun KK hKK => ?_); simp (disch := omega) only [bb, bt, zDs, zD, Y00, simprocAttr, goCDS, Y0e, argsZ, argsD, ufa, uf]; refine PGive.ret (hs) ?_; simp (disch := omega) only [bb, bt, zDs, zD, Y00, simprocAttr, Y0x]; refine hKK _ _ _ ?_; clear hKK KK)
   ((refine wda ?_))
   ((refine Y0n ?_); simp only [List.reverse_cons, List.reverse_nil, List.nil_append, List.cons_append]; (refine hKR _ _ (by first | rfl | kernel_rfl) ?_); (try clear hKR KR); (repeat (with_reducible first | refine q1 ?_ | refine q2 ?_ | refine q3 ?_ | refine q4 ?_ | refine q5 ?_ | refine q6 ?_ | (refine q7 ?_ ?_; (focus (with_unfolding_all rfl))))))
   ((repeat refine Y01 ?_); (refine wta ?_); simp (disch := omega) only [retQ, resD, oneD, rsv, rs, rsL, Y02, List.map_map, bb, bt, zDs, zD, Y00, simprocAttr, Tryz.results37])
end Go.Proofs.YtpcakodemleoiaaGreat.T
end
section
namespace Go.Proofs.YtpcakodemleoiaaGreat.T
open Go Go.RowKit Lin
theorem uhl {z : Nat} (h : z < 340282366920938463463374607431768211456) : 0 ≤ uh z ∧ uh z ≤ 18446744073709551615 ∧ 0 ≤ ul z ∧ ul z ≤ 18446744073709551615 ∧ (z : Int) = uh z * 18446744073709551616 + ul z := IsU.split h
def madeP (n : Nat) (neg : Bool) (d : Nat) : (Int × Int) × Int := if d = 0 then ((0, 0), 16) else signP neg (n / Nat.gcd n d) (d / Nat.gcd n d)
set_option maxHeartbeats 1000000 in
theorem made (n : Nat) (neg : Bool) (d : Nat) (hn : n < 340282366920938463463374607431768211456) (hd : d < 340282366920938463463374607431768211456) : PRet Tryz.prog 95 [uD n, bool neg, uD d] (fe (madeP n neg d)) := by
 refine PRet.intro 2 fun t => ACall.enter tab_ok Tryz.func95 rfl rfl Tryz.ntmps95 (by simp) ?_
 simp only [Y06]
 ((refine wqa ?_))
 by_cases hd0 : d = 0
 ·have e1 : ((uh d == 0) && (ul d == 0)) = true := by subst hd0; decide
  ((refine wqb e1 ?_))
  ((refine wia ?_))
  ((refine wqa ?_))
  ((repeat refine Y01 ?_); (refine wta ?_); simp (disch := omega) only [retQ, resD, oneD, rsv, rs, rsL, Y02, List.map_map, bb, bt, zDs, zD, Y00, simprocAttr, Tryz.results95])
  unfold madeP; rw [if_pos hd0]
 ·have hdu := uhl hd
  have e1 : ((uh d == 0) && (ul d == 0)) = false := by
   by_cases k1 : uh d = 0
   ·have k2 : ¬ ul d = 0 := by omega
    simp [k1, k2]
   ·simp [k1]
  have hg : 0 < Nat.gcd n d := Nat.gcd_pos_of_pos_right _ (by omega)
  have hgl : Nat.gcd n d ≤ d := Nat.gcd_le_right _ (by omega)
  have hz : n / Nat.gcd n d ≤ n := Nat.div_le_self _ _
  have hy : d / Nat.gcd n d ≤ d := Nat.div_le_self _ _
  ((refine wqb e1 ?_))
  ((refine wia ?_))
  ((refine wsa ?_))
  ((repeat refine Y01 ?_); (refine Y05 tab_ok fun KR hKR => ?_)); ((refine wra ?_))
  ((refine wka1 (refGcd n d (by omega)) ?_))
  ((refine wra ?_)); ((refine wea ?_); (try clear hKR KR))
  ((repeat refine Y01 ?_); (refine Y05 tab_ok fun KR hKR => ?_)); ((refine wra ?_))
  ((refine wka1 (Yf9 n (Nat.gcd n d) (by omega)) ?_))
  ((refine wra ?_)); ((refine wea ?_); (try clear hKR KR))
  ((repeat refine Y01 ?_); (refine Y05 tab_ok fun KR hKR => ?_)); ((refine wra ?_))
  ((refine wka1 (Yf9 d (Nat.gcd n d) (by omega)) ?_))
  ((refine wra ?_)); ((refine wea ?_); (try clear hKR KR))
  have e0 : madeP n neg d = signP neg (n / Nat.gcd n d) (d / Nat.gcd n d) := by unfold madeP; rw [if_neg hd0]
  rw [e0]
  generalize n / Nat.gcd n d = z at *
  generalize d / Nat.gcd n d = y at *
  have zu := uhl (z := z) (by omega)
  have yu := uhl (z := y) (by omega)
  by_cases k1 : 0 < uh z
  ·((refine wqb k1 ?_))
   ((refine wia ?_))
   ((refine wqa ?_))
   ((repeat refine Y01 ?_); (refine wta ?_); simp (disch := omega) only [retQ, resD, oneD, rsv, rs, rsL, Y02, List.map_map, bb, bt, zDs, zD, Y00, simprocAttr, Tryz.results95])
   unfold signP; rw [if_pos (by omega)]
  by_cases k2 : 1152921504606846976 < ul z
  ·((refine wqb (F := _∧_) ⟨k1, k2⟩ ?_))
   ((refine wia ?_))
   ((refine wqa ?_))
   ((repeat refine Y01 ?_); (refine wta ?_); simp (disch := omega) only [retQ, resD, oneD, rsv, rs, rsL, Y02, List.map_map, bb, bt, zDs, zD, Y00, simprocAttr, Tryz.results95])
   unfold signP; rw [if_pos (by omega)]
  by_cases k3 : 0 < uh y
  ·((refine wqb (F := _∧_∧_) ⟨k1, k2, k3⟩ ?_))
   ((refine wia ?_))
   ((refine wqa ?_))
   ((repeat refine Y01 ?_); (refine wta ?_); simp (disch := omega) only [retQ, resD, oneD, rsv, rs, rsL, Y02, List.map_map, bb, bt, zDs, zD, Y00, simprocAttr, Tryz.results95])
   unfold signP; rw [if_pos (by omega)]
  by_cases k4 : 1152921504606846976 < ul y
  ·((refine wqb (F := _∧_∧_∧_) ⟨k1, k2, k3, k4⟩ ?_))
   ((refine wia ?_))
   ((refine wqa ?_))
   ((repeat refine Y01 ?_); (refine wta ?_); simp (disch := omega) only [retQ, resD, oneD, rsv, rs, rsL, Y02, List.map_map, bb, bt, zDs, zD, Y00, simprocAttr, Tryz.results95])
   unfold signP; rw [if_pos (by omega)]
  have hzz : ul z = z := by omega
  have hyy : ul y = y := by omega
  have e5 : signP neg z y = ((if neg = true then -(z : Int) else (z : Int), (y : Int)), (0 : Int)) := by unfold signP; rw [if_neg (by omega)]
  rw [e5]
  ((refine wqb (F := _∧_∧_∧_) ⟨k1, k2, k3, k4⟩ ?_))
  ((refine wia ?_))
  ((refine wsa ?_))
  ((refine wqa ?_))
  cases neg
  ·((refine wia ?_))
   ((refine wsa ?_))
   ((refine wqb (F := _∧_) ⟨hzz, hyy⟩ ?_))
   ((repeat refine Y01 ?_); (refine wta ?_); simp (disch := omega) only [retQ, resD, oneD, rsv, rs, rsL, Y02, List.map_map, bb, bt, zDs, zD, Y00, simprocAttr, Tryz.results95])
  ·((refine wia ?_))
   ((refine wqb (F := _∧_) ⟨hzz, hyy⟩ ?_))
   ((repeat refine Y01 ?_); (refine wta ?_); simp (disch := omega) only [retQ, resD, oneD, rsv, rs, rsL, Y02, List.map_map, bb, bt, zDs, zD, Y00, simprocAttr, Tryz.results95])
theorem Y90 (a b : Bool) (d : Nat) : signP a 0 d = signP b 0 d := by
 unfold signP
 split
 ·rfl
 ·cases a <;> cases b <;> rfl
theorem Yc0 (n d : Int) : makeP n d = madeP n.natAbs (decide (n < 0) != decide (d < 0)) d.natAbs := by
 unfold makeP madeP
 by_cases hd : d = 0
 ·rw [if_pos hd, if_pos (by omega)]
 ·rw [if_neg hd, if_neg (by omega)]
  by_cases hn : n = 0
  ·subst hn
   simp only [Int.natAbs_zero, Nat.zero_div]
   exact Y90 _ _ _
  ·simp [hn]
theorem refMake (n d : Int) (hn : -9223372036854775808 ≤ n ∧ n ≤ 9223372036854775807) (hd : -9223372036854775808 ≤ d ∧ d ≤ 9223372036854775807) : PRet Tryz.prog 133 [int n, int d] (fe (makeP n d)) := by
 have huh : ∀ x : Int, -9223372036854775808 ≤ x ∧ x ≤ 9223372036854775807 → uh x.natAbs = 0 ∧ ul x.natAbs = x.natAbs := fun x hx => by unfold uh ul; omega
 have hm := made n.natAbs (decide (n < 0) != decide (d < 0)) d.natAbs (by omega) (by omega)
 rw [← Yc0] at hm
 simp only [uD, (huh n hn).1, (huh n hn).2, (huh d hd).1, (huh d hd).2] at hm
 refine PRet.intro 2 fun t => ACall.enter tab_ok Tryz.func133 rfl rfl Tryz.ntmps133 (by simp) ?_
 simp only [Y06]
 ((refine wqa ?_))
 generalize makeP n d = r at *
 ((repeat refine Y01 ?_); (refine Y05 tab_ok fun KR hKR => ?_)); ((refine wra ?_))
 ((refine wka1 (Y17 n hn) ?_))
 ((refine wra ?_))
 ((refine wka1 (Y17 d hd) ?_))
 ((refine wra ?_))
 ((refine wka1 hm ?_))
 ((refine wra ?_)); ((refine wea ?_); (try clear hKR KR))
 ((repeat refine Y01 ?_); (refine wta ?_); simp (disch := omega) only [retQ, resD, oneD, rsv, rs, rsL, Y02, List.map_map, bb, bt, zDs, zD, Y00, simprocAttr, Tryz.results133])
theorem refOf (n : Int) : PRet Tryz.prog 62 [int n] (frD (n, 1)) := by
 refine PRet.intro 2 fun t => ACall.enter tab_ok Tryz.func62 rfl rfl Tryz.ntmps62 (by simp) ?_
 simp only [Y06]
 ((refine wqa ?_))
 ((refine wqa ?_))
 ((repeat refine Y01 ?_); (refine wta ?_); simp (disch := omega) only [retQ, resD, oneD, rsv, rs, rsL, Y02, List.map_map, bb, bt, zDs, zD, Y00, simprocAttr, Tryz.results62])
def idxN (x : Int) : List Int → Nat → Int
 | [], _ => -1
 | y :: r, k => if x = y then k else idxN x r (k + 1)
theorem Ydw (x : Int) : ∀ (l : List Int) (k : Nat), decide (0 ≤ idxN x l k) = l.contains x
 | [], k => by simp [idxN]
 | y :: r, k => by
  have := Ydw x r (k + 1)
  rw [List.contains_cons, ← this]
  by_cases h : x = y
  ·subst h; simp [idxN]
  ·simp [idxN, h]
theorem indexInts (l : List Int) (x : Int) (hl : l.length ≤ 1000000) : PRet Tryz.prog 145 [ints l, int x] (int (idxN x l 0)) := by
 refine PRet.intro 1 fun t => ACall.enter tab_ok Tryz.func145 rfl rfl Tryz.ntmps145 (by simp) ?_
 simp only [Y06]
 ((refine wqa ?_))
 ((refine wqa ?_))
 ((repeat refine Y01 ?_))
 refine Y04 ?_
 refine Y07 (fun k : Nat => ⟨[(0, ints l), (1, int x), (7, int l.length), (8, int k)], [], t⟩) (fun k => l.length - k) (fun k => k ≤ l.length ∧ idxN x l 0 = idxN x (l.drop k) k) 0 ⟨Nat.zero_le _, rfl⟩ (by (simp (disch := omega) only [StLe, tmLe, Y03, hpLe, bl, bb, bt, zDs, zD, Y00, simprocAttr])) fun k ⟨hk, hi⟩ => ?_
 by_cases hlt : k < l.length
 ·obtain ⟨y, hy⟩ : ∃ y, l[k]? = some y := ⟨_, List.getElem?_eq_getElem hlt⟩
  have hd : l.drop k = y :: l.drop (k + 1) := by
   obtain ⟨h1, h2⟩ := List.getElem?_eq_some_iff.1 hy
   rw [List.drop_eq_getElem_cons h1, h2]
  rw [hd] at hi
  ((refine wqb (F := _∧_) ⟨@Int.ofNat_lt, hlt⟩ ?_))
  ((refine wia ?_))
  ((refine wsa ?_))
  ((repeat refine Y01 ?_))
  refine Y04 ?_
  ((refine wqa ?_))
  by_cases hxy : x = y
  ·have e1 : (x == y) = true := by simp [hxy]
   ((refine wqb (F := _∧_∧_) ⟨hlt, hy, e1⟩ ?_))
   ((refine wia ?_))
   ((refine wqa ?_))
   ((repeat refine Y01 ?_); (refine wta ?_); simp (disch := omega) only [retQ, resD, oneD, rsv, rs, rsL, Y02, List.map_map, bb, bt, zDs, zD, Y00, simprocAttr, Tryz.results145, hi])
   simp only [idxN, hxy, if_true]
  ·have e1 : (x == y) = false := by simpa using hxy
   ((refine wqb (F := _∧_∧_) ⟨hlt, hy, e1⟩ ?_))
   ((refine wia ?_))
   ((refine wsa ?_))
   ((refine wqa ?_))
   refine ⟨k + 1, ⟨hlt, by rw [hi]; simp only [idxN]; rw [if_neg hxy]⟩, by omega, ?_⟩
   (simp (disch := omega) only [StLe, tmLe, Y03, hpLe, bl, bb, bt, zDs, zD, Y00, simprocAttr])
 ·((refine wqb (F := _∧_) ⟨@Int.ofNat_lt, hlt⟩ ?_))
  ((refine wia ?_))
  ((refine wxa ?_))
  ((refine wqa ?_))
  ((repeat refine Y01 ?_); (refine wta ?_); simp (disch := omega) only [retQ, resD, oneD, rsv, rs, rsL, Y02, List.map_map, bb, bt, zDs, zD, Y00, simprocAttr, Tryz.results145, hi])
  rw [List.drop_eq_nil_of_le (by omega)]; rfl
theorem containsInts (l : List Int) (x : Int) (hl : l.length ≤ 1000000) : PRet Tryz.prog 130 [ints l, int x] (bool (l.contains x)) := by
 refine PRet.intro 1 fun t => ACall.enter tab_ok Tryz.func130 rfl rfl Tryz.ntmps130 (by simp) ?_
 simp only [Y06]
 ((refine wqa ?_))
 ((repeat refine Y01 ?_); (refine Y05 tab_ok fun KR hKR => ?_)); ((refine wra ?_))
 ((refine wka1 (indexInts l x hl) ?_))
 ((refine wra ?_)); ((refine wea ?_); (try clear hKR KR))
 ((repeat refine Y01 ?_); (refine wta ?_); simp (disch := omega) only [retQ, resD, oneD, rsv, rs, rsL, Y02, List.map_map, bb, bt, zDs, zD, Y00, simprocAttr, Tryz.results130])
 rw [← Ydw x l 0]
end Go.Proofs.YtpcakodemleoiaaGreat.T
end

