import Derived.Test.YthabldkbiedfmaaTB
import Derived.Test.YthabldkbiedfmaaWF
import Derived.Test.YthabldkbiedfmaaRefVal
import Derived.Test.YthabldkbiedfmaaWH
set_option linter.all false
namespace Go.Proofs.Ythabldkbiedfmaa.T
open Go Go.RowKit Lin
set_option linter.unusedSimpArgs false

/-! Fractions. -/
abbrev frD (p : Int × Int) : D := .agg [int p.1, int p.2]
def frC (l : List (Int × Int)) : List D := l.flatMap fun p => [int p.1, int p.2]
abbrev frs (l : List (Int × Int)) : D := .sl 2 (frC l) false
theorem frC_len (l : List (Int × Int)) : (frC l).length = l.length * 2 := by
  induction l with
  | nil => rfl
  | cons p l ih => simp only [frC, List.flatMap_cons, List.length_append, List.length_cons, List.length_nil] at ih ⊢; omega
theorem frC_div (l : List (Int × Int)) : (frC l).length / 2 = l.length := by rw [frC_len]; omega
theorem frC_read : ∀ (l : List (Int × Int)) (i : Nat) (p : Int × Int), l[i]? = some p → ((frC l).drop (i * 2)).take 2 = [int p.1, int p.2]
  | [], i, p, h => by simp at h
  | q :: l, 0, p, h => by simp at h; subst h; rfl
  | q :: l, i + 1, p, h => by
    have := frC_read l i p (by simpa using h)
    have e : (i + 1) * 2 = i * 2 + 1 + 1 := by omega
    rw [e]
    simpa [frC] using this
theorem frC_readC (l : List (Int × Int)) (i : Nat) (p : Int × Int) (h : l[i]? = some p) : readC (frC l) (i * 2) 2 = some [int p.1, int p.2] := by
  have hi := (List.getElem?_eq_some_iff.1 h).1
  have hl := frC_len l
  unfold readC
  rw [if_neg (by decide), if_pos (by omega), frC_read l i p h]

/-! Gcd, size, signed, Make. -/
theorem rSize (n : Int) (h : -9223372036854775808 ≤ n ∧ n ≤ 9223372036854775807) : PRet Try.prog 121 [int n] (word n.natAbs) := by
  refine PRet.of_plain _ _ ⟨_, Try.func121, rfl, rfl⟩ rfl rfl rfl rfl fun w => ?_
  have := ratio_size n h.1 h.2 w
  rw [show max n (-n) = (n.natAbs : Int) by omega] at this
  exact this.mono fun _ _ => below_same
theorem rGcd (a b : Nat) (h : a < 18446744073709551616 ∧ b < 18446744073709551616) : PRet Try.prog 119 [word a, word b] (word (Nat.gcd a b : Nat)) :=
  PRet.of_plain _ _ ⟨_, Try.func119, rfl, rfl⟩ rfl rfl rfl rfl fun w => (ratio_gcd a b h.1 h.2 w).mono fun _ _ => below_drew
theorem refGcd (a b : Nat) (h : a < 340282366920938463463374607431768211456 ∧ b < 340282366920938463463374607431768211456 ∧ 0 < b) : PRet Try.prog 215 [uD a, uD b] (uD (Nat.gcd a b)) :=
  PRet.of_plain _ _ ⟨_, Try.func215, rfl, rfl⟩ rfl rfl rfl rfl fun w => ref_Gcd (IsU.split h.1) (IsU.split h.2.1) h.2.2 w
theorem rValid (n d : Int) : PRet Try.prog 118 [frD (n, d)] (bool (vfrac n d)) :=
  PRet.of_plain _ _ ⟨_, Try.func118, rfl, rfl⟩ rfl rfl rfl rfl fun w => ratio_Valid n d w
theorem refFValid (n d : Int) : PRet Try.prog 153 [frD (n, d)] (bool (vfrac n d)) :=
  PRet.of_plain _ _ ⟨_, Try.func153, rfl, rfl⟩ rfl rfl rfl rfl fun w => ref_FValid n d w

/-- A fraction in lowest terms, if it fits, and an error number. -/
def signP (neg : Bool) (n d : Nat) : (Int × Int) × Int := if 1152921504606846976 < n ∨ 1152921504606846976 < d then ((0, 0), 5) else ((if neg = true then -(n : Int) else n, d), 0)
abbrev fe (x : (Int × Int) × Int) : D := .tup [frD x.1, int x.2]
set_option maxHeartbeats 1000000 in
theorem signed (neg : Bool) (n d : Nat) (h : n < 18446744073709551616 ∧ d < 18446744073709551616) : PRet Try.prog 126 [bool neg, word n, word d] (fe (signP neg n d)) := by
  refine PRet.intro 2 fun t => ACall.enter tab_ok Try.func126 rfl rfl Try.ntmps126 (by simp) ?_
  simp only [enterTM]
  ((refine wqa ?_))
  by_cases h1 : (1152921504606846976 : Int) < n
  · ((refine wqb h1 ?_))
    ((refine wia ?_))
    ((refine wqa ?_))
    ((repeat refine AW_seq ?_); (refine wta ?_); simp (disch := omega) only [retQ, resD, oneD, rsv, rs, rsL, rsL_eq_map, List.map_map, bb, bt, zDs, zD, eqCells, simprocAttr, Try.results126])
    unfold signP; rw [if_pos (by omega)]
  · by_cases h2 : (1152921504606846976 : Int) < d
    · ((refine wqb (F := _∧_) ⟨h1, h2⟩ ?_))
      ((refine wia ?_))
      ((refine wqa ?_))
      ((repeat refine AW_seq ?_); (refine wta ?_); simp (disch := omega) only [retQ, resD, oneD, rsv, rs, rsL, rsL_eq_map, List.map_map, bb, bt, zDs, zD, eqCells, simprocAttr, Try.results126])
      unfold signP; rw [if_pos (by omega)]
    · have e0 : signP neg n d = ((if neg = true then -(n : Int) else (n : Int), (d : Int)), (0 : Int)) := by unfold signP; rw [if_neg (by omega)]
      rw [e0]
      ((refine wqb (F := _∧_) ⟨h1, h2⟩ ?_))
      ((refine wia ?_))
      ((refine wsa ?_))
      ((refine wqa ?_))
      ((refine wqa ?_))
      cases neg
      · ((refine wia ?_))
        ((refine wsa ?_))
        ((refine wqa ?_))
        ((repeat refine AW_seq ?_); (refine wta ?_); simp (disch := omega) only [retQ, resD, oneD, rsv, rs, rsL, rsL_eq_map, List.map_map, bb, bt, zDs, zD, eqCells, simprocAttr, Try.results126])
      · ((refine wia ?_))
        ((refine wqa ?_))
        ((refine wqa ?_))
        ((repeat refine AW_seq ?_); (refine wta ?_); simp (disch := omega) only [retQ, resD, oneD, rsv, rs, rsL, rsL_eq_map, List.map_map, bb, bt, zDs, zD, eqCells, simprocAttr, Try.results126])

/-- The fraction with a value. -/
def makeP (n d : Int) : (Int × Int) × Int := if d = 0 then ((0, 0), 16) else signP (decide (n ≠ 0) && (decide (n < 0) != decide (d < 0))) (n.natAbs / Nat.gcd n.natAbs d.natAbs) (d.natAbs / Nat.gcd n.natAbs d.natAbs)
set_option maxHeartbeats 1000000 in
theorem make (n d : Int) (hn : -9223372036854775808 ≤ n ∧ n ≤ 9223372036854775807) (hd : -9223372036854775808 ≤ d ∧ d ≤ 9223372036854775807) : PRet Try.prog 197 [int n, int d] (fe (makeP n d)) := by
  refine PRet.intro 2 fun t => ACall.enter tab_ok Try.func197 rfl rfl Try.ntmps197 (by simp) ?_
  simp only [enterTM]
  ((refine wqa ?_))
  by_cases hd0 : d = 0
  · have e1 : (d == 0) = true := by simp [hd0]
    ((refine wqb e1 ?_))
    ((refine wia ?_))
    ((refine wqa ?_))
    ((repeat refine AW_seq ?_); (refine wta ?_); simp (disch := omega) only [retQ, resD, oneD, rsv, rs, rsL, rsL_eq_map, List.map_map, bb, bt, zDs, zD, eqCells, simprocAttr, Try.results197])
    unfold makeP; rw [if_pos hd0]
  · have e1 : (d == 0) = false := by simpa using hd0
    have hg : 0 < Nat.gcd n.natAbs d.natAbs := Nat.gcd_pos_of_pos_right _ (by omega)
    have hg' : ¬ ((Nat.gcd n.natAbs d.natAbs : Nat) : Int) = 0 := by omega
    have q1 : IntKind.u64.wrap ((n.natAbs : Int).tdiv (Nat.gcd n.natAbs d.natAbs : Nat)) = ((n.natAbs / Nat.gcd n.natAbs d.natAbs : Nat) : Int) := by
      rw [Int.tdiv_eq_ediv_of_nonneg (by omega), ← Int.natCast_ediv]
      have hle := Nat.div_le_self n.natAbs (Nat.gcd n.natAbs d.natAbs)
      generalize n.natAbs / Nat.gcd n.natAbs d.natAbs = z at *
      exact wu64 _ (by omega)
    have q2 : IntKind.u64.wrap ((d.natAbs : Int).tdiv (Nat.gcd n.natAbs d.natAbs : Nat)) = ((d.natAbs / Nat.gcd n.natAbs d.natAbs : Nat) : Int) := by
      rw [Int.tdiv_eq_ediv_of_nonneg (by omega), ← Int.natCast_ediv]
      have hle := Nat.div_le_self d.natAbs (Nat.gcd n.natAbs d.natAbs)
      generalize d.natAbs / Nat.gcd n.natAbs d.natAbs = z at *
      exact wu64 _ (by omega)
    have l1 := Nat.div_le_self n.natAbs (Nat.gcd n.natAbs d.natAbs)
    have l2 := Nat.div_le_self d.natAbs (Nat.gcd n.natAbs d.natAbs)
    ((refine wqb e1 ?_))
    ((refine wia ?_))
    ((refine wsa ?_))
    ((repeat refine AW_seq ?_); (refine AW_region_k tab_ok fun KR hKR => ?_)); ((refine wra ?_))
    ((refine wka1 (rSize n hn) ?_))
    ((refine wra ?_))
    ((refine wka1 (rSize d hd) ?_))
    ((refine wra ?_)); ((refine wea ?_); (try clear hKR KR))
    ((repeat refine AW_seq ?_); (refine AW_region_k tab_ok fun KR hKR => ?_)); ((refine wra ?_))
    ((refine wka1 (rGcd n.natAbs d.natAbs (by omega)) ?_))
    ((refine wra ?_)); ((refine wea ?_); (try clear hKR KR))
    have e0 : makeP n d = signP (decide (n ≠ 0) && (decide (n < 0) != decide (d < 0))) (n.natAbs / Nat.gcd n.natAbs d.natAbs) (d.natAbs / Nat.gcd n.natAbs d.natAbs) := by unfold makeP; rw [if_neg hd0]
    rw [e0]
    by_cases hn0 : n = 0
    · have e2 : (n != 0) = false := by simp [hn0]
      have e3 : (decide (n ≠ 0) && (decide (n < 0) != decide (d < 0))) = false := by simp [hn0]
      rw [e3]
      have hs := signed false (n.natAbs / Nat.gcd n.natAbs d.natAbs) (d.natAbs / Nat.gcd n.natAbs d.natAbs) (by omega)
      generalize signP false (n.natAbs / Nat.gcd n.natAbs d.natAbs) (d.natAbs / Nat.gcd n.natAbs d.natAbs) = r at *
      ((repeat refine AW_seq ?_); (refine AW_drawn_k tab_ok follows_mixed 0 fun KR hKR => ?_); simp only [List.replicate_succ, List.replicate_zero, List.append_nil, List.nil_append, List.cons_append, List.length_cons, List.length_nil, Nat.reduceAdd])
      ((refine wdb (F := _∧_∧_∧_) ⟨e2, hg', q1, q2⟩ ?_))
      ((first | refine awD_nc fun KK hKK => ?_ | refine awD_gc rfl fun KK hKK => ?_); simp (disch := omega) only [bb, bt, zDs, zD, eqCells, simprocAttr, goCDS, callDS_fn, argsZ, argsD, ufa, uf]; refine PGive.ret (hs) ?_; simp (disch := omega) only [bb, bt, zDs, zD, eqCells, simprocAttr, afterDS]; refine hKK _ _ _ ?_; clear hKK KK)
      ((refine wda ?_))
      ((refine awD_nil ?_); simp only [List.reverse_cons, List.reverse_nil, List.nil_append, List.cons_append]; (refine hKR _ _ (by first | rfl | kernel_rfl) ?_); (try clear hKR KR); (repeat (with_reducible first | refine q1 ?_ | refine q2 ?_ | refine q3 ?_ | refine q4 ?_ | refine q5 ?_ | refine q6 ?_ | (refine q7 ?_ ?_; (focus (with_unfolding_all rfl))))))
      ((repeat refine AW_seq ?_); (refine wta ?_); simp (disch := omega) only [retQ, resD, oneD, rsv, rs, rsL, rsL_eq_map, List.map_map, bb, bt, zDs, zD, eqCells, simprocAttr, Try.results197])
    · have e2 : (n != 0) = true := by simpa using hn0
      have e3 : (decide (n ≠ 0) && (decide (n < 0) != decide (d < 0))) = (decide (n < 0) != decide (d < 0)) := by simp [hn0]
      rw [e3]
      have hs := signed (decide (n < 0) != decide (d < 0)) (n.natAbs / Nat.gcd n.natAbs d.natAbs) (d.natAbs / Nat.gcd n.natAbs d.natAbs) (by omega)
      generalize signP (decide (n < 0) != decide (d < 0)) (n.natAbs / Nat.gcd n.natAbs d.natAbs) (d.natAbs / Nat.gcd n.natAbs d.natAbs) = r at *
      ((repeat refine AW_seq ?_); (refine AW_drawn_k tab_ok follows_mixed 0 fun KR hKR => ?_); simp only [List.replicate_succ, List.replicate_zero, List.append_nil, List.nil_append, List.cons_append, List.length_cons, List.length_nil, Nat.reduceAdd])
      ((refine wdb (F := _∧_∧_∧_) ⟨e2, hg', q1, q2⟩ ?_))
      ((first | refine awD_nc fun KK hKK => ?_ | refine awD_gc rfl fun KK hKK => ?_); simp (disch := omega) only [bb, bt, zDs, zD, eqCells, simprocAttr, goCDS, callDS_fn, argsZ, argsD, ufa, uf]; refine PGive.ret (hs) ?_; simp (disch := omega) only [bb, bt, zDs, zD, eqCells, simprocAttr, afterDS]; refine hKK _ _ _ ?_; clear hKK KK)
      ((refine wda ?_))
      ((refine awD_nil ?_); simp only [List.reverse_cons, List.reverse_nil, List.nil_append, List.cons_append]; (refine hKR _ _ (by first | rfl | kernel_rfl) ?_); (try clear hKR KR); (repeat (with_reducible first | refine q1 ?_ | refine q2 ?_ | refine q3 ?_ | refine q4 ?_ | refine q5 ?_ | refine q6 ?_ | (refine q7 ?_ ?_; (focus (with_unfolding_all rfl))))))
      ((repeat refine AW_seq ?_); (refine wta ?_); simp (disch := omega) only [retQ, resD, oneD, rsv, rs, rsL, rsL_eq_map, List.map_map, bb, bt, zDs, zD, eqCells, simprocAttr, Try.results197])
end Go.Proofs.Ythabldkbiedfmaa.T
