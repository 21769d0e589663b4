import Derived.Test.YtpbpafmgkdihlaaGreatDoorQTB
import Derived.Test.YtpbpafmgkdihlaaGreatDoorQWF
import Derived.Test.YtpbpafmgkdihlaaGreatDoorQRefVal
import Derived.Test.YtpbpafmgkdihlaaGreatDoorQWH
set_option linter.all false
namespace Go.Proofs.YtpbpafmgkdihlaaGreatDoor.T
open Go Go.RowKit Lin
abbrev frD (p : Int × Int) : D := .agg [int p.1, int p.2]
def frC (l : List (Int × Int)) : List D := l.flatMap fun p => [int p.1, int p.2]
abbrev frs (l : List (Int × Int)) : D := .sl 2 (frC l) false
theorem Y1s (l : List (Int × Int)) : (frC l).length = l.length * 2 := by
 induction l with
 | nil => rfl
 | cons p l ih => simp only [frC, List.flatMap_cons, List.length_append, List.length_cons, List.length_nil] at ih ⊢; omega
theorem Y70 (l : List (Int × Int)) : (frC l).length / 2 = l.length := by rw [Y1s]; omega
theorem Y1p : ∀ (l : List (Int × Int)) (i : Nat) (p : Int × Int), l[i]? = some p → ((frC l).drop (i * 2)).take 2 = [int p.1, int p.2]
 | [], i, p, h => by simp at h
 | q :: l, 0, p, h => by simp at h; subst h; rfl
 | q :: l, i + 1, p, h => by
  have := Y1p l i p (by simpa using h)
  have e : (i + 1) * 2 = i * 2 + 1 + 1 := by omega
  rw [e]
  simpa [frC] using this
theorem Yfh (n : Int) (h : -9223372036854775808 ≤ n ∧ n ≤ 9223372036854775807) : PRet Tryz.prog 42 [int n] (word n.natAbs) := by
 refine PRet.of_plain _ _ ⟨_, Tryz.func42, rfl, rfl⟩ rfl rfl rfl rfl fun w => ?_
 have := Y8e n h.1 h.2 w
 rw [show max n (-n) = (n.natAbs : Int) by omega] at this
 exact this.mono fun _ _ => Y8m
theorem rGcd (a b : Nat) (h : a < 18446744073709551616 ∧ b < 18446744073709551616) : PRet Tryz.prog 41 [word a, word b] (word (Nat.gcd a b : Nat)) :=
 PRet.of_plain _ _ ⟨_, Tryz.func41, rfl, rfl⟩ rfl rfl rfl rfl fun w => (Yfg a b h.1 h.2 w).mono fun _ _ => Ycr
theorem Y5d (n d : Int) : PRet Tryz.prog 39 [frD (n, d)] (bool (Y09 n d)) :=
 PRet.of_plain _ _ ⟨_, Tryz.func39, rfl, rfl⟩ rfl rfl rfl rfl fun w => Yhf n d w
theorem Yob (n d : Int) : PRet Tryz.prog 129 [frD (n, d)] (bool (Y09 n d)) :=
 PRet.of_plain _ _ ⟨_, Tryz.func129, rfl, rfl⟩ rfl rfl rfl rfl fun w => Yla n d w
def Y2l (neg : Bool) (n d : Nat) : (Int × Int) × Int := if 1152921504606846976 < n ∨ 1152921504606846976 < d then ((0, 0), 5) else ((if neg = true then -(n : Int) else n, d), 0)
abbrev fe (x : (Int × Int) × Int) : D := .tup [frD x.1, int x.2]
set_option maxHeartbeats 1000000 in
theorem Yjc (neg : Bool) (n d : Nat) (h : n < 18446744073709551616 ∧ d < 18446744073709551616) : PRet Tryz.prog 44 [bool neg, word n, word d] (fe (Y2l neg n d)) := by
 refine pri 2 Tryz.func44 Tryz.ntmps44 fun t => ?_
 simp only [Y04]
 refine wqa ?_
 by_cases h1 : (1152921504606846976 : Int) < n
 ·refine wqb h1 ?_
  refine wia ?_
  refine wqa ?_
  refine exq Tryz.results44 ?_
  unfold Y2l; rw [if_pos (by omega)]
 ·by_cases h2 : (1152921504606846976 : Int) < d
  ·((refine wqb (F := _∧_) ⟨h1, h2⟩ ?_))
   refine wia ?_
   refine wqa ?_
   refine exq Tryz.results44 ?_
   unfold Y2l; rw [if_pos (by omega)]
  ·have e0 : Y2l neg n d = ((if neg = true then -(n : Int) else (n : Int), (d : Int)), (0 : Int)) := by unfold Y2l; rw [if_neg (by omega)]
   rw [e0]
   ((refine wqb (F := _∧_) ⟨h1, h2⟩ ?_))
   refine wia ?_
   refine wsa ?_
   refine wqa ?_
   refine wqa ?_
   cases neg
   ·refine wia ?_
    refine wsa ?_
    refine wqa ?_
    exact exx Tryz.results44
   ·refine wia ?_
    refine wqa ?_
    refine wqa ?_
    exact exx Tryz.results44
def Y1b (n d : Int) : (Int × Int) × Int := if d = 0 then ((0, 0), 16) else Y2l (decide (n ≠ 0) && (decide (n < 0) != decide (d < 0))) (n.natAbs / Nat.gcd n.natAbs d.natAbs) (d.natAbs / Nat.gcd n.natAbs d.natAbs)
set_option maxHeartbeats 1000000 in
theorem make (n d : Int) (hn : -9223372036854775808 ≤ n ∧ n ≤ 9223372036854775807) (hd : -9223372036854775808 ≤ d ∧ d ≤ 9223372036854775807) : PRet Tryz.prog 108 [int n, int d] (fe (Y1b n d)) := by
 refine pri 2 Tryz.func108 Tryz.ntmps108 fun t => ?_
 simp only [Y04]
 refine wqa ?_
 by_cases hd0 : d = 0
 ·have e1 : (d == 0) = true := by simp [hd0]
  refine wqb e1 ?_
  refine wia ?_
  refine wqa ?_
  refine exq Tryz.results108 ?_
  unfold Y1b; rw [if_pos hd0]
 ·have e1 : (d == 0) = false := by simpa using hd0
  have hg : 0 < Nat.gcd n.natAbs d.natAbs := Nat.gcd_pos_of_pos_right _ (by omega)
  have hg' : ¬ ((Nat.gcd n.natAbs d.natAbs : Nat) : Int) = 0 := by omega
  have q1 : IntKind.u64.wrap ((n.natAbs : Int).tdiv (Nat.gcd n.natAbs d.natAbs : Nat)) = ((n.natAbs / Nat.gcd n.natAbs d.natAbs : Nat) : Int) := by
   rw [Int.tdiv_eq_ediv_of_nonneg (by omega), ← Int.natCast_ediv]
   have hle := Nat.div_le_self n.natAbs (Nat.gcd n.natAbs d.natAbs)
   generalize n.natAbs / Nat.gcd n.natAbs d.natAbs = z at *
   exact wu64 _ (by omega)
  have q2 : IntKind.u64.wrap ((d.natAbs : Int).tdiv (Nat.gcd n.natAbs d.natAbs : Nat)) = ((d.natAbs / Nat.gcd n.natAbs d.natAbs : Nat) : Int) := by
   rw [Int.tdiv_eq_ediv_of_nonneg (by omega), ← Int.natCast_ediv]
   have hle := Nat.div_le_self d.natAbs (Nat.gcd n.natAbs d.natAbs)
   generalize d.natAbs / Nat.gcd n.natAbs d.natAbs = z at *
   exact wu64 _ (by omega)
  have l1 := Nat.div_le_self n.natAbs (Nat.gcd n.natAbs d.natAbs)
  have l2 := Nat.div_le_self d.natAbs (Nat.gcd n.natAbs d.natAbs)
  refine wqb e1 ?_
  refine wia ?_
  refine wsa ?_
  ((repeat refine Y00 ?_); (refine Y03 tab_ok fun KR hKR => ?_)); ((refine wra ?_))
  ((refine wka1 (Yfh n hn) ?_))
  refine wra ?_
  ((refine wka1 (Yfh d hd) ?_))
  ((refine wra ?_)); ((refine wea ?_); (try clear hKR KR))
  ((repeat refine Y00 ?_); (refine Y03 tab_ok fun KR hKR => ?_)); ((refine wra ?_))
  ((refine wka1 (rGcd n.natAbs d.natAbs (by omega)) ?_))
  ((refine wra ?_)); ((refine wea ?_); (try clear hKR KR))
  have e0 : Y1b n d = Y2l (decide (n ≠ 0) && (decide (n < 0) != decide (d < 0))) (n.natAbs / Nat.gcd n.natAbs d.natAbs) (d.natAbs / Nat.gcd n.natAbs d.natAbs) := by unfold Y1b; rw [if_neg hd0]
  rw [e0]
  by_cases hn0 : n = 0
  ·have e2 : (n != 0) = false := by simp [hn0]
   have e3 : (decide (n ≠ 0) && (decide (n < 0) != decide (d < 0))) = false := by simp [hn0]
   rw [e3]
   have hs := Yjc false (n.natAbs / Nat.gcd n.natAbs d.natAbs) (d.natAbs / Nat.gcd n.natAbs d.natAbs) (by omega)
   generalize Y2l false (n.natAbs / Nat.gcd n.natAbs d.natAbs) (d.natAbs / Nat.gcd n.natAbs d.natAbs) = r at *
   ((repeat refine Y00 ?_); (refine Y0d tab_ok Y06 0 fun KR hKR => ?_); simp only [List.replicate_succ, List.replicate_zero, List.append_nil, List.nil_append, List.cons_append, List.length_cons, List.length_nil, Nat.reduceAdd])
   ((refine wdb (F := _∧_∧_∧_) ⟨e2, hg', q1, q2⟩ ?_))
   ((first | refine Y14 fun KK hKK => ?_ | refine Y15 rfl fun KK hKK => ?_); simp (disch := omega) only [bb, bt, zDs, zD, Y01, simprocAttr, Y2a, Y0t, Y3y, Y0m, ufa, uf]; refine PGive.ret (hs) ?_; simp (disch := omega) only [bb, bt, zDs, zD, Y01, simprocAttr, Y1d]; refine hKK _ _ _ ?_; clear hKK KK)
   refine wda ?_
   ((refine Y0k ?_); simp only [List.reverse_cons, List.reverse_nil, List.nil_append, List.cons_append]; (refine hKR _ _ (by first | rfl | kernel_rfl) ?_); (try clear hKR KR); (refine qq1 ?_))
   exact exx Tryz.results108
  ·have e2 : (n != 0) = true := by simpa using hn0
   have e3 : (decide (n ≠ 0) && (decide (n < 0) != decide (d < 0))) = (decide (n < 0) != decide (d < 0)) := by simp [hn0]
   rw [e3]
   have hs := Yjc (decide (n < 0) != decide (d < 0)) (n.natAbs / Nat.gcd n.natAbs d.natAbs) (d.natAbs / Nat.gcd n.natAbs d.natAbs) (by omega)
   generalize Y2l (decide (n < 0) != decide (d < 0)) (n.natAbs / Nat.gcd n.natAbs d.natAbs) (d.natAbs / Nat.gcd n.natAbs d.natAbs) = r at *
   ((repeat refine Y00 ?_); (refine Y0d tab_ok Y06 0 fun KR hKR => ?_); simp only [List.replicate_succ, List.replicate_zero, List.append_nil, List.nil_append, List.cons_append, List.length_cons, List.length_nil, Nat.reduceAdd])
   ((refine wdb (F := _∧_∧_∧_) ⟨e2, hg', q1, q2⟩ ?_))
   ((first | refine Y14 fun KK hKK => ?_ | refine Y15 rfl fun KK hKK => ?_); simp (disch := omega) only [bb, bt, zDs, zD, Y01, simprocAttr, Y2a, Y0t, Y3y, Y0m, ufa, uf]; refine PGive.ret (hs) ?_; simp (disch := omega) only [bb, bt, zDs, zD, Y01, simprocAttr, Y1d]; refine hKK _ _ _ ?_; clear hKK KK)
   refine wda ?_
   ((refine Y0k ?_); simp only [List.reverse_cons, List.reverse_nil, List.nil_append, List.cons_append]; (refine hKR _ _ (by first | rfl | kernel_rfl) ?_); (try clear hKR KR); (refine qq1 ?_))
   exact exx Tryz.results108
theorem uhl {z : Nat} (h : z < 340282366920938463463374607431768211456) : 0 ≤ uh z ∧ uh z ≤ 18446744073709551615 ∧ 0 ≤ ul z ∧ ul z ≤ 18446744073709551615 ∧ (z : Int) = uh z * 18446744073709551616 + ul z := IsU.split h
def Y1o (n : Nat) (neg : Bool) (d : Nat) : (Int × Int) × Int := if d = 0 then ((0, 0), 16) else Y2l neg (n / Nat.gcd n d) (d / Nat.gcd n d)
theorem Ybp (a b : Bool) (d : Nat) : Y2l a 0 d = Y2l b 0 d := by
 unfold Y2l
 split
 ·rfl
 ·cases a <;> cases b <;> rfl
theorem Ypd (n d : Int) : Y1b n d = Y1o n.natAbs (decide (n < 0) != decide (d < 0)) d.natAbs := by
 unfold Y1b Y1o
 by_cases hd : d = 0
 ·rw [if_pos hd, if_pos (by omega)]
 ·rw [if_neg hd, if_neg (by omega)]
  by_cases hn : n = 0
  ·subst hn
   simp only [Int.natAbs_zero, Nat.zero_div]
   exact Ybp _ _ _
  ·simp [hn]
theorem Ylb (n : Int) : PRet Tryz.prog 17 [int n] (frD (n, 1)) := by
 refine pri 2 Tryz.func17 Tryz.ntmps17 fun t => ?_
 simp only [Y04]
 refine wqa ?_
 refine wqa ?_
 exact exx Tryz.results17
def idxN (x : Int) : List Int → Nat → Int
 | [], _ => -1
 | y :: r, k => if x = y then k else idxN x r (k + 1)
theorem Yjq (x : Int) : ∀ (l : List Int) (k : Nat), decide (0 ≤ idxN x l k) = l.contains x
 | [], k => by simp [idxN]
 | y :: r, k => by
  have := Yjq x r (k + 1)
  rw [List.contains_cons, ← this]
  by_cases h : x = y
  ·subst h; simp [idxN]
  ·simp [idxN, h]
theorem Ypo (l : List Int) (x : Int) (hl : l.length ≤ 1000000) : PRet Tryz.prog 183 [ints l, int x] (int (idxN x l 0)) := by
 refine pri 1 Tryz.func183 Tryz.ntmps183 fun t => ?_
 simp only [Y04]
 refine wqa ?_
 refine wqa ?_
 repeat refine Y00 ?_
 refine Y02 ?_
 refine Y05 (fun k : Nat => ⟨[(0, ints l), (1, int x), (7, int l.length), (8, int k)], [], t⟩) (fun k => l.length - k) (fun k => k ≤ l.length ∧ idxN x l 0 = idxN x (l.drop k) k) 0 ⟨Nat.zero_le _, rfl⟩ ele fun k ⟨hk, hi⟩ => ?_
 by_cases hlt : k < l.length
 ·obtain ⟨y, hy⟩ : ∃ y, l[k]? = some y := ⟨_, List.getElem?_eq_getElem hlt⟩
  have hd : l.drop k = y :: l.drop (k + 1) := by
   obtain ⟨h1, h2⟩ := List.getElem?_eq_some_iff.1 hy
   rw [List.drop_eq_getElem_cons h1, h2]
  rw [hd] at hi
  ((refine wqb (F := _∧_) ⟨@Int.ofNat_lt, hlt⟩ ?_))
  refine wia ?_
  refine wsa ?_
  repeat refine Y00 ?_
  refine Y02 ?_
  refine wqa ?_
  by_cases hxy : x = y
  ·have e1 : (x == y) = true := by simp [hxy]
   ((refine wqb (F := _∧_∧_) ⟨hlt, hy, e1⟩ ?_))
   refine wia ?_
   refine wqa ?_
   refine exq (F := _ ∧ _) ⟨Tryz.results183, hi⟩ ?_
   simp only [idxN, hxy, if_true]
  ·have e1 : (x == y) = false := by simpa using hxy
   ((refine wqb (F := _∧_∧_) ⟨hlt, hy, e1⟩ ?_))
   refine wia ?_
   refine wsa ?_
   refine wqa ?_
   refine ⟨k + 1, ⟨hlt, by rw [hi]; simp only [idxN]; rw [if_neg hxy]⟩, by omega, ?_⟩
   exact ele
 ·((refine wqb (F := _∧_) ⟨@Int.ofNat_lt, hlt⟩ ?_))
  refine wia ?_
  refine wxa ?_
  refine wqa ?_
  refine exq (F := _ ∧ _) ⟨Tryz.results183, hi⟩ ?_
  rw [List.drop_eq_nil_of_le (by omega)]; rfl
theorem Ygj (l : List Int) (x : Int) (hl : l.length ≤ 1000000) : PRet Tryz.prog 164 [ints l, int x] (bool (l.contains x)) := by
 refine pri 1 Tryz.func164 Tryz.ntmps164 fun t => ?_
 simp only [Y04]
 refine wqa ?_
 ((repeat refine Y00 ?_); (refine Y03 tab_ok fun KR hKR => ?_)); ((refine wra ?_))
 ((refine wka1 (Ypo l x hl) ?_))
 ((refine wra ?_)); ((refine wea ?_); (try clear hKR KR))
 refine exq Tryz.results164 ?_
 rw [← Yjq x l 0]
end Go.Proofs.YtpbpafmgkdihlaaGreatDoor.T
