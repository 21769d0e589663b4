import Derived.Test.YthabldkbiedfmaaTB
import Derived.Test.YthabldkbiedfmaaWJ
set_option linter.all false
namespace Go.Proofs.Ythabldkbiedfmaa.T
open Go Go.RowKit Lin
set_option linter.unusedSimpArgs false

theorem uhl {z : Nat} (h : z < 340282366920938463463374607431768211456) : 0 ≤ uh z ∧ uh z ≤ 18446744073709551615 ∧ 0 ≤ ul z ∧ ul z ≤ 18446744073709551615 ∧ (z : Int) = uh z * 18446744073709551616 + ul z := IsU.split h
/-- The reference's fraction with a value. -/
def madeP (n : Nat) (neg : Bool) (d : Nat) : (Int × Int) × Int := if d = 0 then ((0, 0), 16) else signP neg (n / Nat.gcd n d) (d / Nat.gcd n d)
set_option maxHeartbeats 1000000 in
theorem made (n : Nat) (neg : Bool) (d : Nat) (hn : n < 340282366920938463463374607431768211456) (hd : d < 340282366920938463463374607431768211456) : PRet Try.prog 184 [uD n, bool neg, uD d] (fe (madeP n neg d)) := by
  refine PRet.intro 2 fun t => ACall.enter tab_ok Try.func184 rfl rfl Try.ntmps184 (by simp) ?_
  simp only [enterTM]
  ((refine wqa ?_))
  by_cases hd0 : d = 0
  · have e1 : ((uh d == 0) && (ul d == 0)) = true := by subst hd0; decide
    ((refine wqb e1 ?_))
    ((refine wia ?_))
    ((refine wqa ?_))
    ((repeat refine AW_seq ?_); (refine wta ?_); simp (disch := omega) only [retQ, resD, oneD, rsv, rs, rsL, rsL_eq_map, List.map_map, bb, bt, zDs, zD, eqCells, simprocAttr, Try.results184])
    unfold madeP; rw [if_pos hd0]
  · have hdu := uhl hd
    have e1 : ((uh d == 0) && (ul d == 0)) = false := by
      by_cases k1 : uh d = 0
      · have k2 : ¬ ul d = 0 := by omega
        simp [k1, k2]
      · simp [k1]
    have hg : 0 < Nat.gcd n d := Nat.gcd_pos_of_pos_right _ (by omega)
    have hgl : Nat.gcd n d ≤ d := Nat.gcd_le_right _ (by omega)
    have hz : n / Nat.gcd n d ≤ n := Nat.div_le_self _ _
    have hy : d / Nat.gcd n d ≤ d := Nat.div_le_self _ _
    ((refine wqb e1 ?_))
    ((refine wia ?_))
    ((refine wsa ?_))
    ((repeat refine AW_seq ?_); (refine AW_region_k tab_ok fun KR hKR => ?_)); ((refine wra ?_))
    ((refine wka1 (refGcd n d (by omega)) ?_))
    ((refine wra ?_)); ((refine wea ?_); (try clear hKR KR))
    ((repeat refine AW_seq ?_); (refine AW_region_k tab_ok fun KR hKR => ?_)); ((refine wra ?_))
    ((refine wka1 (refDiv n (Nat.gcd n d) (by omega)) ?_))
    ((refine wra ?_)); ((refine wea ?_); (try clear hKR KR))
    ((repeat refine AW_seq ?_); (refine AW_region_k tab_ok fun KR hKR => ?_)); ((refine wra ?_))
    ((refine wka1 (refDiv d (Nat.gcd n d) (by omega)) ?_))
    ((refine wra ?_)); ((refine wea ?_); (try clear hKR KR))
    have e0 : madeP n neg d = signP neg (n / Nat.gcd n d) (d / Nat.gcd n d) := by unfold madeP; rw [if_neg hd0]
    rw [e0]
    generalize n / Nat.gcd n d = z at *
    generalize d / Nat.gcd n d = y at *
    have zu := uhl (z := z) (by omega)
    have yu := uhl (z := y) (by omega)
    by_cases k1 : 0 < uh z
    · ((refine wqb k1 ?_))
      ((refine wia ?_))
      ((refine wqa ?_))
      ((repeat refine AW_seq ?_); (refine wta ?_); simp (disch := omega) only [retQ, resD, oneD, rsv, rs, rsL, rsL_eq_map, List.map_map, bb, bt, zDs, zD, eqCells, simprocAttr, Try.results184])
      unfold signP; rw [if_pos (by omega)]
    by_cases k2 : 1152921504606846976 < ul z
    · ((refine wqb (F := _∧_) ⟨k1, k2⟩ ?_))
      ((refine wia ?_))
      ((refine wqa ?_))
      ((repeat refine AW_seq ?_); (refine wta ?_); simp (disch := omega) only [retQ, resD, oneD, rsv, rs, rsL, rsL_eq_map, List.map_map, bb, bt, zDs, zD, eqCells, simprocAttr, Try.results184])
      unfold signP; rw [if_pos (by omega)]
    by_cases k3 : 0 < uh y
    · ((refine wqb (F := _∧_∧_) ⟨k1, k2, k3⟩ ?_))
      ((refine wia ?_))
      ((refine wqa ?_))
      ((repeat refine AW_seq ?_); (refine wta ?_); simp (disch := omega) only [retQ, resD, oneD, rsv, rs, rsL, rsL_eq_map, List.map_map, bb, bt, zDs, zD, eqCells, simprocAttr, Try.results184])
      unfold signP; rw [if_pos (by omega)]
    by_cases k4 : 1152921504606846976 < ul y
    · ((refine wqb (F := _∧_∧_∧_) ⟨k1, k2, k3, k4⟩ ?_))
      ((refine wia ?_))
      ((refine wqa ?_))
      ((repeat refine AW_seq ?_); (refine wta ?_); simp (disch := omega) only [retQ, resD, oneD, rsv, rs, rsL, rsL_eq_map, List.map_map, bb, bt, zDs, zD, eqCells, simprocAttr, Try.results184])
      unfold signP; rw [if_pos (by omega)]
    have hzz : ul z = z := by omega
    have hyy : ul y = y := by omega
    have e5 : signP neg z y = ((if neg = true then -(z : Int) else (z : Int), (y : Int)), (0 : Int)) := by unfold signP; rw [if_neg (by omega)]
    rw [e5]
    ((refine wqb (F := _∧_∧_∧_) ⟨k1, k2, k3, k4⟩ ?_))
    ((refine wia ?_))
    ((refine wsa ?_))
    ((refine wqa ?_))
    cases neg
    · ((refine wia ?_))
      ((refine wsa ?_))
      ((refine wqb (F := _∧_) ⟨hzz, hyy⟩ ?_))
      ((repeat refine AW_seq ?_); (refine wta ?_); simp (disch := omega) only [retQ, resD, oneD, rsv, rs, rsL, rsL_eq_map, List.map_map, bb, bt, zDs, zD, eqCells, simprocAttr, Try.results184])
    · ((refine wia ?_))
      ((refine wqb (F := _∧_) ⟨hzz, hyy⟩ ?_))
      ((repeat refine AW_seq ?_); (refine wta ?_); simp (disch := omega) only [retQ, resD, oneD, rsv, rs, rsL, rsL_eq_map, List.map_map, bb, bt, zDs, zD, eqCells, simprocAttr, Try.results184])
theorem signP_zero (a b : Bool) (d : Nat) : signP a 0 d = signP b 0 d := by
  unfold signP
  split
  · rfl
  · cases a <;> cases b <;> rfl
theorem make_made (n d : Int) : makeP n d = madeP n.natAbs (decide (n < 0) != decide (d < 0)) d.natAbs := by
  unfold makeP madeP
  by_cases hd : d = 0
  · rw [if_pos hd, if_pos (by omega)]
  · rw [if_neg hd, if_neg (by omega)]
    by_cases hn : n = 0
    · subst hn
      simp only [Int.natAbs_zero, Nat.zero_div]
      exact signP_zero _ _ _
    · simp [hn]
theorem refMake (n d : Int) (hn : -9223372036854775808 ≤ n ∧ n ≤ 9223372036854775807) (hd : -9223372036854775808 ≤ d ∧ d ≤ 9223372036854775807) : PRet Try.prog 200 [int n, int d] (fe (makeP n d)) := by
  have huh : ∀ x : Int, -9223372036854775808 ≤ x ∧ x ≤ 9223372036854775807 → uh x.natAbs = 0 ∧ ul x.natAbs = x.natAbs := fun x hx => by unfold uh ul; omega
  have hm := made n.natAbs (decide (n < 0) != decide (d < 0)) d.natAbs (by omega) (by omega)
  rw [← make_made] at hm
  simp only [uD, (huh n hn).1, (huh n hn).2, (huh d hd).1, (huh d hd).2] at hm
  refine PRet.intro 2 fun t => ACall.enter tab_ok Try.func200 rfl rfl Try.ntmps200 (by simp) ?_
  simp only [enterTM]
  ((refine wqa ?_))
  generalize makeP n d = r at *
  ((repeat refine AW_seq ?_); (refine AW_region_k tab_ok fun KR hKR => ?_)); ((refine wra ?_))
  ((refine wka1 (refSize n hn) ?_))
  ((refine wra ?_))
  ((refine wka1 (refSize d hd) ?_))
  ((refine wra ?_))
  ((refine wka1 hm ?_))
  ((refine wra ?_)); ((refine wea ?_); (try clear hKR KR))
  ((repeat refine AW_seq ?_); (refine wta ?_); simp (disch := omega) only [retQ, resD, oneD, rsv, rs, rsL, rsL_eq_map, List.map_map, bb, bt, zDs, zD, eqCells, simprocAttr, Try.results200])
theorem refOf (n : Int) : PRet Try.prog 45 [int n] (frD (n, 1)) := by
  refine PRet.intro 2 fun t => ACall.enter tab_ok Try.func45 rfl rfl Try.ntmps45 (by simp) ?_
  simp only [enterTM]
  ((refine wqa ?_))
  ((refine wqa ?_))
  ((repeat refine AW_seq ?_); (refine wta ?_); simp (disch := omega) only [retQ, resD, oneD, rsv, rs, rsL, rsL_eq_map, List.map_map, bb, bt, zDs, zD, eqCells, simprocAttr, Try.results45])
/-! Small functions of lists. -/
/-- The first place of a number, or -1. -/
def idxN (x : Int) : List Int → Nat → Int
  | [], _ => -1
  | y :: r, k => if x = y then k else idxN x r (k + 1)
theorem idxN_mem (x : Int) : ∀ (l : List Int) (k : Nat), decide (0 ≤ idxN x l k) = l.contains x
  | [], k => by simp [idxN]
  | y :: r, k => by
    have := idxN_mem x r (k + 1)
    rw [List.contains_cons, ← this]
    by_cases h : x = y
    · subst h; simp [idxN]
    · simp [idxN, h]
theorem indexInts (l : List Int) (x : Int) (hl : l.length ≤ 1000000) : PRet Try.prog 167 [ints l, int x] (int (idxN x l 0)) := by
  refine PRet.intro 1 fun t => ACall.enter tab_ok Try.func167 rfl rfl Try.ntmps167 (by simp) ?_
  simp only [enterTM]
  ((refine wqa ?_))
  ((refine wqa ?_))
  ((repeat refine AW_seq ?_))
  refine AW_block ?_
  refine AW_loop_w (fun k : Nat => ⟨[(0, ints l), (1, int x), (7, int l.length), (8, int k)], [], t⟩) (fun k => l.length - k) (fun k => k ≤ l.length ∧ idxN x l 0 = idxN x (l.drop k) k) 0 ⟨Nat.zero_le _, rfl⟩ (by (simp (disch := omega) only [StLe, tmLe, hpLe_refl, hpLe, bl, bb, bt, zDs, zD, eqCells, simprocAttr])) fun k ⟨hk, hi⟩ => ?_
  by_cases hlt : k < l.length
  · obtain ⟨y, hy⟩ : ∃ y, l[k]? = some y := ⟨_, List.getElem?_eq_getElem hlt⟩
    have hd : l.drop k = y :: l.drop (k + 1) := by
      obtain ⟨h1, h2⟩ := List.getElem?_eq_some_iff.1 hy
      rw [List.drop_eq_getElem_cons h1, h2]
    rw [hd] at hi
    ((refine wqb (F := _∧_) ⟨@Int.ofNat_lt, hlt⟩ ?_))
    ((refine wia ?_))
    ((refine wsa ?_))
    ((repeat refine AW_seq ?_))
    refine AW_block ?_
    ((refine wqa ?_))
    by_cases hxy : x = y
    · have e1 : (x == y) = true := by simp [hxy]
      ((refine wqb (F := _∧_∧_) ⟨hlt, hy, e1⟩ ?_))
      ((refine wia ?_))
      ((refine wqa ?_))
      ((repeat refine AW_seq ?_); (refine wta ?_); simp (disch := omega) only [retQ, resD, oneD, rsv, rs, rsL, rsL_eq_map, List.map_map, bb, bt, zDs, zD, eqCells, simprocAttr, Try.results167, hi])
      simp only [idxN, hxy, if_true]
    · have e1 : (x == y) = false := by simpa using hxy
      ((refine wqb (F := _∧_∧_) ⟨hlt, hy, e1⟩ ?_))
      ((refine wia ?_))
      ((refine wsa ?_))
      ((refine wqa ?_))
      refine ⟨k + 1, ⟨hlt, by rw [hi]; simp only [idxN]; rw [if_neg hxy]⟩, by omega, ?_⟩
      (simp (disch := omega) only [StLe, tmLe, hpLe_refl, hpLe, bl, bb, bt, zDs, zD, eqCells, simprocAttr])
  · ((refine wqb (F := _∧_) ⟨@Int.ofNat_lt, hlt⟩ ?_))
    ((refine wia ?_))
    ((refine wxa ?_))
    ((refine wqa ?_))
    ((repeat refine AW_seq ?_); (refine wta ?_); simp (disch := omega) only [retQ, resD, oneD, rsv, rs, rsL, rsL_eq_map, List.map_map, bb, bt, zDs, zD, eqCells, simprocAttr, Try.results167, hi])
    rw [List.drop_eq_nil_of_le (by omega)]; rfl
theorem containsInts (l : List Int) (x : Int) (hl : l.length ≤ 1000000) : PRet Try.prog 213 [ints l, int x] (bool (l.contains x)) := by
  refine PRet.intro 1 fun t => ACall.enter tab_ok Try.func213 rfl rfl Try.ntmps213 (by simp) ?_
  simp only [enterTM]
  ((refine wqa ?_))
  ((repeat refine AW_seq ?_); (refine AW_region_k tab_ok fun KR hKR => ?_)); ((refine wra ?_))
  ((refine wka1 (indexInts l x hl) ?_))
  ((refine wra ?_)); ((refine wea ?_); (try clear hKR KR))
  ((repeat refine AW_seq ?_); (refine wta ?_); simp (disch := omega) only [retQ, resD, oneD, rsv, rs, rsL, rsL_eq_map, List.map_map, bb, bt, zDs, zD, eqCells, simprocAttr, Try.results213])
  rw [← idxN_mem x l 0]
end Go.Proofs.Ythabldkbiedfmaa.T
