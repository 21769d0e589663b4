import Derived.Test.YtpbpafmgkdihlaaGreatDoorQTB
import Derived.Test.YtpbpafmgkdihlaaGreatDoorQTN
import Derived.Test.YtpbpafmgkdihlaaGreatDoorQDiv
import Derived.Laws.Externs
set_option linter.all false
namespace Go.Proofs.YtpbpafmgkdihlaaGreatDoor.T
open Go Go.RowKit
theorem Ysy (x y : Int) (h : 0 ≤ x ∧ x < 18446744073709551616 ∧ 0 ≤ y ∧ y < 18446744073709551616) : PRet Tryz.prog 72 [word x, word y] (.tup [word (x * y / 18446744073709551616), word (x * y % 18446744073709551616)]) :=
 PRet.of_calls (us := [.int .u64 x, .int .u64 y]) ⟨_, Tryz.func72, rfl, rfl⟩ (fun _ _ _ h => Y6s h) (fun F => by simp only [Rep]; exact ⟨_, rfl, Y86 F [] [_, _]⟩) fun w => (Ymj x y h.1 h.2.1 h.2.2.1 h.2.2.2 w).mono fun _ _ => Y8m
theorem Yzy (hi lo y : Int) (h : 0 ≤ hi ∧ hi < y ∧ y < 18446744073709551616 ∧ 0 ≤ lo ∧ lo < 18446744073709551616) : PRet Tryz.prog 169 [word hi, word lo, word y] (.tup [word ((hi * 18446744073709551616 + lo) / y), word ((hi * 18446744073709551616 + lo) % y)]) :=
 PRet.of_calls (us := [.int .u64 hi, .int .u64 lo, .int .u64 y]) ⟨_, Tryz.func169, rfl, rfl⟩ (fun _ _ _ h => Y6s h) (fun F => by simp only [Rep]; exact ⟨_, rfl, Y86 F [] [_, _]⟩) fun w => (Yml hi lo y h.1 h.2.1 h.2.2.1 h.2.2.2.1 h.2.2.2.2 w).mono fun _ _ => Ycr
theorem Ym5 (x y c : Nat) (hc : c ≤ 1) (w : World) : (callFunc 168 #[.int .u64 x, .int .u64 y, .int .u64 c]).run Tryz.prog w =
      .ok (.value (.tuple #[.int .u64 (((x + y + c) % 18446744073709551616 : Nat) : Int), .int .u64 (((x + y + c) / 18446744073709551616 : Nat) : Int)])) w := by
  rw [run_callFunc_extern Tryz.func168 (by kernel_rfl) (by kernel_rfl) (by kernel_rfl) (e := add64Entry) (by kernel_rfl), run_add64 x y c (by omega) (by omega) (by omega) (by omega)]
  simp only [Result.andThen]
  congr 5 <;> omega
theorem Ym4 (x y c : Nat) (hc : c ≤ 1) (w : World) : (callFunc 167 #[.int .u64 x, .int .u64 y, .int .u64 c]).run Tryz.prog w =
      .ok (.value (.tuple #[.int .u64 (((x + 18446744073709551616 - y - c) % 18446744073709551616 : Nat) : Int), .int .u64 ((if x < y + c then 1 else 0 : Nat) : Int)])) w := by
  rw [run_callFunc_extern Tryz.func167 (by kernel_rfl) (by kernel_rfl) (by kernel_rfl) (e := (Extern.MathBitsCarry.rows[1]!).2) (by kernel_rfl)]
  have : c = 0 ∨ c = 1 := by omega
  rcases this with rfl | rfl <;> rfl
def bor (x y : Int) : Int := if x < y then 1 else 0
theorem Yvj (x y : Int) : bor x y = 0 ∧ y ≤ x ∨ bor x y = 1 ∧ x < y := by unfold bor; split <;> omega
theorem Yuq (x y c : Int) (h : 0 ≤ x ∧ 0 ≤ y ∧ 0 ≤ c ∧ c ≤ 1) : PRet Tryz.prog 168 [word x, word y, word c] (.tup [word ((x + y + c) % 18446744073709551616), word ((x + y + c) / 18446744073709551616)]) := by
 obtain ⟨x, rfl⟩ := Int.eq_ofNat_of_zero_le h.1
 obtain ⟨y, rfl⟩ := Int.eq_ofNat_of_zero_le h.2.1
 obtain ⟨c, rfl⟩ := Int.eq_ofNat_of_zero_le h.2.2.1
 refine PRet.of_extern (us := [.int .u64 x, .int .u64 y, .int .u64 c]) (fun _ _ _ h => Y6s h) (fun F => by simp only [Rep]; exact ⟨_, rfl, Y86 F [] [_, _]⟩) fun w => ?_
 have := Ym5 x y c (by omega) w
 simpa using this
theorem Yse (x y c : Int) (h : 0 ≤ x ∧ 0 ≤ y ∧ y < 18446744073709551616 ∧ 0 ≤ c ∧ c ≤ 1) : PRet Tryz.prog 167 [word x, word y, word c] (.tup [word ((x - y - c) % 18446744073709551616), word (bor x (y + c))]) := by
 obtain ⟨x, rfl⟩ := Int.eq_ofNat_of_zero_le h.1
 obtain ⟨y, rfl⟩ := Int.eq_ofNat_of_zero_le h.2.1
 obtain ⟨c, rfl⟩ := Int.eq_ofNat_of_zero_le h.2.2.2.1
 refine PRet.of_extern (us := [.int .u64 x, .int .u64 y, .int .u64 c]) (fun _ _ _ h => Y6s h) (fun F => by simp only [Rep]; exact ⟨_, rfl, Y86 F [] [_, _]⟩) fun w => ?_
 have h1 := Ym4 x y c (by omega) w
 have e1 : ((x : Int) - y - c) % 18446744073709551616 = ((x + 18446744073709551616 - y - c) % 18446744073709551616 : Nat) := by omega
 have e2 : bor x (y + c) = ((if x < y + c then 1 else 0 : Nat) : Int) := by unfold bor; split <;> split <;> omega
 rw [e1, e2]
 exact h1
def sg (b : Bool) (n : Int) : Int := if b = true then -n else n
theorem Yny (a b : Int) : a * b = sg (decide (a < 0) != decide (b < 0)) ((a.natAbs : Int) * b.natAbs) := by
 unfold sg
 by_cases h1 : a < 0 <;> by_cases h2 : b < 0 <;> simp only [h1, h2, decide_true, decide_false] <;> simp
 ·rw [show (a.natAbs : Int) = -a by omega, show (b.natAbs : Int) = -b by omega, Int.neg_mul_neg]
 ·rw [show (a.natAbs : Int) = -a by omega, show (b.natAbs : Int) = b by omega, Int.neg_mul, Int.neg_neg]
 ·rw [show (a.natAbs : Int) = a by omega, show (b.natAbs : Int) = -b by omega, Int.mul_neg, Int.neg_neg]
 ·rw [show (a.natAbs : Int) = a by omega, show (b.natAbs : Int) = b by omega]
theorem Ywd {q e M : Int} {g : Bool} (h : sg g M = q * e) (hM : 0 ≤ M) (he : e ≠ 0) : M = q.natAbs * e.natAbs ∧ q = sg (g != decide (e < 0)) q.natAbs := by
 have h1 : M = q.natAbs * e.natAbs := by
  have := congrArg Int.natAbs h
  rw [Int.natAbs_mul] at this
  have h2 : (sg g M).natAbs = M.natAbs := by unfold sg; split <;> omega
  rw [h2] at this
  omega
 refine ⟨h1, ?_⟩
 by_cases hq0 : q = 0
 ·subst hq0; unfold sg; simp
 have hM0 : 0 < M := by
  rcases Int.lt_or_eq_of_le hM with h | h
  ·exact h
  ·rw [← h] at h1
   have := Int.mul_eq_zero.1 h1.symm
   omega
 unfold sg at h ⊢
 by_cases h3 : e < 0 <;> by_cases h4 : q < 0 <;> cases g <;> simp only [h3, decide_true, decide_false] at h ⊢ <;> simp at h ⊢
 all_goals first
  | omega
  | (have := Int.mul_pos_of_neg_of_neg h4 h3; omega)
  | (have := Int.mul_neg_of_neg_of_pos h4 (show 0 < e by omega); omega)
  | (have := Int.mul_neg_of_pos_of_neg (show 0 < q by omega) h3; omega)
  | (have := Int.mul_pos (show 0 < q by omega) (show 0 < e by omega); omega)
theorem Y7a (n : Int) (h : -9223372036854775807 ≤ n ∧ n ≤ 9223372036854775807) : PRet Tryz.prog 166 [int n] (word n.natAbs) := by
 have hm : (if n < -n then -n else n) = n.natAbs := by split <;> omega
 refine pri 1 Tryz.func166 Tryz.ntmps166 fun t => ?_
 simp only [Y04]
 refine wqa ?_
 refine wqb hm ?_
 exact exx Tryz.results166
set_option maxHeartbeats 1000000 in
theorem step (a b c d e : Int) (ha : -9223372036854775807 ≤ a ∧ a ≤ 9223372036854775807) (hb : -9223372036854775807 ≤ b ∧ b ≤ 9223372036854775807) (hc : -9223372036854775807 ≤ c ∧ c ≤ 9223372036854775807) (hd : -9223372036854775807 ≤ d ∧ d ≤ 9223372036854775807) (he : -9223372036854775807 ≤ e ∧ e ≤ 9223372036854775807) (he0 : e ≠ 0)
    (q : Int) (hq : a * b - c * d = q * e) (hq' : -9223372036854775807 ≤ q ∧ q ≤ 9223372036854775807) : PRet Tryz.prog 143 [int a, int b, int c, int d, int e] (int q) := by
  refine pri 1 Tryz.func143 Tryz.ntmps143 fun t => ?_
  simp only [Y04]
  refine wqa ?_
  refine wqa ?_
  ((repeat refine Y00 ?_); (refine Y03 tab_ok fun KR hKR => ?_)); ((refine wra ?_))
  ((refine wka1 (Y7a a ha) ?_))
  refine wra ?_
  ((refine wka1 (Y7a b hb) ?_))
  ((refine wka1 (Ysy a.natAbs b.natAbs (by omega)) ?_))
  ((refine wra ?_)); ((refine wea ?_); (try clear hKR KR))
  ((repeat refine Y00 ?_); (refine Y03 tab_ok fun KR hKR => ?_)); ((refine wra ?_))
  ((refine wka1 (Y7a c hc) ?_))
  refine wra ?_
  ((refine wka1 (Y7a d hd) ?_))
  ((refine wka1 (Ysy c.natAbs d.natAbs (by omega)) ?_))
  ((refine wra ?_)); ((refine wea ?_); (try clear hKR KR))
  refine wqa ?_
  generalize hA : (a.natAbs : Int) * b.natAbs = A
  generalize hC : (c.natAbs : Int) * d.natAbs = C
  have hs1 := Yny a b
  have hs2 := Yny c d
  rw [hA] at hs1
  rw [hC] at hs2
  generalize (decide (a < 0) != decide (b < 0)) = first at *
  generalize (decide (c < 0) != decide (d < 0)) = second at *
  refine wqa ?_
  refine Yvo (α := Int × Bool) (fun p => ⟨[(4, int e), (11, .fn 166 []), (12, word (p.1 / 18446744073709551616)), (13, word (p.1 % 18446744073709551616)), (18, bool p.2)], [], t⟩) (fun p => 0 ≤ p.1 ∧ sg p.2 p.1 = q * e) ?_ ?_
  · have hA0 : 0 ≤ A := by rw [← hA]; exact Int.mul_nonneg (by omega) (by omega)
    have hC0 : 0 ≤ C := by rw [← hC]; exact Int.mul_nonneg (by omega) (by omega)
    have hA1 : A ≤ 9223372036854775807 * 9223372036854775807 := by rw [← hA]; exact Int.mul_le_mul (by omega) (by omega) (by omega) (by omega)
    have hC1 : C ≤ 9223372036854775807 * 9223372036854775807 := by rw [← hC]; exact Int.mul_le_mul (by omega) (by omega) (by omega) (by omega)
    rw [hs1, hs2] at hq
    refine wqa ?_
    cases hfs : (first == second)
    · refine wib hfs ?_
      refine wqa ?_
      ((repeat refine Y00 ?_); (refine Y03 tab_ok fun KR hKR => ?_)); ((refine wra ?_))
      ((refine wka1 (Yuq (A % 18446744073709551616) (C % 18446744073709551616) 0 (by omega)) ?_))
      ((refine wra ?_)); ((refine wea ?_); (try clear hKR KR))
      ((repeat refine Y00 ?_); (refine Y03 tab_ok fun KR hKR => ?_)); ((refine wra ?_))
      ((refine wka1 (Yuq (A / 18446744073709551616) (C / 18446744073709551616) ((A % 18446744073709551616 + C % 18446744073709551616 + 0) / 18446744073709551616) (by omega)) ?_))
      ((refine wra ?_)); ((refine wea ?_); (try clear hKR KR))
      have e1 : (A / 18446744073709551616 + C / 18446744073709551616 + (A % 18446744073709551616 + C % 18446744073709551616 + 0) / 18446744073709551616) % 18446744073709551616 = (A + C) / 18446744073709551616 := by omega
      have e2 : (A % 18446744073709551616 + C % 18446744073709551616 + 0) % 18446744073709551616 = (A + C) % 18446744073709551616 := by omega
      refine ⟨(A + C, first), ⟨by show 0 ≤ A + C; omega, ?_⟩, ?_⟩
      · rw [← hq]; revert hfs; unfold sg; cases first <;> cases second <;> simp <;> omega
      · (simp (disch := omega) only [StLe, tmLe, Y0b, hpLe, bl, bb, bt, zDs, zD, Y01, simprocAttr, e1, e2])
    · refine wib hfs ?_
      have big : ∀ A' C' g', 0 ≤ C' → C' ≤ A' → A' ≤ 9223372036854775807 * 9223372036854775807 → sg g' (A' - C') = q * e → 0 ≤ A' - C' ∧ sg g' (A' - C') = q * e := fun _ _ _ _ _ _ h => ⟨by omega, h⟩
      refine Yvo (α := Int × Int × Bool) (fun p => ⟨[(4, int e), (11, .fn 166 []), (12, word (p.1 / 18446744073709551616)), (13, word (p.1 % 18446744073709551616)), (14, word (p.2.1 / 18446744073709551616)), (15, word (p.2.1 % 18446744073709551616)), (18, bool p.2.2)], [], t⟩) (fun p => 0 ≤ p.2.1 ∧ p.2.1 ≤ p.1 ∧ p.1 ≤ 9223372036854775807 * 9223372036854775807 ∧ sg p.2.2 (p.1 - p.2.1) = q * e) ?_ ?_
      · have no : C ≤ A → 0 ≤ C ∧ C ≤ A ∧ A ≤ 9223372036854775807 * 9223372036854775807 ∧ sg first (A - C) = q * e := fun h => by
          refine ⟨hC0, h, hA1, ?_⟩
          rw [← hq]; revert hfs; unfold sg; cases first <;> cases second <;> simp <;> omega
        have yes : A < C → 0 ≤ A ∧ A ≤ C ∧ C ≤ 9223372036854775807 * 9223372036854775807 ∧ sg (!first) (C - A) = q * e := fun h => by
          refine ⟨hA0, by omega, hC1, ?_⟩
          rw [← hq]; revert hfs; unfold sg; cases first <;> cases second <;> simp <;> omega
        by_cases k1 : A / 18446744073709551616 < C / 18446744073709551616
        · refine wqb k1 ?_
          refine wia ?_
          refine wqa ?_
          refine wqa ?_
          exact ⟨(C, A, !first), yes (by omega), ele⟩
        · by_cases k2 : A / 18446744073709551616 = C / 18446744073709551616
          · have k4 : (A / 18446744073709551616 == C / 18446744073709551616) = true := by simpa using k2
            by_cases k3 : A % 18446744073709551616 < C % 18446744073709551616
            · ((refine wqb (F := _∧_∧_) ⟨k1, k4, k3⟩ ?_))
              refine wia ?_
              refine wqa ?_
              refine wqa ?_
              exact ⟨(C, A, !first), yes (by omega), ele⟩
            · ((refine wqb (F := _∧_∧_) ⟨k1, k4, k3⟩ ?_))
              refine wia ?_
              refine wsa ?_
              exact ⟨(A, C, first), no (by omega), ele⟩
          · have k4 : (A / 18446744073709551616 == C / 18446744073709551616) = false := by simpa using k2
            ((refine wqb (F := _∧_) ⟨k1, k4⟩ ?_))
            refine wia ?_
            refine wsa ?_
            exact ⟨(A, C, first), no (by omega), ele⟩
      · rintro ⟨A', C', g'⟩ ⟨m1, m2, m3, m4⟩
        simp only at m1 m2 m3 m4 ⊢
        refine wqa ?_
        ((repeat refine Y00 ?_); (refine Y03 tab_ok fun KR hKR => ?_)); ((refine wra ?_))
        ((refine wka1 (Yse (A' % 18446744073709551616) (C' % 18446744073709551616) 0 (by omega)) ?_))
        ((refine wra ?_)); ((refine wea ?_); (try clear hKR KR))
        have hbo := Yvj (A' % 18446744073709551616) (C' % 18446744073709551616 + 0)
        ((repeat refine Y00 ?_); (refine Y03 tab_ok fun KR hKR => ?_)); ((refine wra ?_))
        ((refine wka1 (Yse (A' / 18446744073709551616) (C' / 18446744073709551616) (bor (A' % 18446744073709551616) (C' % 18446744073709551616 + 0)) (by omega)) ?_))
        ((refine wra ?_)); ((refine wea ?_); (try clear hKR KR))
        have e1 : (A' / 18446744073709551616 - C' / 18446744073709551616 - bor (A' % 18446744073709551616) (C' % 18446744073709551616 + 0)) % 18446744073709551616 = (A' - C') / 18446744073709551616 := by omega
        have e2 : (A' % 18446744073709551616 - C' % 18446744073709551616 - 0) % 18446744073709551616 = (A' - C') % 18446744073709551616 := by omega
        refine ⟨(A' - C', g'), ⟨by show 0 ≤ A' - C'; omega, m4⟩, ?_⟩
        (simp (disch := omega) only [StLe, tmLe, Y0b, hpLe, bl, bb, bt, zDs, zD, Y01, simprocAttr, e1, e2])
  · rintro ⟨M, g⟩ ⟨hM, hg⟩
    obtain ⟨h1, h2⟩ := Ywd hg hM he0
    simp only at hM hg h1 h2 ⊢
    ((repeat refine Y00 ?_); (refine Y03 tab_ok fun KR hKR => ?_)); ((refine wra ?_))
    ((refine wka1 (Y7a e he) ?_))
    have h4 : (q.natAbs : Int) * e.natAbs ≤ 9223372036854775807 * e.natAbs := Int.mul_le_mul_of_nonneg_right (by omega) (by omega)
    have h3 : M / 18446744073709551616 < e.natAbs := by omega
    ((refine wka1 (Yzy (M / 18446744073709551616) (M % 18446744073709551616) e.natAbs (by omega)) ?_))
    ((refine wra ?_)); ((refine wea ?_); (try clear hKR KR))
    have h5 : (M / 18446744073709551616 * 18446744073709551616 + M % 18446744073709551616) / e.natAbs = q.natAbs := by
      rw [show M / 18446744073709551616 * 18446744073709551616 + M % 18446744073709551616 = M by omega, h1]
      exact Int.mul_ediv_cancel _ (by omega)
    simp only [h5]
    refine wqa ?_
    unfold sg at h2
    cases hx : (g != decide (e < 0))
    · rw [hx] at h2
      refine wib hx ?_
      refine wsa ?_
      refine wqa ?_
      refine exq Tryz.results143 ?_
      simp only [Bool.false_eq_true, ↓reduceIte] at h2
      exact congrArg int h2.symm
    · rw [hx] at h2
      refine wib hx ?_
      refine wqa ?_
      refine exq Tryz.results143 ?_
      simp only [Bool.false_eq_true, ↓reduceIte] at h2
      exact congrArg int h2.symm
end Go.Proofs.YtpbpafmgkdihlaaGreatDoor.T
