import Derived.Test.YtpbpafmgkdihlaaGreatDoorQTWTQQ
import Derived.Test.YtpbpafmgkdihlaaGreatDoorQWA
import Derived.Test.YtpbpafmgkdihlaaGreatDoorQWC
import Derived.Test.YtpbpafmgkdihlaaGreatDoorQSHJ
import Derived.Test.YtpbpafmgkdihlaaGreatDoorQWL
set_option linter.all false
namespace Go.Proofs.YtpbpafmgkdihlaaGreatDoor.T
open Go Go.RowKit
abbrev Y1j (c w : Int) : List D := [.sl 1 [int c] false, int 3, int w]
abbrev prC (c w : Int) : List D := [.sl 1 [int 1] false, .sl 3 (Y1j c w) false]
abbrev prD (c w : Int) : D := .agg (prC c w)
theorem Yz8 (n : Int) (h0 : 0 ≤ n) (h1 : n ≤ 4294967296) : PRet Tryz.prog 150 [int n] (.v (.int .u64 n)) := by
 refine pri 1 Tryz.func150 Tryz.ntmps150 fun t => ?_
 simp only [Y04]
 have e1 : (n < 0) = False := by simp; omega
 have e2 := wu64 n ⟨h0, by omega⟩
 ((refine ggb0 (F := _∧_) ⟨e1, e2⟩ ?_))
 exact exx Tryz.results150
theorem psum (x n : Int) (h0 : 0 ≤ n ∧ n ≤ 1073741824) (h1 : 0 ≤ x ∧ x ≤ 1073741824) : PRet Tryz.prog 149 [.sl 1 [int x] false, int n] (int (1 + n + x)) := by
 refine pri 1 Tryz.func149 Tryz.ntmps149 fun t => ?_
 simp only [Y04]
 have hN := Yz8 n h0.1 (by omega)
 have hX := Yz8 x h1.1 (by omega)
 have e1 := wr64 n (by omega)
 have e2 := wr64 x (by omega)
 have e3 := wr64 (1 + n) (by omega)
 have e4 := wr64 (1 + n + x) (by omega)
 ((refine ggb1 (F := _∧_) ⟨e1, e3⟩ hN ?_))
 repeat refine Y00 ?_
 refine Y0i (fun y : Nat => ⟨[(5, int (1 + n + x))], [], y⟩) (fun _ => True) ?_ ?_
 ·refine Y02 ?_
  refine Y05 (fun y : (Int × Int) × Nat => ⟨[(0, .sl 1 [int x] false), (5, int y.1.2), (12, .sl 1 [int x] false), (13, int 1), (14, int y.1.1)], [], y.2⟩) (fun y => (1 - y.1.1).toNat) (fun y => y.1 = (0, 1 + n) ∨ y.1 = (1, 1 + n + x)) ((0, 1 + n), t) (.inl rfl) ele ?_
  rintro ⟨⟨k, z⟩, tt⟩ h
  simp only [Prod.mk.injEq] at h
  rcases h with ⟨rfl, rfl⟩ | ⟨rfl, rfl⟩
  ·refine gga0 ?_
   repeat refine Y00 ?_
   refine Y02 ?_
   refine ggb1 e4 hX ?_
   refine ⟨((1, 1 + n + x), tt), .inr rfl, by show ((1 : Int) - 1).toNat < ((1 : Int) - 0).toNat; decide, ?_⟩
   exact ele
  ·refine gga0 ?_
   refine ⟨tt, trivial, ?_⟩
   exact ele
 rintro y -
 refine gga0 ?_
 exact exx Tryz.results149
theorem pmax (a b : Int) (h : a ≤ b) : PRet Tryz.prog 151 [.sl 1 [int a, int b] false] (int b) := by
 refine pri 1 Tryz.func151 Tryz.ntmps151 fun t => ?_
 simp only [Y04]
 refine gga0 ?_
 repeat refine Y00 ?_
 refine Y0i (fun y : Nat => ⟨[(3, int b)], [], y⟩) (fun _ => True) ?_ ?_
 ·refine Y02 ?_
  refine Y05 (fun y : (Int × Int) × Nat => ⟨[(0, .sl 1 [int a, int b] false), (3, int y.1.2), (4, int y.1.1)], [], y.2⟩) (fun y => (2 - y.1.1).toNat) (fun y => y.1 = (1, a) ∨ y.1 = (2, b)) ((1, a), t) (.inl rfl) ele ?_
  rintro ⟨⟨k, z⟩, tt⟩ hh
  simp only [Prod.mk.injEq] at hh
  rcases hh with ⟨rfl, rfl⟩ | ⟨rfl, rfl⟩
  ·have e1 : (if b > z then b else z) = b := by split <;> omega
   refine gga0 ?_
   repeat refine Y00 ?_
   refine Y02 ?_
   refine ggb0 e1 ?_
   refine ⟨((2, b), tt), .inr rfl, by show ((2 : Int) - 2).toNat < ((2 : Int) - 1).toNat; decide, ?_⟩
   exact ele
  ·refine gga0 ?_
   refine ⟨tt, trivial, ?_⟩
   exact ele
 rintro y -
 refine gga0 ?_
 exact exx Tryz.results151
set_option maxHeartbeats 4000000 in
theorem Y10h (c w : Int) (hc : 1 ≤ c ∧ c ≤ 1048576) (hw : 0 ≤ w ∧ w ≤ 16777216) : PRet Tryz.prog 112 [prD c w] (bool true) := by
 refine pri 1 Tryz.func112 Tryz.ntmps112 fun t => ?_
 simp only [Y04]
 have hS1 : PRet Tryz.prog 149 [.sl 1 [int 1] false, int 0] (int 2) := psum 1 0 (by omega) (by omega)
 have hS2 := psum c w (by omega) (by omega)
 have hM := pmax 2 (1 + w + c) (by omega)
 refine gga1 hS1 ?_
 repeat refine Y00 ?_
 refine Y0i (fun y : Nat => ⟨[(4, .sl 1 [int 2, int (1 + w + c)] false)], [], y⟩) (fun _ => True) ?_ ?_
 ·refine Y02 ?_
  refine Y05 (fun y : Nat × D × Hp × Nat => ⟨[(3, .fn 149 []), (4, y.2.1), (16, .sl 3 (Y1j c w) false), (17, int 1), (18, int y.1)], y.2.2.1, y.2.2.2⟩) (fun y => 1 - y.1) (fun y => y.1 = 0 ∧ y.2.1 = .sl 1 [int 2] true ∧ y.2.2.1 = [] ∨ y.1 = 1 ∧ ∃ g, y.2.1 = .own 1 1 g 0 2 ∧ y.2.2.1 = [none, some ⟨3, g, [int 2, int (1 + w + c)]⟩]) (0, .sl 1 [int 2] true, [], t + 1) (.inl ⟨rfl, rfl, rfl⟩) ele ?_
  rintro ⟨k, d, H, tt⟩ hh
  simp only at hh ⊢
  rcases hh with ⟨rfl, rfl, rfl⟩ | ⟨rfl, g, rfl, rfl⟩
  ·refine wqa ?_
   refine wia ?_
   refine wsa ?_
   repeat refine Y00 ?_
   refine Y02 ?_
   refine gga1 hS2 ?_
   refine ⟨(1, .own 1 1 (tt + 1 + 1) 0 2, [none, some ⟨3, tt + 1 + 1, [int 2, int (1 + w + c)]⟩], tt + 1 + 1), .inr ⟨rfl, _, rfl, rfl⟩, by show 1 - 1 < 1 - 0; decide, ?_⟩
   exact ele
  ·((refine AW.freeze (1) (by first | rfl | (simp only [setH, List.getElem?_cons_zero, List.getElem?_cons_succ]; done)) ?_); simp (disch := omega) only [fzT, fz, fzL, Y0p, Y0y, fzH, fzB, eq_self, bb, bt, zDs, zD, Y01, simprocAttr])
   refine gga0 ?_
   refine ⟨tt, ?_⟩
   exact ele
 rintro y -
 refine wqa ?_
 refine wqa ?_
 repeat refine Y00 ?_
 have hfz : (1 + w + c = 0) = False := by simp; omega
 obtain ⟨q, hq, hq1, hq2⟩ : ∃ q : Int, (17592186044416 : Int).tdiv (1 + w + c) = q ∧ 2 ≤ q ∧ q ≤ 17592186044416 := by
  refine ⟨_, rfl, ?_, ?_⟩
  ·rw [Int.tdiv_eq_ediv_of_nonneg (by omega)]
   exact (Int.le_ediv_iff_mul_le (by omega)).2 (by omega)
  ·rw [Int.tdiv_eq_ediv_of_nonneg (by omega)]
   exact Int.le_trans (Int.ediv_le_self _ (by omega)) (Int.le_refl _)
 obtain ⟨r, hr, hr1, hr2⟩ : ∃ r : Int, (144115188075855872 : Int).tdiv (1 + w + c) = r ∧ 2 * (1 + w + c) ≤ r ∧ r ≤ 144115188075855872 := by
  refine ⟨_, rfl, ?_, ?_⟩
  ·rw [Int.tdiv_eq_ediv_of_nonneg (by omega)]
   refine (Int.le_ediv_iff_mul_le (by omega)).2 ?_
   have h1 : 2 * (1 + w + c) ≤ 67108864 := by omega
   have h2 : 2 * (1 + w + c) * (1 + w + c) ≤ 67108864 * 33554432 := Int.mul_le_mul h1 (by omega) (by omega) (by omega)
   omega
  ·rw [Int.tdiv_eq_ediv_of_nonneg (by omega)]
   exact Int.le_trans (Int.ediv_le_self _ (by omega)) (Int.le_refl _)
 have g1 : (q < 2) = False := by simp; omega
 have g2 : (2 * (1 + w + c) ≤ r) = True := by simp; omega
 refine Y0i (fun y : Nat => ⟨[(4, .sl 1 [int 2, int (1 + w + c)] false), (7, int (2 * (1 + w + c)))], [], y⟩) (fun _ => True) ?_ ?_
 ·refine Y02 ?_
  refine Y05 (fun y : (Int × Int) × Nat => ⟨[(4, .sl 1 [int 2, int (1 + w + c)] false), (7, int y.1.2), (32, .sl 1 [int 2, int (1 + w + c)] false), (33, int 2), (34, int y.1.1)], [], y.2⟩) (fun y => (2 - y.1.1).toNat) (fun y => y.1 = (0, 1) ∨ y.1 = (1, 2) ∨ y.1 = (2, 2 * (1 + w + c))) ((0, 1), y) (.inl rfl) ele ?_
  rintro ⟨⟨k, z⟩, tt⟩ hh
  simp only [Prod.mk.injEq] at hh
  rcases hh with ⟨rfl, rfl⟩ | ⟨rfl, rfl⟩ | ⟨rfl, rfl⟩
  ·refine gga0 ?_
   repeat refine Y00 ?_
   refine Y02 ?_
   refine gga0 ?_
   refine ⟨((1, 2), tt), .inr (.inl rfl), by show ((2 : Int) - 1).toNat < ((2 : Int) - 0).toNat; decide, ?_⟩
   exact ele
  ·refine gga0 ?_
   repeat refine Y00 ?_
   refine Y02 ?_
   ((refine ggb0 (F := _∧_∧_) ⟨hfz, hq, g1⟩ ?_))
   refine ⟨((2, 2 * (1 + w + c)), tt), .inr (.inr rfl), by show ((2 : Int) - 2).toNat < ((2 : Int) - 1).toNat; decide, ?_⟩
   exact ele
  ·refine gga0 ?_
   refine ⟨tt, trivial, ?_⟩
   exact ele
 rintro y -
 ((refine ggb1 (F := _∧_∧_) ⟨hfz, hr, g2⟩ hM ?_))
 exact exx Tryz.results112
theorem Ytp {P Q : Prop} (q : Q) (h : Q → P := by
 intro  hq
 (try with_reducible intro KR hKR)
 (repeat refine Y00 ?_); (repeat refine Y00 ?_); (refine Y0d tab_ok Y06 3 fun KR hKR => ?_); simp only [List.replicate_succ, List.replicate_zero, List.append_nil, List.nil_append, List.cons_append, List.length_cons, List.length_nil, Nat.reduceAdd]; (repeat' ((first | refine Y2s rfl fun KK hKK => ?_ | refine Y2t rfl rfl fun KK hKK => ?_ | refine Y15 rfl fun KK hKK => ?_ | refine Y14 fun KK hKK => ?_); simp (disch := omega) only [bb, bt, zDs, zD, Y01, simprocAttr, bne_self_eq_false, Int.reduceBNe, Int.reduceBEq, Bool.bne_false, Bool.bne_true, Bool.false_bne, Bool.true_bne]; refine hKK _ _ _ ?_; clear hKK KK)); (refine Y0k ?_); simp only [List.reverse_cons, List.reverse_nil, List.nil_append, List.cons_append]; (refine hKR _ _ (by first | rfl | kernel_rfl) ?_); (try clear hKR KR); (refine qq1 ?_)
 (first | exact hq | (revert hKR; revert KR; exact hq))) : P := h  q
theorem Yjv {P Q : Prop} (q : Q) (h : Q → P := by
 intro  hq
 (try with_reducible intro KR hKR)
 (repeat refine Y00 ?_); (repeat refine Y00 ?_); (refine Y0d tab_ok Y06 0 fun KR hKR => ?_); simp only [List.replicate_succ, List.replicate_zero, List.append_nil, List.nil_append, List.cons_append, List.length_cons, List.length_nil, Nat.reduceAdd]; (repeat' ((first | refine Y2s rfl fun KK hKK => ?_ | refine Y2t rfl rfl fun KK hKK => ?_ | refine Y15 rfl fun KK hKK => ?_ | refine Y14 fun KK hKK => ?_); simp (disch := omega) only [bb, bt, zDs, zD, Y01, simprocAttr, bne_self_eq_false, Int.reduceBNe, Int.reduceBEq, Bool.bne_false, Bool.bne_true, Bool.false_bne, Bool.true_bne]; refine hKK _ _ _ ?_; clear hKK KK)); (refine Y0k ?_); simp only [List.reverse_cons, List.reverse_nil, List.nil_append, List.cons_append]; (refine hKR _ _ (by first | rfl | kernel_rfl) ?_); (try clear hKR KR); (refine qq1 ?_)
 (first | exact hq | (revert hKR; revert KR; exact hq))) : P := h  q
set_option maxHeartbeats 4000000 in
theorem Ysv {x0 x1 : Option Blk} {t : Nat} {K : D → Hp → Nat → Prop} (c w : Int) (hc : 1 ≤ c ∧ c ≤ 1048576) (hw : 0 ≤ w ∧ w ≤ 16777216)
    (hK : ∀ gc gt gr g7 g8 g9 t', K (.ptr 4 gt 0) [x0, x1, none, some ⟨3, gc, [int 1]⟩, some ⟨175, gt, [.own 1 7 (g7) 0 1, int 1, .own 1 9 (g9) 0 1, .own 1 8 (g8) 0 1, .own 1 3 (gc) 0 1, int 1, int 2]⟩, none, some ⟨3, gr, [int c, int 1, int w]⟩, some ⟨59, g7, [.own 1 6 (gr) 0 3]⟩, some ⟨3, g8, [int 1]⟩, some ⟨3, g9, [int 1]⟩] t') : ACall Tryz.prog 113 [prD c w] [x0, x1] t K := by
  refine ACall.enter tab_ok Tryz.func113 rfl rfl Tryz.ntmps113 (by simp) ?_
  simp only [Y04]
  have hp : Y5e tab 172 (.pointer none) = .v (.pointer none) := rfl
  refine wqb hp ?_
  ((repeat refine Y00 ?_); (refine Yjv ?_))
  refine gga0 ?_
  repeat refine Y00 ?_
  refine Y0i (fun y : Nat => ⟨[(1, .ptr 2 (t + 1) 0), (3, int 1), (4, int 1), (5, int 0)], [x0, x1, some ⟨128, t + 1, prC c w⟩], y⟩) (fun _ => True) ?_ ?_
  · refine Y02 ?_
    refine Y05 (fun y : Nat × Nat => ⟨[(1, .ptr 2 (t + 1) 0), (3, int 1), (4, int 1), (5, int 0), (22, .sl 3 (Y1j c w) false), (23, int 1), (24, int y.1)], [x0, x1, some ⟨128, t + 1, prC c w⟩], y.2⟩) (fun y => 1 - y.1) (fun y => y.1 = 0 ∨ y.1 = 1) (0, t + 1 + 1) (.inl rfl) ele ?_
    rintro ⟨k, t2⟩ hh
    simp only at hh
    rcases hh with rfl | rfl
    · refine gga0 ?_
      repeat refine Y00 ?_
      refine Y02 ?_
      refine gga0 ?_
      refine ⟨(1, t2 + 1), .inr rfl, by show 1 - 1 < 1 - 0; decide, ?_⟩
      exact ele
    · refine gga0 ?_
      refine ⟨t2, trivial, ?_⟩
      exact ele
  rintro ta -
  have hC := Y7z [1] (by decide)
  repeat refine Y00 ?_
  ((repeat refine Y00 ?_); (refine Y03 tab_ok fun KR hKR => ?_))
  refine wra ?_
  ((first | refine Y0f fun KK hKK => ?_ | refine Y08 rfl fun KK hKK => ?_); simp (disch := omega) only [bb, bt, zDs, zD, Y01, simprocAttr, goC, Y0e, Y0m, and_self]; refine ACall.of_fresh (hC) (by first | (simp only [List.map_cons, List.map_nil, List.append_nil, List.nil_append, List.cons_append, ufa, uf]; done) | rfl) ?_; simp (disch := omega) only [bb, bt, zDs, zD, Y01, simprocAttr, Y0n]; refine hKK _ ?_; clear hKK KK)
  refine wra ?_
  ((refine wea ?_); (try clear hKR KR))
  refine wqa ?_
  refine wqa ?_
  repeat refine Y00 ?_
  refine Y0i (fun y : (Nat × Nat) × (Nat × Nat) × Nat => ⟨[(8, .ptr 4 (ta + 1 + 1) 0)], [x0, x1, none, some ⟨3, ta + 1, [int 1]⟩, some ⟨175, ta + 1 + 1, [.own 1 7 (y.1.2) 0 1, int 1, .own 1 9 (y.2.1.2) 0 1, .own 1 8 (y.2.1.1) 0 1, .own 1 3 (ta + 1) 0 1, int 1, int 2]⟩, none, some ⟨3, y.1.1, [int c, int 1, int w]⟩, some ⟨59, y.1.2, [.own 1 6 (y.1.1) 0 3]⟩, some ⟨3, y.2.1.1, [int 1]⟩, some ⟨3, y.2.1.2, [int 1]⟩], y.2.2⟩) (fun _ => True) ?_ ?_
  · refine Y02 ?_
    refine Y05 (fun y : Nat × Hp × Nat => ⟨[(1, .ptr 2 (t + 1) 0), (3, int 1), (4, int 1), (5, int 0), (8, .ptr 4 (ta + 1 + 1) 0), (9, int 1), (49, .sl 3 (Y1j c w) false), (50, int 1), (51, int y.1)], y.2.1, y.2.2⟩) (fun y => 1 - y.1) (fun y => y.1 = 0 ∧ y.2.1 = [x0, x1, some ⟨128, t + 1, prC c w⟩, some ⟨3, ta + 1, [int 1]⟩, some ⟨175, ta + 1 + 1, [.sl 1 [] true, int 1, .sl 1 [] true, .sl 1 [] true, .own 1 3 (ta + 1) 0 1, int 1, int 2]⟩] ∨ y.1 = 1 ∧ ∃ gr g7 g8 g9, y.2.1 = [x0, x1, none, some ⟨3, ta + 1, [int 1]⟩, some ⟨175, ta + 1 + 1, [.own 1 7 (g7) 0 1, int 1, .own 1 9 (g9) 0 1, .own 1 8 (g8) 0 1, .own 1 3 (ta + 1) 0 1, int 1, int 2]⟩, none, some ⟨3, gr, [int c, int 1, int w]⟩, some ⟨59, g7, [.own 1 6 (gr) 0 3]⟩, some ⟨3, g8, [int 1]⟩, some ⟨3, g9, [int 1]⟩]) (0, [x0, x1, some ⟨128, t + 1, prC c w⟩, some ⟨3, ta + 1, [int 1]⟩, some ⟨175, ta + 1 + 1, [.sl 1 [] true, int 1, .sl 1 [] true, .sl 1 [] true, .own 1 3 (ta + 1) 0 1, int 1, int 2]⟩], ta + 1 + 1) (.inl ⟨rfl, rfl⟩) ele ?_
    rintro ⟨k, H, t2⟩ hh
    simp only at hh ⊢
    rcases hh with ⟨rfl, rfl⟩ | ⟨rfl, gr, g7, g8, g9, rfl⟩
    · refine wqa ?_
      refine wia ?_
      refine wsa ?_
      repeat refine Y00 ?_
      refine Y02 ?_
      have hmin : min 1 3 = 1 := rfl
      have e0 : (w < 0) = False := by simp; omega
      refine ggb0 hmin ?_
      ((repeat refine Y00 ?_); (refine Yjv ?_))
      refine wqa ?_
      repeat refine Y00 ?_
      refine Y02 ?_
      refine ggb0 e0 ?_
      repeat refine Y00 ?_
      ((repeat refine Y00 ?_); (refine Ytp ?_))
      refine gga0 ?_
      refine ⟨(1, [x0, x1, none, some ⟨3, ta + 1, [int 1]⟩, some ⟨175, ta + 1 + 1, [.own 1 7 (t2 + 1 + 1 + 1 + 1) 0 1, int 1, .own 1 9 (t2 + 1 + 1 + 1 + 1) 0 1, .own 1 8 (t2 + 1 + 1 + 1 + 1) 0 1, .own 1 3 (ta + 1) 0 1, int 1, int 2]⟩, none, some ⟨3, t2 + 1 + 1, [int c, int 1, int w]⟩, some ⟨59, t2 + 1 + 1 + 1 + 1, [.own 1 6 (t2 + 1 + 1) 0 3]⟩, some ⟨3, t2 + 1 + 1 + 1 + 1, [int 1]⟩, some ⟨3, t2 + 1 + 1 + 1 + 1, [int 1]⟩], t2 + 1 + 1 + 1 + 1), .inr ⟨rfl, _, _, _, _, rfl⟩, by show 1 - 1 < 1 - 0; decide, ?_⟩
      exact ele
    · refine gga0 ?_
      refine ⟨((gr, g7), (g8, g9), t2), trivial, ?_⟩
      exact ele
  rintro ⟨⟨gr, g7⟩, ⟨g8, g9⟩, t2⟩ -
  refine wqa ?_
  ((repeat refine Y00 ?_); (refine wta ?_); simp (disch := omega) only [retQ, resD, oneD, bb, bt, zDs, zD, Y01, simprocAttr, Tryz.results113])
  exact hK _ _ _ _ _ _ _
theorem Yth {P Q : Prop} (q : Q) (h : Q → P := by
 intro  hq
 (try with_reducible intro KR hKR)
 (repeat refine Y00 ?_); (repeat refine Y00 ?_); (refine Y0d tab_ok Y06 0 fun KR hKR => ?_); simp only [List.replicate_succ, List.replicate_zero, List.append_nil, List.nil_append, List.cons_append, List.length_cons, List.length_nil, Nat.reduceAdd]; (repeat' ((first | refine Y2s rfl fun KK hKK => ?_ | refine Y2t rfl rfl fun KK hKK => ?_ | refine Y15 rfl fun KK hKK => ?_ | refine Y14 fun KK hKK => ?_); simp (disch := omega) only [bb, bt, zDs, zD, Y01, simprocAttr, bne_self_eq_false, Int.reduceBNe, Int.reduceBEq, Bool.bne_false, Bool.bne_true, Bool.false_bne, Bool.true_bne]; refine hKK _ _ _ ?_; clear hKK KK)); (refine Y0k ?_); simp only [List.reverse_cons, List.reverse_nil, List.nil_append, List.cons_append]; (refine hKR _ _ (by first | rfl | kernel_rfl) ?_); (try clear hKR KR); (refine qq1 ?_)
 (first | exact hq | (revert hKR; revert KR; exact hq))) : P := h  q
theorem Ya6 {x0 x1 : Option Blk} {gc gt gr g7 g8 g9 : Nat} (c w d b : Int) : rsv [x0, x1, none, some ⟨3, gc, [int 1]⟩, some ⟨175, gt, [.own 1 7 (g7) 0 1, int d, .own 1 9 (g9) 0 1, .own 1 8 (g8) 0 1, .own 1 3 (gc) 0 1, int 1, int 2]⟩, none, some ⟨3, gr, [int c, int 1, int w]⟩, some ⟨59, g7, [.own 1 6 (gr) 0 3]⟩, some ⟨3, g8, [int 1]⟩, some ⟨3, g9, [int b]⟩] 4 (.ptr 4 gt 0) = .rp (tbC c w d b) 0 := by
 simp [rsv, rs, rsL]
theorem Y10g {x0 x1 : Option Blk} {gc gt gr g7 g8 g9 t : Nat} {K : D → Hp → Nat → Prop} (c w : Int) (hc : 1 ≤ c ∧ c ≤ 1048576) (hK : ∀ t', K (.tup []) [x0, x1, none, some ⟨3, gc, [int 1]⟩, some ⟨175, gt, [.own 1 7 (g7) 0 1, int c, .own 1 9 (g9) 0 1, .own 1 8 (g8) 0 1, .own 1 3 (gc) 0 1, int 1, int 2]⟩, none, some ⟨3, gr, [int c, int 1, int w]⟩, some ⟨59, g7, [.own 1 6 (gr) 0 3]⟩, some ⟨3, g8, [int 1]⟩, some ⟨3, g9, [int 0]⟩] t') : ACall Tryz.prog 152 [.ptr 4 gt 0, int 0, int 0] [x0, x1, none, some ⟨3, gc, [int 1]⟩, some ⟨175, gt, [.own 1 7 (g7) 0 1, int 1, .own 1 9 (g9) 0 1, .own 1 8 (g8) 0 1, .own 1 3 (gc) 0 1, int 1, int 2]⟩, none, some ⟨3, gr, [int c, int 1, int w]⟩, some ⟨59, g7, [.own 1 6 (gr) 0 3]⟩, some ⟨3, g8, [int 1]⟩, some ⟨3, g9, [int 1]⟩] t K := by
 refine ACall.enter tab_ok Tryz.func152 rfl rfl Tryz.ntmps152 (by simp) ?_
 simp only [Y04]
 refine gga0 ?_
 repeat refine Y00 ?_
 refine Y0i (fun y : Nat => ⟨[(0, .ptr 4 gt 0), (1, int 0), (2, int 0), (6, int c)], [x0, x1, none, some ⟨3, gc, [int 1]⟩, some ⟨175, gt, [.own 1 7 (g7) 0 1, int 1, .own 1 9 (g9) 0 1, .own 1 8 (g8) 0 1, .own 1 3 (gc) 0 1, int 1, int 2]⟩, none, some ⟨3, gr, [int c, int 1, int w]⟩, some ⟨59, g7, [.own 1 6 (gr) 0 3]⟩, some ⟨3, g8, [int 1]⟩, some ⟨3, g9, [int 1]⟩], y⟩) (fun _ => True) ?_ ?_
 ·refine Y02 ?_
  refine Y05 (fun y : Nat × Nat => ⟨[(0, .ptr 4 gt 0), (1, int 0), (2, int 0), (6, int c), (27, .own 1 7 g7 0 1), (28, int 1), (29, int y.1)], [x0, x1, none, some ⟨3, gc, [int 1]⟩, some ⟨175, gt, [.own 1 7 (g7) 0 1, int 1, .own 1 9 (g9) 0 1, .own 1 8 (g8) 0 1, .own 1 3 (gc) 0 1, int 1, int 2]⟩, none, some ⟨3, gr, [int c, int 1, int w]⟩, some ⟨59, g7, [.own 1 6 (gr) 0 3]⟩, some ⟨3, g8, [int 1]⟩, some ⟨3, g9, [int 1]⟩], y.2⟩) (fun y => 1 - y.1) (fun y => y.1 = 0 ∨ y.1 = 1) (0, t) (.inl rfl) ele ?_
  rintro ⟨k, tt⟩ hh
  simp only at hh
  rcases hh with rfl | rfl
  ·refine gga0 ?_
   repeat refine Y00 ?_
   refine Y02 ?_
   refine gga0 ?_
   refine ⟨(1, tt), .inr rfl, by show 1 - 1 < 1 - 0; decide, ?_⟩
   exact ele
  ·refine gga0 ?_
   refine ⟨tt, trivial, ?_⟩
   exact ele
 rintro y -
 have e0 : (c < 0) = False := by simp; omega
 refine ggb0 e0 ?_
 simp only [retQ, Tryz.results152, resD, oneD]
 exact hK _
set_option maxHeartbeats 4000000 in
theorem start {x0 x1 : Option Blk} {gc gt gr g7 g8 g9 t : Nat} {K : D → Hp → Nat → Prop} (c w : Int) (hc : 1 ≤ c ∧ c ≤ 1048576) (hK : ∀ t', K (bool true) [x0, x1, none, some ⟨3, gc, [int 1]⟩, some ⟨175, gt, [.own 1 7 (g7) 0 1, int c, .own 1 9 (g9) 0 1, .own 1 8 (g8) 0 1, .own 1 3 (gc) 0 1, int 1, int 2]⟩, none, some ⟨3, gr, [int c, int 1, int w]⟩, some ⟨59, g7, [.own 1 6 (gr) 0 3]⟩, some ⟨3, g8, [int 1]⟩, some ⟨3, g9, [int 0]⟩] t') : ACall Tryz.prog 114 [.ptr 4 gt 0] [x0, x1, none, some ⟨3, gc, [int 1]⟩, some ⟨175, gt, [.own 1 7 (g7) 0 1, int 1, .own 1 9 (g9) 0 1, .own 1 8 (g8) 0 1, .own 1 3 (gc) 0 1, int 1, int 2]⟩, none, some ⟨3, gr, [int c, int 1, int w]⟩, some ⟨59, g7, [.own 1 6 (gr) 0 3]⟩, some ⟨3, g8, [int 1]⟩, some ⟨3, g9, [int 1]⟩] t K := by
 refine ACall.enter tab_ok Tryz.func114 rfl rfl Tryz.ntmps114 (by simp) ?_
 simp only [Y04]
 have e1 : (0 < c) = True := by simp; omega
 refine wqa ?_
 repeat refine Y00 ?_
 refine Y0i (fun y : Nat => ⟨[(0, .ptr 4 gt 0)], [x0, x1, none, some ⟨3, gc, [int 1]⟩, some ⟨175, gt, [.own 1 7 (g7) 0 1, int c, .own 1 9 (g9) 0 1, .own 1 8 (g8) 0 1, .own 1 3 (gc) 0 1, int 1, int 2]⟩, none, some ⟨3, gr, [int c, int 1, int w]⟩, some ⟨59, g7, [.own 1 6 (gr) 0 3]⟩, some ⟨3, g8, [int 1]⟩, some ⟨3, g9, [int 0]⟩], y⟩) (fun _ => True) ?_ ?_
 ·refine Y02 ?_
  refine Y05 (fun y : Nat × Hp × Nat => ⟨[(0, .ptr 4 gt 0)], y.2.1, y.2.2⟩) (fun y => 1 - y.1) (fun y => y.1 = 0 ∧ y.2.1 = [x0, x1, none, some ⟨3, gc, [int 1]⟩, some ⟨175, gt, [.own 1 7 (g7) 0 1, int 1, .own 1 9 (g9) 0 1, .own 1 8 (g8) 0 1, .own 1 3 (gc) 0 1, int 1, int 2]⟩, none, some ⟨3, gr, [int c, int 1, int w]⟩, some ⟨59, g7, [.own 1 6 (gr) 0 3]⟩, some ⟨3, g8, [int 1]⟩, some ⟨3, g9, [int 1]⟩] ∨ y.1 = 1 ∧ y.2.1 = [x0, x1, none, some ⟨3, gc, [int 1]⟩, some ⟨175, gt, [.own 1 7 (g7) 0 1, int c, .own 1 9 (g9) 0 1, .own 1 8 (g8) 0 1, .own 1 3 (gc) 0 1, int 1, int 2]⟩, none, some ⟨3, gr, [int c, int 1, int w]⟩, some ⟨59, g7, [.own 1 6 (gr) 0 3]⟩, some ⟨3, g8, [int 1]⟩, some ⟨3, g9, [int 0]⟩]) (0, [x0, x1, none, some ⟨3, gc, [int 1]⟩, some ⟨175, gt, [.own 1 7 (g7) 0 1, int 1, .own 1 9 (g9) 0 1, .own 1 8 (g8) 0 1, .own 1 3 (gc) 0 1, int 1, int 2]⟩, none, some ⟨3, gr, [int c, int 1, int w]⟩, some ⟨59, g7, [.own 1 6 (gr) 0 3]⟩, some ⟨3, g8, [int 1]⟩, some ⟨3, g9, [int 1]⟩], t) (.inl ⟨rfl, rfl⟩) ele ?_
  rintro ⟨k, H, tt⟩ hh
  simp only at hh ⊢
  rcases hh with ⟨rfl, rfl⟩ | ⟨rfl, rfl⟩
  ·refine Y02 ?_
   refine gga0 ?_
   repeat refine Y00 ?_
   refine Y0i (fun y : Nat => ⟨[(0, .ptr 4 gt 0), (3, int 0)], [x0, x1, none, some ⟨3, gc, [int 1]⟩, some ⟨175, gt, [.own 1 7 (g7) 0 1, int 1, .own 1 9 (g9) 0 1, .own 1 8 (g8) 0 1, .own 1 3 (gc) 0 1, int 1, int 2]⟩, none, some ⟨3, gr, [int c, int 1, int w]⟩, some ⟨59, g7, [.own 1 6 (gr) 0 3]⟩, some ⟨3, g8, [int 1]⟩, some ⟨3, g9, [int 1]⟩], y⟩) (fun _ => True) ?_ ?_
   ·refine Y02 ?_
    refine Y05 (fun y : (Int × Int) × Nat => ⟨[(0, .ptr 4 gt 0), (3, int y.1.2), (4, int y.1.1)], [x0, x1, none, some ⟨3, gc, [int 1]⟩, some ⟨175, gt, [.own 1 7 (g7) 0 1, int 1, .own 1 9 (g9) 0 1, .own 1 8 (g8) 0 1, .own 1 3 (gc) 0 1, int 1, int 2]⟩, none, some ⟨3, gr, [int c, int 1, int w]⟩, some ⟨59, g7, [.own 1 6 (gr) 0 3]⟩, some ⟨3, g8, [int 1]⟩, some ⟨3, g9, [int 1]⟩], y.2⟩) (fun y => (1 - y.1.1).toNat) (fun y => y.1 = (0, -1) ∨ y.1 = (1, 0)) ((0, -1), tt) (.inl rfl) ele ?_
    rintro ⟨⟨j, z⟩, t2⟩ hh
    simp only [Prod.mk.injEq] at hh
    rcases hh with ⟨rfl, rfl⟩ | ⟨rfl, rfl⟩
    ·refine gga0 ?_
     repeat refine Y00 ?_
     refine Y02 ?_
     repeat refine Y00 ?_
     ((repeat refine Y00 ?_); (refine Y03 tab_ok fun KR hKR => ?_))
     refine wra ?_
     ((try with_reducible intro KR hKR); (first | refine Y0f fun KK hKK => ?_ | refine Y08 rfl fun KK hKK => ?_); simp (disch := omega) only [bb, bt, zDs, zD, Y01, simprocAttr, goC, Y0e, Y0m, and_self])
     refine ACall.of_readV 4 (Yyr c w 1 (by omega)) (by simp only [List.map_cons, List.map_nil, Ya6]; rfl) ?_
     (simp (disch := omega) only [bb, bt, zDs, zD, Y01, simprocAttr, Y0n]; refine hKK _ ?_; clear hKK KK)
     refine wrb e1 ?_
     ((refine wea ?_); (try clear hKR KR))
     refine gga0 ?_
     refine ⟨((1, 0), t2), .inr rfl, by show ((1 : Int) - 1).toNat < ((1 : Int) - 0).toNat; decide, ?_⟩
     exact ele
    ·refine gga0 ?_
     refine ⟨t2, trivial, ?_⟩
     exact ele
   rintro y -
   refine wqa ?_
   refine wia ?_
   refine wsa ?_
   ((repeat refine Y00 ?_); (refine Y03 tab_ok fun KR hKR => ?_))
   refine wra ?_
   ((try with_reducible intro KR hKR); (first | refine Y0f fun KK hKK => ?_ | refine Y08 rfl fun KK hKK => ?_); simp (disch := omega) only [bb, bt, zDs, zD, Y01, simprocAttr, goC, Y0e, Y0m, and_self])
   refine ACall.of_readV 4 (Yyo c w hc) (by simp only [List.map_cons, List.map_nil, Ya6]; rfl) ?_
   (simp (disch := omega) only [bb, bt, zDs, zD, Y01, simprocAttr, Y0n]; refine hKK _ ?_; clear hKK KK)
   refine wra ?_
   ((try with_reducible intro KR hKR); (first | refine Y0f fun KK hKK => ?_ | refine Y08 rfl fun KK hKK => ?_); simp (disch := omega) only [bb, bt, zDs, zD, Y01, simprocAttr, goC, Y0e, Y0m, and_self])
   refine Y10g c w hc fun t' => ?_
   (simp (disch := omega) only [bb, bt, zDs, zD, Y01, simprocAttr, Y0n]; refine hKK _ ?_; clear hKK KK)
   ((refine wea ?_); (try clear hKR KR))
   refine ⟨(1, [x0, x1, none, some ⟨3, gc, [int 1]⟩, some ⟨175, gt, [.own 1 7 (g7) 0 1, int c, .own 1 9 (g9) 0 1, .own 1 8 (g8) 0 1, .own 1 3 (gc) 0 1, int 1, int 2]⟩, none, some ⟨3, gr, [int c, int 1, int w]⟩, some ⟨59, g7, [.own 1 6 (gr) 0 3]⟩, some ⟨3, g8, [int 1]⟩, some ⟨3, g9, [int 0]⟩], t'), .inr ⟨rfl, rfl⟩, by show 1 - 1 < 1 - 0; decide, ?_⟩
   exact ele
  ·refine Y02 ?_
   refine gga0 ?_
   repeat refine Y00 ?_
   refine Y0i (fun y : Nat => ⟨[(0, .ptr 4 gt 0), (3, int (-1))], [x0, x1, none, some ⟨3, gc, [int 1]⟩, some ⟨175, gt, [.own 1 7 (g7) 0 1, int c, .own 1 9 (g9) 0 1, .own 1 8 (g8) 0 1, .own 1 3 (gc) 0 1, int 1, int 2]⟩, none, some ⟨3, gr, [int c, int 1, int w]⟩, some ⟨59, g7, [.own 1 6 (gr) 0 3]⟩, some ⟨3, g8, [int 1]⟩, some ⟨3, g9, [int 0]⟩], y⟩) (fun _ => True) ?_ ?_
   ·refine Y02 ?_
    refine Y05 (fun y : Int × Nat => ⟨[(0, .ptr 4 gt 0), (3, int (-1)), (4, int y.1)], [x0, x1, none, some ⟨3, gc, [int 1]⟩, some ⟨175, gt, [.own 1 7 (g7) 0 1, int c, .own 1 9 (g9) 0 1, .own 1 8 (g8) 0 1, .own 1 3 (gc) 0 1, int 1, int 2]⟩, none, some ⟨3, gr, [int c, int 1, int w]⟩, some ⟨59, g7, [.own 1 6 (gr) 0 3]⟩, some ⟨3, g8, [int 1]⟩, some ⟨3, g9, [int 0]⟩], y.2⟩) (fun y => (1 - y.1).toNat) (fun y => y.1 = 0 ∨ y.1 = 1) (0, tt) (.inl rfl) ele ?_
    rintro ⟨j, t2⟩ hh
    simp only at hh
    rcases hh with rfl | rfl
    ·refine gga0 ?_
     repeat refine Y00 ?_
     refine Y02 ?_
     repeat refine Y00 ?_
     ((repeat refine Y00 ?_); (refine Y03 tab_ok fun KR hKR => ?_))
     refine wra ?_
     ((try with_reducible intro KR hKR); (first | refine Y0f fun KK hKK => ?_ | refine Y08 rfl fun KK hKK => ?_); simp (disch := omega) only [bb, bt, zDs, zD, Y01, simprocAttr, goC, Y0e, Y0m, and_self])
     refine ACall.of_readV 4 (Yys c w c (by omega)) (by simp only [List.map_cons, List.map_nil, Ya6]; rfl) ?_
     (simp (disch := omega) only [bb, bt, zDs, zD, Y01, simprocAttr, Y0n]; refine hKK _ ?_; clear hKK KK)
     refine wra ?_
     ((refine wea ?_); (try clear hKR KR))
     refine gga0 ?_
     refine ⟨(1, t2), .inr rfl, by show ((1 : Int) - 1).toNat < ((1 : Int) - 0).toNat; decide, ?_⟩
     exact ele
    ·refine gga0 ?_
     refine ⟨t2, trivial, ?_⟩
     exact ele
   rintro y -
   refine gga0 ?_
   refine ⟨y, trivial, ?_⟩
   exact ele
 rintro y -
 repeat refine Y00 ?_
 ((repeat refine Y00 ?_); (refine Y03 tab_ok fun KR hKR => ?_))
 refine wra ?_
 ((try with_reducible intro KR hKR); (first | refine Y0f fun KK hKK => ?_ | refine Y08 rfl fun KK hKK => ?_); simp (disch := omega) only [bb, bt, zDs, zD, Y01, simprocAttr, goC, Y0e, Y0m, and_self])
 refine ACall.of_readV 4 (Yyq c w c (by omega)) (by simp only [List.map_cons, List.map_nil, Ya6]; rfl) ?_
 (simp (disch := omega) only [bb, bt, zDs, zD, Y01, simprocAttr, Y0n]; refine hKK _ ?_; clear hKK KK)
 refine wra ?_
 ((refine wea ?_); (try clear hKR KR))
 refine gga0 ?_
 repeat refine Y00 ?_
 refine Y0i (fun y : Nat => ⟨[], [x0, x1, none, some ⟨3, gc, [int 1]⟩, some ⟨175, gt, [.own 1 7 (g7) 0 1, int c, .own 1 9 (g9) 0 1, .own 1 8 (g8) 0 1, .own 1 3 (gc) 0 1, int 1, int 2]⟩, none, some ⟨3, gr, [int c, int 1, int w]⟩, some ⟨59, g7, [.own 1 6 (gr) 0 3]⟩, some ⟨3, g8, [int 1]⟩, some ⟨3, g9, [int 0]⟩], y⟩) (fun _ => True) ?_ ?_
 ·refine Y02 ?_
  refine Y05 (fun y : Nat × Nat => ⟨[(0, .ptr 4 gt 0), (43, int 1), (44, int y.1)], [x0, x1, none, some ⟨3, gc, [int 1]⟩, some ⟨175, gt, [.own 1 7 (g7) 0 1, int c, .own 1 9 (g9) 0 1, .own 1 8 (g8) 0 1, .own 1 3 (gc) 0 1, int 1, int 2]⟩, none, some ⟨3, gr, [int c, int 1, int w]⟩, some ⟨59, g7, [.own 1 6 (gr) 0 3]⟩, some ⟨3, g8, [int 1]⟩, some ⟨3, g9, [int 0]⟩], y.2⟩) (fun y => 1 - y.1) (fun y => y.1 = 0 ∨ y.1 = 1) (0, y) (.inl rfl) ele ?_
  rintro ⟨k, tt⟩ hh
  simp only at hh
  rcases hh with rfl | rfl
  ·refine gga0 ?_
   repeat refine Y00 ?_
   refine Y02 ?_
   refine gga0 ?_
   repeat refine Y00 ?_
   refine Y02 ?_
   refine Y05 (fun y : Nat => ⟨[(0, .ptr 4 gt 0), (5, int 0), (6, int 0), (43, int 1), (44, int 0)], [x0, x1, none, some ⟨3, gc, [int 1]⟩, some ⟨175, gt, [.own 1 7 (g7) 0 1, int c, .own 1 9 (g9) 0 1, .own 1 8 (g8) 0 1, .own 1 3 (gc) 0 1, int 1, int 2]⟩, none, some ⟨3, gr, [int c, int 1, int w]⟩, some ⟨59, g7, [.own 1 6 (gr) 0 3]⟩, some ⟨3, g8, [int 1]⟩, some ⟨3, g9, [int 0]⟩], y⟩) (fun y => 0) (fun y => True) tt trivial ele ?_
   rintro t2 -
   ((repeat refine Y00 ?_); (refine Yth ?_))
   refine gga0 ?_
   refine ⟨(1, t2 + 1), .inr rfl, by show 1 - 1 < 1 - 0; decide, ?_⟩
   exact ele
  ·refine gga0 ?_
   refine ⟨tt, trivial, ?_⟩
   exact ele
 rintro y -
 refine gga0 ?_
 ((repeat refine Y00 ?_); (refine wta ?_); simp (disch := omega) only [retQ, resD, oneD, bb, bt, zDs, zD, Y01, simprocAttr, Tryz.results114])
 exact hK _
theorem pfar (m : Int) : PRet Tryz.prog 145 [int m] (.fn 146 [.rp [int m] 0]) := by
 refine pri 3 Tryz.func145 Tryz.ntmps145 fun t => ?_
 simp only [Y04]
 have hn : Y5e tab 153 .nilFunc = .v .nilFunc := rfl
 refine ggb0 hn ?_
 exact exx Tryz.results145
theorem Yz9 (n m : Int) (h0 : 0 ≤ n ∧ n ≤ m) (hm : m ≤ 1073741824) : PRet Tryz.prog 146 [int n, .rp [int m] 0] (bool false) := by
 refine pri 1 Tryz.func146 Tryz.ntmps146 fun t => ?_
 simp only [Y04]
 have e1 : (n < -m) = False := by simp; omega
 have e2 : (m < n) = False := by simp; omega
 ((refine ggb0 (F := _∧_) ⟨e1, e2⟩ ?_))
 exact exx Tryz.results146
theorem Yv6 (n m : Int) (h0 : 0 ≤ n ∧ n ≤ m) (hm : m ≤ 1073741824) : PRet Tryz.prog 91 [.sl 1 [int n] false, .fn 146 [.rp [int m] 0]] (bool false) :=
 Y3x [int n] 146 [.rp [int m] 0] (fun _ => false) (by simp) fun x hx => by
  simp only [List.mem_singleton] at hx
  subst hx
  exact Yz9 n m h0 hm
abbrev farB : D := .rp [.fn 145 []] 0
theorem prow (c w : Int) (hc : 0 ≤ c ∧ c ≤ 1048576) (hw : 0 ≤ w ∧ w ≤ 16777216) : PRet Tryz.prog 148 [.agg (Y1j c w), .rp (prC c w) 0, farB] (bool false) := by
 refine pri 1 Tryz.func148 Tryz.ntmps148 fun t => ?_
 simp only [Y04]
 have hF1 := pfar 1048576
 have hF2 := pfar 1073741824
 have hC := Yv6 c 1048576 hc (by decide)
 have hW := Yz9 w 1073741824 (by omega) (by decide)
 refine wqa ?_
 ((repeat refine Y00 ?_); (refine Yx8 hF1 hC hF2 hW ?_))
 exact exx Tryz.results148
theorem Y10f (c w : Int) (hc : 0 ≤ c ∧ c ≤ 1048576) (hw : 0 ≤ w ∧ w ≤ 16777216) : PRet Tryz.prog 147 [.sl 3 (Y1j c w) false, .fn 148 [.rp (prC c w) 0, farB]] (bool false) := by
 have hR := prow c w hc hw
 have hI : PRet Tryz.prog 171 [.sl 3 (Y1j c w) false, .fn 148 [.rp (prC c w) 0, farB]] (int (-1)) := by
  refine pri 1 Tryz.func171 Tryz.ntmps171 fun t => ?_
  simp only [Y04]
  refine gga0 ?_
  repeat refine Y00 ?_
  refine Y0i (fun y : Nat => ⟨[], [], y⟩) (fun _ => True) ?_ ?_
  ·refine Y02 ?_
   refine Y05 (fun y : Nat × Nat => ⟨[(0, .sl 3 (Y1j c w) false), (1, .fn 148 [.rp (prC c w) 0, farB]), (7, int 1), (8, int y.1)], [], y.2⟩) (fun y => 1 - y.1) (fun y => y.1 = 0 ∨ y.1 = 1) (0, t) (.inl rfl) ele ?_
   rintro ⟨k, tt⟩ hh
   simp only at hh
   rcases hh with rfl | rfl
   ·refine gga0 ?_
    repeat refine Y00 ?_
    refine Y02 ?_
    refine gga1 hR ?_
    refine ⟨(1, tt), .inr rfl, by show 1 - 1 < 1 - 0; decide, ?_⟩
    exact ele
   ·refine gga0 ?_
    refine ⟨tt, trivial, ?_⟩
    exact ele
  rintro y -
  refine gga0 ?_
  exact exx Tryz.results171
 refine pri 1 Tryz.func147 Tryz.ntmps147 fun t => ?_
 simp only [Y04]
 refine gga1 hI ?_
 exact exx Tryz.results147
theorem Yz6 (c w : Int) (hc : 0 ≤ c ∧ c ≤ 1048576) (hw : 0 ≤ w ∧ w ≤ 16777216) : PRet Tryz.prog 111 [prD c w] (bool true) := by
 refine pri 1 Tryz.func111 Tryz.ntmps111 fun t => ?_
 simp only [Y04]
 have hF1 := pfar 1048576
 have hC := Yv6 1 1048576 (by decide) (by decide)
 have hR := Y10f c w hc hw
 refine wqa ?_
 refine wqa ?_
 ((repeat refine Y00 ?_); (refine Ybe hF1 hC ?_))
 refine wia ?_
 refine wsa ?_
 repeat refine Y00 ?_
 ((refine AW.freeze (0) (by first | rfl | (simp only [setH, List.getElem?_cons_zero, List.getElem?_cons_succ]; done)) ?_); simp (disch := omega) only [fzT, fz, fzL, Y0p, Y0y, fzH, fzB, eq_self, bb, bt, zDs, zD, Y01, simprocAttr])
 ((refine AW.freeze (1) (by first | rfl | (simp only [setH, List.getElem?_cons_zero, List.getElem?_cons_succ]; done)) ?_); simp (disch := omega) only [fzT, fz, fzL, Y0p, Y0y, fzH, fzB, eq_self, bb, bt, zDs, zD, Y01, simprocAttr])
 refine gga1 hR ?_
 exact exx Tryz.results111
theorem Yg8 {C1 P Q : Prop} (c1 : C1) (q : Q) (h : C1 → Q → P := by
 intro cc1 hq
 (try with_reducible intro KR hKR)
 (repeat refine Y00 ?_); (repeat refine Y00 ?_); (refine Y0d tab_ok Y06 1 fun KR hKR => ?_); simp only [List.replicate_succ, List.replicate_zero, List.append_nil, List.nil_append, List.cons_append, List.length_cons, List.length_nil, Nat.reduceAdd]; (repeat' ((first | refine Y2s rfl fun KK hKK => ?_ | refine Y2t rfl rfl fun KK hKK => ?_ | refine Y15 rfl fun KK hKK => ?_ | refine Y14 fun KK hKK => ?_); simp (disch := omega) only [bb, bt, zDs, zD, Y01, simprocAttr, bne_self_eq_false, Int.reduceBNe, Int.reduceBEq, Bool.bne_false, Bool.bne_true, Bool.false_bne, Bool.true_bne, Y2a, Y0t, Y3y, Y0m, ufa, uf]; (try ((first | with_reducible refine PGive.ret (cc1) ?_); simp (disch := omega) only [bb, bt, zDs, zD, Y01, simprocAttr, Y1d, bne_self_eq_false, Int.reduceBNe, Int.reduceBEq, Bool.bne_false, Bool.bne_true, Bool.false_bne, Bool.true_bne])); refine hKK _ _ _ ?_; clear hKK KK)); (refine Y0k ?_); simp only [List.reverse_cons, List.reverse_nil, List.nil_append, List.cons_append]; (refine hKR _ _ (by first | rfl | kernel_rfl) ?_); (try clear hKR KR); (refine qq1 ?_)
 (first | exact hq | (revert hKR; revert KR; exact hq))) : P := h c1 q
theorem Ytg {P Q : Prop} (q : Q) (h : Q → P := by
 intro  hq
 (try with_reducible intro KR hKR)
 (repeat refine Y00 ?_); (repeat refine Y00 ?_); (refine Y0d tab_ok Y06 0 fun KR hKR => ?_); simp only [List.replicate_succ, List.replicate_zero, List.append_nil, List.nil_append, List.cons_append, List.length_cons, List.length_nil, Nat.reduceAdd]; (repeat' ((first | refine Y2s rfl fun KK hKK => ?_ | refine Y2t rfl rfl fun KK hKK => ?_ | refine Y15 rfl fun KK hKK => ?_ | refine Y14 fun KK hKK => ?_); simp (disch := omega) only [bb, bt, zDs, zD, Y01, simprocAttr, bne_self_eq_false, Int.reduceBNe, Int.reduceBEq, Bool.bne_false, Bool.bne_true, Bool.false_bne, Bool.true_bne]; refine hKK _ _ _ ?_; clear hKK KK)); (refine Y0k ?_); simp only [List.reverse_cons, List.reverse_nil, List.nil_append, List.cons_append]; (refine hKR _ _ (by first | rfl | kernel_rfl) ?_); (try clear hKR KR); (refine qq1 ?_)
 (first | exact hq | (revert hKR; revert KR; exact hq))) : P := h  q
theorem Yy6 {gc gt gr g7 g8 g9 : Nat} (c w d b : Int) : zv 2 [none, some ⟨3, gc, [int 1]⟩, some ⟨175, gt, [.own 1 7 (g7) 0 1, int d, .own 1 9 (g9) 0 1, .own 1 8 (g8) 0 1, .own 1 3 (gc) 0 1, int 1, int 2]⟩, none, some ⟨3, gr, [int c, int 1, int w]⟩, some ⟨59, g7, [.own 1 6 (gr) 0 3]⟩, some ⟨3, g8, [int 1]⟩, some ⟨3, g9, [int b]⟩] 4 (.ptr 4 gt 0) = .rp (tbC c w d b) 0 := by
 simp [zv, zz, zzL]
set_option maxHeartbeats 8000000 in
theorem Yyy (c w : Int) (hc : 1 ≤ c ∧ c ≤ 1048576) (hw : 0 ≤ w ∧ w ≤ 16777216) : PRet Tryz.prog 78 [prD c w] (.tup [.agg [int (Y1b w c).1.1, int (Y1b w c).1.2, frs [(Y1b w c).1], frs [(Y1b 1 c).1]], int 0]) := by
 refine pri 3 Tryz.func78 Tryz.ntmps78 fun t => ?_
 simp only [Y04]
 have hV := Yz6 c w (by omega) hw
 have hF := Y10h c w hc hw
 refine gga2 hV hF ?_
 ((try with_reducible intro KR hKR); (first | refine Y0f fun KK hKK => ?_ | refine Y08 rfl fun KK hKK => ?_); simp (disch := omega) only [bb, bt, zDs, zD, Y01, simprocAttr, goC, Y0e, Y0m, and_self])
 refine Ysv c w hc hw fun gc gt gr g7 g8 g9 t1 => ?_
 (simp (disch := omega) only [bb, bt, zDs, zD, Y01, simprocAttr, Y0n]; refine hKK _ ?_; clear hKK KK)
 refine wra ?_
 ((refine wea ?_); (try clear hKR KR))
 ((repeat refine Y00 ?_); (refine Y03 tab_ok fun KR hKR => ?_))
 refine wra ?_
 ((try with_reducible intro KR hKR); (first | refine Y0f fun KK hKK => ?_ | refine Y08 rfl fun KK hKK => ?_); simp (disch := omega) only [bb, bt, zDs, zD, Y01, simprocAttr, goC, Y0e, Y0m, and_self])
 refine start c w hc fun t2 => ?_
 (simp (disch := omega) only [bb, bt, zDs, zD, Y01, simprocAttr, Y0n]; refine hKK _ ?_; clear hKK KK)
 refine wra ?_
 ((refine wea ?_); (try clear hKR KR))
 refine wia ?_
 refine wsa ?_
 ((repeat refine Y00 ?_); (refine Y03 tab_ok fun KR hKR => ?_))
 refine wra ?_
 ((try with_reducible intro KR hKR); (first | refine Y0f fun KK hKK => ?_ | refine Y08 rfl fun KK hKK => ?_); simp (disch := omega) only [bb, bt, zDs, zD, Y01, simprocAttr, goC, Y0e, Y0m, and_self])
 refine ACall.of_readV 4 (Ys6 c w hc) (by simp only [List.map_cons, List.map_nil, Ya6]) ?_
 (simp (disch := omega) only [bb, bt, zDs, zD, Y01, simprocAttr, Y0n]; refine hKK _ ?_; clear hKK KK)
 refine wra ?_
 ((refine wea ?_); (try clear hKR KR))
 refine wia ?_
 refine wsa ?_
 refine AW.less ⟨[(1, .ptr 0 (t + 1) 0), (2, .ptr 1 (t + 1 + 1) 0), (4, .ptr 4 gt 0)], [some ⟨128, t + 1, prC c w⟩, some ⟨132, t + 1 + 1, [int 0, int 0, .sl 2 [] true, .sl 2 [] true]⟩, none, some ⟨3, gc, [int 1]⟩, some ⟨175, gt, [.own 1 7 (g7) 0 1, int c, .own 1 9 (g9) 0 1, .own 1 8 (g8) 0 1, .own 1 3 (gc) 0 1, int 1, int 2]⟩, none, some ⟨3, gr, [int c, int 1, int w]⟩, some ⟨59, g7, [.own 1 6 (gr) 0 3]⟩, some ⟨3, g8, [int 1]⟩, some ⟨3, g9, [int 0]⟩], t2⟩ ele ?_
 refine AW.tail 4 [some ⟨128, t + 1, prC c w⟩, some ⟨132, t + 1 + 1, [int 0, int 0, .sl 2 [] true, .sl 2 [] true]⟩] [none, some ⟨3, gc, [int 1]⟩, some ⟨175, gt, [.own 1 7 (g7) 0 1, int c, .own 1 9 (g9) 0 1, .own 1 8 (g8) 0 1, .own 1 3 (gc) 0 1, int 1, int 2]⟩, none, some ⟨3, gr, [int c, int 1, int w]⟩, some ⟨59, g7, [.own 1 6 (gr) 0 3]⟩, some ⟨3, g8, [int 1]⟩, some ⟨3, g9, [int 0]⟩] rfl ?_
 have p0 : ∀ H, zv 2 H 4 (.ptr 0 (t + 1) 0) = .ptr 0 (t + 1) 0 := fun H => by simp [zv, zz]
 have p1 : ∀ H, zv 2 H 4 (.ptr 1 (t + 1 + 1) 0) = .ptr 1 (t + 1 + 1) 0 := fun H => by simp [zv, zz]
 have p2 : ∀ H, zv 2 H 4 (.sl 1 [int 1] false) = .sl 1 [int 1] false := fun H => by simp [zv, zz, zzL]
 have p3 : ∀ H, zv 2 H 4 (.sl 3 (Y1j c w) false) = .sl 3 (Y1j c w) false := fun H => by simp [zv, zz, zzL]
 have p4 : ∀ H, zv 2 H 4 (.sl 2 [] true) = .sl 2 [] true := fun H => by simp [zv, zz, zzL]
 simp only [zT, zH, List.map_cons, List.map_nil, Option.map_some, List.length_nil, List.length_cons, Nat.zero_add, Nat.reduceAdd, p0, p1, p2, p3, p4, zv_v, Yy6]
 refine gga0 ?_
 repeat refine Y00 ?_
 have hC0 := Yyp c w c 0 0 (by decide)
 have e1 := wr64 w (by omega)
 refine Y0i (fun y : Nat => ⟨[(1, .ptr 0 (t + 1) 0), (2, .ptr 1 (t + 1 + 1) 0), (4, .rp (tbC c w c 0) 0), (5, .ptr 2 (t2 + 1) 0), (6, int w), (7, .own 1 3 (t2 + 1 + 1) 0 1)], [some ⟨128, t + 1, [.sl 1 [int 1] false, .sl 3 (Y1j c w) false]⟩, some ⟨132, t + 1 + 1, [int 0, int 0, .sl 2 [] true, .sl 2 [] true]⟩, some ⟨132, t2 + 1, [int 0, int 0, .sl 2 [] true, .sl 2 [] true]⟩, some ⟨3, t2 + 1 + 1, [int w]⟩], y⟩) (fun _ => True) ?_ ?_
 ·refine Y02 ?_
  refine Y05 (fun y : (Int × Int) × Nat => ⟨[(1, .ptr 0 (t + 1) 0), (2, .ptr 1 (t + 1 + 1) 0), (4, .rp (tbC c w c 0) 0), (5, .ptr 2 (t2 + 1) 0), (6, int y.1.2), (7, .own 1 3 (t2 + 1 + 1) 0 1), (41, .sl 1 [int 0] false), (42, int 1), (43, int y.1.1)], [some ⟨128, t + 1, [.sl 1 [int 1] false, .sl 3 (Y1j c w) false]⟩, some ⟨132, t + 1 + 1, [int 0, int 0, .sl 2 [] true, .sl 2 [] true]⟩, some ⟨132, t2 + 1, [int 0, int 0, .sl 2 [] true, .sl 2 [] true]⟩, some ⟨3, t2 + 1 + 1, [int y.1.2]⟩], y.2⟩) (fun y => (1 - y.1.1).toNat) (fun y => y.1 = (0, 0) ∨ y.1 = (1, w)) ((0, 0), t2 + 1 + 1) (.inl rfl) ele ?_
  rintro ⟨⟨k, z⟩, tt⟩ hh
  simp only [Prod.mk.injEq] at hh
  rcases hh with ⟨rfl, rfl⟩ | ⟨rfl, rfl⟩
  ·refine gga0 ?_
   repeat refine Y00 ?_
   refine Y02 ?_
   refine wqa ?_
   ((repeat refine Y00 ?_); (refine Y6h (F := _∧_∧_∧_) ⟨@Int.one_mul, @Int.zero_add, @Int.sub_zero, e1⟩ hC0 ?_))
   refine wqa ?_
   refine wia ?_
   ((repeat refine Y00 ?_); (refine Ytg ?_))
   refine gga0 ?_
   refine ⟨((1, w), tt + 1 + 1), .inr rfl, by show ((1 : Int) - 1).toNat < ((1 : Int) - 0).toNat; decide, ?_⟩
   exact ele
  ·refine gga0 ?_
   refine ⟨tt, trivial, ?_⟩
   exact ele
 rintro t3 -
 have hP1 := Yyn c w c 0 w (by omega) (by omega)
 have hP2 := Yyn c w c 0 1 (by omega) (by omega)
 generalize Y1b w c = X at *
 generalize Y1b 1 c = Y at *
 refine gga1 hP1 ?_
 repeat refine Y00 ?_
 refine Y0i (fun y : Nat × Nat => ⟨[(1, .ptr 0 (t + 1) 0), (2, .ptr 1 (t + 1 + 1) 0), (4, .rp (tbC c w c 0) 0), (5, .ptr 2 (t2 + 1) 0)], [some ⟨128, t + 1, [.sl 1 [int 1] false, .sl 3 (Y1j c w) false]⟩, some ⟨132, t + 1 + 1, [int 0, int 0, .sl 2 [] true, .sl 2 [] true]⟩, some ⟨132, t2 + 1, [int X.1.1, int X.1.2, .own 2 4 (y.1) 0 1, .sl 2 [] true]⟩, some ⟨3, t2 + 1 + 1, [int w]⟩, some ⟨33, y.1, [int X.1.1, int X.1.2]⟩], y.2⟩) (fun _ => True) ?_ ?_
 ·refine Y02 ?_
  refine Y05 (fun y : Nat × Hp × Nat => ⟨[(1, .ptr 0 (t + 1) 0), (2, .ptr 1 (t + 1 + 1) 0), (4, .rp (tbC c w c 0) 0), (5, .ptr 2 (t2 + 1) 0), (7, .own 1 3 (t2 + 1 + 1) 0 1), (92, .own 1 3 (t2 + 1 + 1) 0 1), (93, int 1), (94, int y.1)], y.2.1, y.2.2⟩) (fun y => 1 - y.1) (fun y => y.1 = 0 ∧ y.2.1 = [some ⟨128, t + 1, [.sl 1 [int 1] false, .sl 3 (Y1j c w) false]⟩, some ⟨132, t + 1 + 1, [int 0, int 0, .sl 2 [] true, .sl 2 [] true]⟩, some ⟨132, t2 + 1, [int X.1.1, int X.1.2, .sl 2 [] true, .sl 2 [] true]⟩, some ⟨3, t2 + 1 + 1, [int w]⟩] ∨ y.1 = 1 ∧ ∃ g, y.2.1 = [some ⟨128, t + 1, [.sl 1 [int 1] false, .sl 3 (Y1j c w) false]⟩, some ⟨132, t + 1 + 1, [int 0, int 0, .sl 2 [] true, .sl 2 [] true]⟩, some ⟨132, t2 + 1, [int X.1.1, int X.1.2, .own 2 4 (g) 0 1, .sl 2 [] true]⟩, some ⟨3, t2 + 1 + 1, [int w]⟩, some ⟨33, g, [int X.1.1, int X.1.2]⟩]) (0, [some ⟨128, t + 1, [.sl 1 [int 1] false, .sl 3 (Y1j c w) false]⟩, some ⟨132, t + 1 + 1, [int 0, int 0, .sl 2 [] true, .sl 2 [] true]⟩, some ⟨132, t2 + 1, [int X.1.1, int X.1.2, .sl 2 [] true, .sl 2 [] true]⟩, some ⟨3, t2 + 1 + 1, [int w]⟩], t3) (.inl ⟨rfl, rfl⟩) ele ?_
  rintro ⟨k, H, tt⟩ hh
  simp only at hh ⊢
  rcases hh with ⟨rfl, rfl⟩ | ⟨rfl, g, rfl⟩
  ·refine gga0 ?_
   repeat refine Y00 ?_
   refine Y02 ?_
   refine wqa ?_
   ((repeat refine Y00 ?_); (refine Yg8 hP1 ?_))
   refine gga0 ?_
   refine ⟨(1, [some ⟨128, t + 1, [.sl 1 [int 1] false, .sl 3 (Y1j c w) false]⟩, some ⟨132, t + 1 + 1, [int 0, int 0, .sl 2 [] true, .sl 2 [] true]⟩, some ⟨132, t2 + 1, [int X.1.1, int X.1.2, .own 2 4 (tt + 1) 0 1, .sl 2 [] true]⟩, some ⟨3, t2 + 1 + 1, [int w]⟩, some ⟨33, tt + 1, [int X.1.1, int X.1.2]⟩], tt + 1), .inr ⟨rfl, _, rfl⟩, by show 1 - 1 < 1 - 0; decide, ?_⟩
   exact ele
  ·refine gga0 ?_
   refine ⟨(g, tt), trivial, ?_⟩
   exact ele
 rintro ⟨g4, t4⟩ -
 refine wqa ?_
 repeat refine Y00 ?_
 refine Y0i (fun y : Nat × Nat => ⟨[(1, .ptr 0 (t + 1) 0), (2, .ptr 1 (t + 1 + 1) 0), (4, .rp (tbC c w c 0) 0), (5, .ptr 2 (t2 + 1) 0)], [some ⟨128, t + 1, [.sl 1 [int 1] false, .sl 3 (Y1j c w) false]⟩, some ⟨132, t + 1 + 1, [int 0, int 0, .sl 2 [] true, .sl 2 [] true]⟩, some ⟨132, t2 + 1, [int X.1.1, int X.1.2, .own 2 4 (g4) 0 1, .own 2 5 (y.1) 0 1]⟩, some ⟨3, t2 + 1 + 1, [int w]⟩, some ⟨33, g4, [int X.1.1, int X.1.2]⟩, some ⟨33, y.1, [int Y.1.1, int Y.1.2]⟩], y.2⟩) (fun _ => True) ?_ ?_
 ·refine Y02 ?_
  refine Y05 (fun y : Nat × Hp × Nat => ⟨[(1, .ptr 0 (t + 1) 0), (2, .ptr 1 (t + 1 + 1) 0), (4, .rp (tbC c w c 0) 0), (5, .ptr 2 (t2 + 1) 0), (108, .sl 3 (Y1j c w) false), (109, int 1), (110, int y.1)], y.2.1, y.2.2⟩) (fun y => 1 - y.1) (fun y => y.1 = 0 ∧ y.2.1 = [some ⟨128, t + 1, [.sl 1 [int 1] false, .sl 3 (Y1j c w) false]⟩, some ⟨132, t + 1 + 1, [int 0, int 0, .sl 2 [] true, .sl 2 [] true]⟩, some ⟨132, t2 + 1, [int X.1.1, int X.1.2, .own 2 4 (g4) 0 1, .sl 2 [] true]⟩, some ⟨3, t2 + 1 + 1, [int w]⟩, some ⟨33, g4, [int X.1.1, int X.1.2]⟩] ∨ y.1 = 1 ∧ ∃ g, y.2.1 = [some ⟨128, t + 1, [.sl 1 [int 1] false, .sl 3 (Y1j c w) false]⟩, some ⟨132, t + 1 + 1, [int 0, int 0, .sl 2 [] true, .sl 2 [] true]⟩, some ⟨132, t2 + 1, [int X.1.1, int X.1.2, .own 2 4 (g4) 0 1, .own 2 5 (g) 0 1]⟩, some ⟨3, t2 + 1 + 1, [int w]⟩, some ⟨33, g4, [int X.1.1, int X.1.2]⟩, some ⟨33, g, [int Y.1.1, int Y.1.2]⟩]) (0, [some ⟨128, t + 1, [.sl 1 [int 1] false, .sl 3 (Y1j c w) false]⟩, some ⟨132, t + 1 + 1, [int 0, int 0, .sl 2 [] true, .sl 2 [] true]⟩, some ⟨132, t2 + 1, [int X.1.1, int X.1.2, .own 2 4 (g4) 0 1, .sl 2 [] true]⟩, some ⟨3, t2 + 1 + 1, [int w]⟩, some ⟨33, g4, [int X.1.1, int X.1.2]⟩], t4) (.inl ⟨rfl, rfl⟩) ele ?_
  rintro ⟨k, H, tt⟩ hh
  simp only at hh ⊢
  rcases hh with ⟨rfl, rfl⟩ | ⟨rfl, g, rfl⟩
  ·refine gga0 ?_
   repeat refine Y00 ?_
   refine Y02 ?_
   refine gga0 ?_
   repeat refine Y00 ?_
   refine Y0i (fun y : Nat => ⟨[(1, .ptr 0 (t + 1) 0), (2, .ptr 1 (t + 1 + 1) 0), (4, .rp (tbC c w c 0) 0), (5, .ptr 2 (t2 + 1) 0), (108, .sl 3 (Y1j c w) false), (109, int 1), (110, int 0), (12, int 0), (13, int 1)], [some ⟨128, t + 1, [.sl 1 [int 1] false, .sl 3 (Y1j c w) false]⟩, some ⟨132, t + 1 + 1, [int 0, int 0, .sl 2 [] true, .sl 2 [] true]⟩, some ⟨132, t2 + 1, [int X.1.1, int X.1.2, .own 2 4 (g4) 0 1, .sl 2 [] true]⟩, some ⟨3, t2 + 1 + 1, [int w]⟩, some ⟨33, g4, [int X.1.1, int X.1.2]⟩], y⟩) (fun _ => True) ?_ ?_
   ·refine Y02 ?_
    refine Y05 (fun y : (Int × Int) × Nat => ⟨[(1, .ptr 0 (t + 1) 0), (2, .ptr 1 (t + 1 + 1) 0), (4, .rp (tbC c w c 0) 0), (5, .ptr 2 (t2 + 1) 0), (108, .sl 3 (Y1j c w) false), (109, int 1), (110, int 0), (12, int 0), (13, int y.1.2), (116, .sl 1 [int 0] false), (117, int 1), (118, int y.1.1)], [some ⟨128, t + 1, [.sl 1 [int 1] false, .sl 3 (Y1j c w) false]⟩, some ⟨132, t + 1 + 1, [int 0, int 0, .sl 2 [] true, .sl 2 [] true]⟩, some ⟨132, t2 + 1, [int X.1.1, int X.1.2, .own 2 4 (g4) 0 1, .sl 2 [] true]⟩, some ⟨3, t2 + 1 + 1, [int w]⟩, some ⟨33, g4, [int X.1.1, int X.1.2]⟩], y.2⟩) (fun y => (1 - y.1.1).toNat) (fun y => y.1 = (0, 0) ∨ y.1 = (1, 1)) ((0, 0), tt) (.inl rfl) ele ?_
    rintro ⟨⟨j, z⟩, t5⟩ hh
    simp only [Prod.mk.injEq] at hh
    rcases hh with ⟨rfl, rfl⟩ | ⟨rfl, rfl⟩
    ·refine gga0 ?_
     repeat refine Y00 ?_
     refine Y02 ?_
     refine wqa ?_
     ((repeat refine Y00 ?_); (refine Y11m hC0 ?_))
     refine gga0 ?_
     refine ⟨((1, 1), t5 + 1), .inr rfl, by show ((1 : Int) - 1).toNat < ((1 : Int) - 0).toNat; decide, ?_⟩
     exact ele
    ·refine gga0 ?_
     refine ⟨t5, trivial, ?_⟩
     exact ele
   rintro t5 -
   ((repeat refine Y00 ?_); (refine Yg8 hP2 ?_))
   refine gga0 ?_
   refine ⟨(1, [some ⟨128, t + 1, [.sl 1 [int 1] false, .sl 3 (Y1j c w) false]⟩, some ⟨132, t + 1 + 1, [int 0, int 0, .sl 2 [] true, .sl 2 [] true]⟩, some ⟨132, t2 + 1, [int X.1.1, int X.1.2, .own 2 4 (g4) 0 1, .own 2 5 (t5 + 1) 0 1]⟩, some ⟨3, t2 + 1 + 1, [int w]⟩, some ⟨33, g4, [int X.1.1, int X.1.2]⟩, some ⟨33, t5 + 1, [int Y.1.1, int Y.1.2]⟩], t5 + 1), .inr ⟨rfl, _, rfl⟩, by show 1 - 1 < 1 - 0; decide, ?_⟩
   exact ele
  ·refine gga0 ?_
   refine ⟨(g, tt), trivial, ?_⟩
   exact ele
 rintro ⟨g5, t5⟩ -
 refine gga0 ?_
 refine exq Tryz.results78 ?_
 rfl
theorem Yto {P Q : Prop} (q : Q) (h : Q → P := by
 intro  hq
 (try with_reducible intro KR hKR)
 (repeat refine Y00 ?_); (repeat refine Y00 ?_); (refine Y0d tab_ok Y06 1 fun KR hKR => ?_); simp only [List.replicate_succ, List.replicate_zero, List.append_nil, List.nil_append, List.cons_append, List.length_cons, List.length_nil, Nat.reduceAdd]; (repeat' ((first | refine Y2s rfl fun KK hKK => ?_ | refine Y2t rfl rfl fun KK hKK => ?_ | refine Y15 rfl fun KK hKK => ?_ | refine Y14 fun KK hKK => ?_); simp (disch := omega) only [bb, bt, zDs, zD, Y01, simprocAttr, bne_self_eq_false, Int.reduceBNe, Int.reduceBEq, Bool.bne_false, Bool.bne_true, Bool.false_bne, Bool.true_bne]; refine hKK _ _ _ ?_; clear hKK KK)); (refine Y0k ?_); simp only [List.reverse_cons, List.reverse_nil, List.nil_append, List.cons_append]; (refine hKR _ _ (by first | rfl | kernel_rfl) ?_); (try clear hKR KR); (refine qq1 ?_)
 (first | exact hq | (revert hKR; revert KR; exact hq))) : P := h  q
theorem rep1 : PRet Tryz.prog 110 [.sl 1 [int 1] false, int 1] (.sl 1 [int 1] false) := by
 refine pri 2 Tryz.func110 Tryz.ntmps110 fun t => ?_
 simp only [Y04]
 have hm : PRet Tryz.prog 144 [word 1, word 1] (.tup [word 0, word 1]) := Yrc 1 1 (by decide)
 have hmin : min 1 1 = 1 := rfl
 refine gga1 hm ?_
 repeat refine Y00 ?_
 refine Y0i (fun x : Nat => ⟨[(7, .own 1 0 (t + 1) 0 1)], [some ⟨3, t + 1, [int 1]⟩], x⟩) (fun _ => True) ?_ ?_
 ·refine Y02 ?_
  refine Y05 (fun x : Nat => ⟨[(7, .own 1 0 (t + 1) 0 1), (8, int 1)], [some ⟨3, t + 1, [int 1]⟩], x⟩) (fun _ => 0) (fun _ => True) (t + 1) trivial (by (simp (disch := omega) only [StLe, tmLe, Y0b, hpLe, bl, bb, bt, zDs, zD, Y01, simprocAttr, Nat.min_self, hmin])) ?_
  rintro tt -
  refine gga0 ?_
  refine ⟨tt, trivial, ?_⟩
  exact ele
 rintro tt -
 refine gga0 ?_
 ((repeat refine Y00 ?_); (refine wta ?_); simp (disch := omega) only [retQ, resD, oneD, bb, bt, zDs, zD, Y01, simprocAttr, Tryz.results110])
 simp [rsv, T.rs, rsL]
theorem Y11j (s : Sy) (hf : Fits s) (hv : Y0g s = true) (c w : Int) (hm : matS s = [[c]]) (hw : wtsS s = [w]) : PRet Tryz.prog 109 [syD s, .sl 1 [int 1] false] (.tup [prD c w, int 0]) := by
 refine pri 2 Tryz.func109 Tryz.ntmps109 fun t => ?_
 simp only [Y04]
 have h1 := Y57 s hf
 have h2 := Y8s s hf
 rw [hv, if_pos rfl, hm] at h1
 rw [hv, if_pos rfl, hw] at h2
 refine gga2 h1 h2 ?_
 repeat refine Y00 ?_
 refine Y0i (fun y : Nat × Nat => ⟨[(4, .ptr 1 (t + 1 + 1) 0), (5, int 0), (9, .ptr 2 (t + 1 + 1 + 1) 0)], [some ⟨25, t + 1, [bks s.bs, rps s.rs]⟩, some ⟨128, t + 1 + 1, [.sl 1 [] true, .sl 3 [] true]⟩, some ⟨128, t + 1 + 1 + 1, [.sl 1 [int 1] false, .own 3 3 y.1 0 1]⟩, some ⟨194, y.1, Y1j c w⟩], y.2⟩) (fun _ => True) ?_ ?_
 ·refine Y02 ?_
  refine Y05 (fun y : Nat × Hp × Nat => ⟨[(4, .ptr 1 (t + 1 + 1) 0), (5, int 0), (8, ints [w]), (9, .ptr 2 (t + 1 + 1 + 1) 0), (32, mat [[c]]), (33, int 1), (34, int y.1)], y.2.1, y.2.2⟩) (fun y => 1 - y.1) (fun y => y.1 = 0 ∧ y.2.1 = [some ⟨25, t + 1, [bks s.bs, rps s.rs]⟩, some ⟨128, t + 1 + 1, [.sl 1 [] true, .sl 3 [] true]⟩, some ⟨128, t + 1 + 1 + 1, [.sl 1 [int 1] false, .sl 3 [] true]⟩] ∨ y.1 = 1 ∧ ∃ g, y.2.1 = [some ⟨25, t + 1, [bks s.bs, rps s.rs]⟩, some ⟨128, t + 1 + 1, [.sl 1 [] true, .sl 3 [] true]⟩, some ⟨128, t + 1 + 1 + 1, [.sl 1 [int 1] false, .own 3 3 g 0 1]⟩, some ⟨194, g, Y1j c w⟩]) (0, [some ⟨25, t + 1, [bks s.bs, rps s.rs]⟩, some ⟨128, t + 1 + 1, [.sl 1 [] true, .sl 3 [] true]⟩, some ⟨128, t + 1 + 1 + 1, [.sl 1 [int 1] false, .sl 3 [] true]⟩], t + 1 + 1 + 1) (.inl ⟨rfl, rfl⟩) ele ?_
  rintro ⟨k, H, tt⟩ hh
  simp only at hh ⊢
  rcases hh with ⟨rfl, rfl⟩ | ⟨rfl, g, rfl⟩
  ·refine gga0 ?_
   repeat refine Y00 ?_
   refine Y02 ?_
   refine wqa ?_
   ((repeat refine Y00 ?_); (refine Yto ?_))
   refine gga0 ?_
   refine ⟨(1, [some ⟨25, t + 1, [bks s.bs, rps s.rs]⟩, some ⟨128, t + 1 + 1, [.sl 1 [] true, .sl 3 [] true]⟩, some ⟨128, t + 1 + 1 + 1, [.sl 1 [int 1] false, .own 3 3 (tt + 1) 0 1]⟩, some ⟨194, tt + 1, Y1j c w⟩], tt + 1), .inr ⟨rfl, _, rfl⟩, by show 1 - 1 < 1 - 0; decide, ?_⟩
   (simp (disch := omega) only [StLe, tmLe, Y0b, hpLe, bl, bb, bt, zDs, zD, Y01, simprocAttr])
   exact .inr rfl
  ·refine gga0 ?_
   refine ⟨(g, tt), trivial, ?_⟩
   exact ele
 rintro ⟨g, tt⟩ -
 refine gga0 ?_
 exact exx Tryz.results109
theorem Ysl (s : Sy) (hf : Fits s) (hv : Y0g s = true) (c w : Int) (hm : matS s = [[c]]) (hw : wtsS s = [w]) (hr : s.rs.length = 1) : PRet Tryz.prog 77 [syD s] (.tup [prD c w, int 0]) := by
 refine pri 2 Tryz.func77 Tryz.ntmps77 fun t => ?_
 simp only [Y04]
 have hM := Y11j s hf hv c w hm hw
 have hR := rep1
 have hlr := Y28 s.rs
 have hdr := Y1q s.rs
 rw [hr] at hdr hlr
 refine wqa ?_
 ((repeat refine Y00 ?_); (refine Ydx (F := _∧_) ⟨hdr, hr⟩ hR hM ?_))
 exact exx Tryz.results77
theorem Y10c (s : Sy) (hf : Fits s) (hv : Y0g s = true) (c w : Int) (hm : matS s = [[c]]) (hw : wtsS s = [w]) (hr : s.rs.length = 1) (hc : 1 ≤ c ∧ c ≤ 1048576) (hw' : 0 ≤ w ∧ w ≤ 16777216) : PRet Tryz.prog 55 [syD s] (.tup [frs [(Y1b w c).1], int 0]) := by
 refine pri 2 Tryz.func55 Tryz.ntmps55 fun t => ?_
 simp only [Y04]
 have h1 := Ysl s hf hv c w hm hw hr
 have h2 := Yyy c w hc hw'
 generalize Y1b w c = X at *
 refine gga2 h1 h2 ?_
 refine exq Tryz.results55 ?_
 rfl
theorem Y101 (s : Sy) (hf : Fits s) (hv : Y0g s = true) (c w : Int) (hm : matS s = [[c]]) (hw : wtsS s = [w]) (hr : s.rs.length = 1) (hc : 1 ≤ c ∧ c ≤ 1048576) (hw' : 0 ≤ w ∧ w ≤ 16777216) : PRet Tryz.prog 21 [syD s] (.tup [.agg [frs [(Y1b w c).1], bool false, .sl 2 [] false], int 0]) := by
 refine pri 2 Tryz.func21 Tryz.ntmps21 fun t => ?_
 simp only [Y04]
 have h1 := Y10c s hf hv c w hm hw hr hc hw'
 generalize Y1b w c = X at *
 refine gga1 h1 ?_
 repeat refine Y00 ?_
 refine Y02 ?_
 refine gga0 ?_
 refine exq Tryz.results21 ?_
 rfl
end Go.Proofs.YtpbpafmgkdihlaaGreatDoor.T
