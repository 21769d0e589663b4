/- Statement SpanSums of chapter 3: what its walk uses. -/
import Derived.Test.YtnknlgbihibmiaaLaw
import Derived.Test.YtnknlgbihibmiaaLive
import Derived.Test.YtnknlgbihibmiaaRefList
namespace Go.Proofs.Ytnknlgbihibmiaa.lawSpanSums
open Go.Proofs.Ytnknlgbihibmiaa Go.RowKit

theorem keep6 {w W w1 : World} {p1 p2 p3 p4 p5 p6 : Nat} {a b c d x0 x1 y0 y1 z0 z1 m0 m1 : Int} (h : Below w.heap.size w W ∧ p1 < W.heap.size ∧ p2 < W.heap.size ∧ p3 < W.heap.size ∧ p4 < W.heap.size ∧ p5 < W.heap.size ∧ p6 < W.heap.size ∧ W.cell? ⟨p1, 0, none⟩ = some (.int .i64 a) ∧ W.cell? ⟨p1, 1, none⟩ = some (.int .i64 b) ∧ W.cell? ⟨p2, 0, none⟩ = some (.int .i64 c) ∧ W.cell? ⟨p2, 1, none⟩ = some (.int .i64 d) ∧ W.cell? ⟨p3, 0, none⟩ = some (.int .i64 x0) ∧ W.cell? ⟨p3, 1, none⟩ = some (.int .i64 x1) ∧ W.cell? ⟨p4, 0, none⟩ = some (.int .i64 y0) ∧ W.cell? ⟨p4, 1, none⟩ = some (.int .i64 y1) ∧ W.cell? ⟨p5, 0, none⟩ = some (.int .i64 z0) ∧ W.cell? ⟨p5, 1, none⟩ = some (.int .i64 z1) ∧ W.cell? ⟨p6, 0, none⟩ = some (.int .i64 m0) ∧ W.cell? ⟨p6, 1, none⟩ = some (.int .i64 m1)) (hb : Below W.heap.size W w1) :
    Below w.heap.size w w1 ∧ p1 < w1.heap.size ∧ p2 < w1.heap.size ∧ p3 < w1.heap.size ∧ p4 < w1.heap.size ∧ p5 < w1.heap.size ∧ p6 < w1.heap.size ∧ w1.cell? ⟨p1, 0, none⟩ = some (.int .i64 a) ∧ w1.cell? ⟨p1, 1, none⟩ = some (.int .i64 b) ∧ w1.cell? ⟨p2, 0, none⟩ = some (.int .i64 c) ∧ w1.cell? ⟨p2, 1, none⟩ = some (.int .i64 d) ∧ w1.cell? ⟨p3, 0, none⟩ = some (.int .i64 x0) ∧ w1.cell? ⟨p3, 1, none⟩ = some (.int .i64 x1) ∧ w1.cell? ⟨p4, 0, none⟩ = some (.int .i64 y0) ∧ w1.cell? ⟨p4, 1, none⟩ = some (.int .i64 y1) ∧ w1.cell? ⟨p5, 0, none⟩ = some (.int .i64 z0) ∧ w1.cell? ⟨p5, 1, none⟩ = some (.int .i64 z1) ∧ w1.cell? ⟨p6, 0, none⟩ = some (.int .i64 m0) ∧ w1.cell? ⟨p6, 1, none⟩ = some (.int .i64 m1) := by
  obtain ⟨HB, s0, s1, s2, s3, s4, s5, c00, c01, c10, c11, c20, c21, c30, c31, c40, c41, c50, c51⟩ := h
  exact ⟨HB.trans (hb.mono HB.size), Nat.lt_of_lt_of_le s0 hb.size, Nat.lt_of_lt_of_le s1 hb.size, Nat.lt_of_lt_of_le s2 hb.size, Nat.lt_of_lt_of_le s3 hb.size, Nat.lt_of_lt_of_le s4 hb.size, Nat.lt_of_lt_of_le s5 hb.size, (hb.cell (p := ⟨p1, 0, none⟩) s0).trans c00, (hb.cell (p := ⟨p1, 1, none⟩) s0).trans c01, (hb.cell (p := ⟨p2, 0, none⟩) s1).trans c10, (hb.cell (p := ⟨p2, 1, none⟩) s1).trans c11, (hb.cell (p := ⟨p3, 0, none⟩) s2).trans c20, (hb.cell (p := ⟨p3, 1, none⟩) s2).trans c21, (hb.cell (p := ⟨p4, 0, none⟩) s3).trans c30, (hb.cell (p := ⟨p4, 1, none⟩) s3).trans c31, (hb.cell (p := ⟨p5, 0, none⟩) s4).trans c40, (hb.cell (p := ⟨p5, 1, none⟩) s4).trans c41, (hb.cell (p := ⟨p6, 0, none⟩) s5).trans c50, (hb.cell (p := ⟨p6, 1, none⟩) s5).trans c51⟩

theorem keep9 {w W w1 : World} {p1 p2 p3 p4 p5 p6 p7 p8 p9 : Nat} {a b c d x0 x1 y0 y1 z0 z1 m0 m1 u0 u1 v0 v1 t0 t1 : Int} (h : Below w.heap.size w W ∧ p1 < W.heap.size ∧ p2 < W.heap.size ∧ p3 < W.heap.size ∧ p4 < W.heap.size ∧ p5 < W.heap.size ∧ p6 < W.heap.size ∧ p7 < W.heap.size ∧ p8 < W.heap.size ∧ p9 < W.heap.size ∧ W.cell? ⟨p1, 0, none⟩ = some (.int .i64 a) ∧ W.cell? ⟨p1, 1, none⟩ = some (.int .i64 b) ∧ W.cell? ⟨p2, 0, none⟩ = some (.int .i64 c) ∧ W.cell? ⟨p2, 1, none⟩ = some (.int .i64 d) ∧ W.cell? ⟨p3, 0, none⟩ = some (.int .i64 x0) ∧ W.cell? ⟨p3, 1, none⟩ = some (.int .i64 x1) ∧ W.cell? ⟨p4, 0, none⟩ = some (.int .i64 y0) ∧ W.cell? ⟨p4, 1, none⟩ = some (.int .i64 y1) ∧ W.cell? ⟨p5, 0, none⟩ = some (.int .i64 z0) ∧ W.cell? ⟨p5, 1, none⟩ = some (.int .i64 z1) ∧ W.cell? ⟨p6, 0, none⟩ = some (.int .i64 m0) ∧ W.cell? ⟨p6, 1, none⟩ = some (.int .i64 m1) ∧ W.cell? ⟨p7, 0, none⟩ = some (.int .i64 u0) ∧ W.cell? ⟨p7, 1, none⟩ = some (.int .i64 u1) ∧ W.cell? ⟨p8, 0, none⟩ = some (.int .i64 v0) ∧ W.cell? ⟨p8, 1, none⟩ = some (.int .i64 v1) ∧ W.cell? ⟨p9, 0, none⟩ = some (.int .i64 t0) ∧ W.cell? ⟨p9, 1, none⟩ = some (.int .i64 t1)) (hb : Below W.heap.size W w1) :
    Below w.heap.size w w1 ∧ p1 < w1.heap.size ∧ p2 < w1.heap.size ∧ p3 < w1.heap.size ∧ p4 < w1.heap.size ∧ p5 < w1.heap.size ∧ p6 < w1.heap.size ∧ p7 < w1.heap.size ∧ p8 < w1.heap.size ∧ p9 < w1.heap.size ∧ w1.cell? ⟨p1, 0, none⟩ = some (.int .i64 a) ∧ w1.cell? ⟨p1, 1, none⟩ = some (.int .i64 b) ∧ w1.cell? ⟨p2, 0, none⟩ = some (.int .i64 c) ∧ w1.cell? ⟨p2, 1, none⟩ = some (.int .i64 d) ∧ w1.cell? ⟨p3, 0, none⟩ = some (.int .i64 x0) ∧ w1.cell? ⟨p3, 1, none⟩ = some (.int .i64 x1) ∧ w1.cell? ⟨p4, 0, none⟩ = some (.int .i64 y0) ∧ w1.cell? ⟨p4, 1, none⟩ = some (.int .i64 y1) ∧ w1.cell? ⟨p5, 0, none⟩ = some (.int .i64 z0) ∧ w1.cell? ⟨p5, 1, none⟩ = some (.int .i64 z1) ∧ w1.cell? ⟨p6, 0, none⟩ = some (.int .i64 m0) ∧ w1.cell? ⟨p6, 1, none⟩ = some (.int .i64 m1) ∧ w1.cell? ⟨p7, 0, none⟩ = some (.int .i64 u0) ∧ w1.cell? ⟨p7, 1, none⟩ = some (.int .i64 u1) ∧ w1.cell? ⟨p8, 0, none⟩ = some (.int .i64 v0) ∧ w1.cell? ⟨p8, 1, none⟩ = some (.int .i64 v1) ∧ w1.cell? ⟨p9, 0, none⟩ = some (.int .i64 t0) ∧ w1.cell? ⟨p9, 1, none⟩ = some (.int .i64 t1) := by
  obtain ⟨HB, s0, s1, s2, s3, s4, s5, s6, s7, s8, c00, c01, c10, c11, c20, c21, c30, c31, c40, c41, c50, c51, c60, c61, c70, c71, c80, c81⟩ := h
  exact ⟨HB.trans (hb.mono HB.size), Nat.lt_of_lt_of_le s0 hb.size, Nat.lt_of_lt_of_le s1 hb.size, Nat.lt_of_lt_of_le s2 hb.size, Nat.lt_of_lt_of_le s3 hb.size, Nat.lt_of_lt_of_le s4 hb.size, Nat.lt_of_lt_of_le s5 hb.size, Nat.lt_of_lt_of_le s6 hb.size, Nat.lt_of_lt_of_le s7 hb.size, Nat.lt_of_lt_of_le s8 hb.size, (hb.cell (p := ⟨p1, 0, none⟩) s0).trans c00, (hb.cell (p := ⟨p1, 1, none⟩) s0).trans c01, (hb.cell (p := ⟨p2, 0, none⟩) s1).trans c10, (hb.cell (p := ⟨p2, 1, none⟩) s1).trans c11, (hb.cell (p := ⟨p3, 0, none⟩) s2).trans c20, (hb.cell (p := ⟨p3, 1, none⟩) s2).trans c21, (hb.cell (p := ⟨p4, 0, none⟩) s3).trans c30, (hb.cell (p := ⟨p4, 1, none⟩) s3).trans c31, (hb.cell (p := ⟨p5, 0, none⟩) s4).trans c40, (hb.cell (p := ⟨p5, 1, none⟩) s4).trans c41, (hb.cell (p := ⟨p6, 0, none⟩) s5).trans c50, (hb.cell (p := ⟨p6, 1, none⟩) s5).trans c51, (hb.cell (p := ⟨p7, 0, none⟩) s6).trans c60, (hb.cell (p := ⟨p7, 1, none⟩) s6).trans c61, (hb.cell (p := ⟨p8, 0, none⟩) s7).trans c70, (hb.cell (p := ⟨p8, 1, none⟩) s7).trans c71, (hb.cell (p := ⟨p9, 0, none⟩) s8).trans c80, (hb.cell (p := ⟨p9, 1, none⟩) s8).trans c81⟩

theorem live6 {w W : World} {p1 p2 p3 p4 p5 p6 : Nat} {a b c d x0 x1 y0 y1 z0 z1 m0 m1 : Int} (h : Below w.heap.size w W ∧ p1 < W.heap.size ∧ p2 < W.heap.size ∧ p3 < W.heap.size ∧ p4 < W.heap.size ∧ p5 < W.heap.size ∧ p6 < W.heap.size ∧ W.cell? ⟨p1, 0, none⟩ = some (.int .i64 a) ∧ W.cell? ⟨p1, 1, none⟩ = some (.int .i64 b) ∧ W.cell? ⟨p2, 0, none⟩ = some (.int .i64 c) ∧ W.cell? ⟨p2, 1, none⟩ = some (.int .i64 d) ∧ W.cell? ⟨p3, 0, none⟩ = some (.int .i64 x0) ∧ W.cell? ⟨p3, 1, none⟩ = some (.int .i64 x1) ∧ W.cell? ⟨p4, 0, none⟩ = some (.int .i64 y0) ∧ W.cell? ⟨p4, 1, none⟩ = some (.int .i64 y1) ∧ W.cell? ⟨p5, 0, none⟩ = some (.int .i64 z0) ∧ W.cell? ⟨p5, 1, none⟩ = some (.int .i64 z1) ∧ W.cell? ⟨p6, 0, none⟩ = some (.int .i64 m0) ∧ W.cell? ⟨p6, 1, none⟩ = some (.int .i64 m1)) :
    Live w W [(p6, 0, .int .i64 m0), (p6, 1, .int .i64 m1), (p5, 0, .int .i64 z0), (p5, 1, .int .i64 z1), (p4, 0, .int .i64 y0), (p4, 1, .int .i64 y1), (p3, 0, .int .i64 x0), (p3, 1, .int .i64 x1), (p2, 0, .int .i64 c), (p2, 1, .int .i64 d), (p1, 0, .int .i64 a), (p1, 1, .int .i64 b)] := by
  obtain ⟨HB, s1, s2, s3, s4, s5, s6, c10, c11, c20, c21, c30, c31, c40, c41, c50, c51, c60, c61⟩ := h
  refine ⟨HB, fun x hx => ?_⟩
  simp only [List.mem_cons, List.not_mem_nil, or_false] at hx
  rcases hx with rfl | rfl | rfl | rfl | rfl | rfl | rfl | rfl | rfl | rfl | rfl | rfl
  all_goals exact ⟨by assumption, by assumption⟩

theorem span_ValidV (a b : Int) (v : Bool) (h : Hid (vspan a b = v)) (w : World) : Calls Try.prog 37 #[.agg #[.int .i64 a, .int .i64 b]] w fun e w' => e = .returned (.bool v) ∧ Below w.heap.size w w' := by
  have e := span_Valid a b w
  rwa [h.out] at e
theorem ref_ValidV (a b : Int) (v : Bool) (h : Hid (vspan a b = v)) (w : World) : Calls Try.prog 14 #[.agg #[.int .i64 a, .int .i64 b]] w fun e w' => e = .returned (.bool v) ∧ Below w.heap.size w w' := by
  have e := ref_Valid a b w
  rwa [h.out] at e
theorem ref_AddV (a b c d x y z : Int) (h1 : Hid (vspan a b = true)) (h2 : Hid (vspan c d = true)) (h : Hid (fitsS (a + c) (b + d) = (x, y, z))) (w : World) : Calls Try.prog 38 #[.agg #[.int .i64 a, .int .i64 b], .agg #[.int .i64 c, .int .i64 d]] w fun e w' => e = .returned (.tuple #[.agg #[.int .i64 x, .int .i64 y], .int .i64 z]) ∧ Below w.heap.size w w' := by
  have e := ref_Add a b c d h1.out h2.out w
  rwa [h.out] at e
theorem ref_SubV (a b c d x y z : Int) (h1 : Hid (vspan a b = true)) (h2 : Hid (vspan c d = true)) (h : Hid (fitsS (a - d) (b - c) = (x, y, z))) (w : World) : Calls Try.prog 39 #[.agg #[.int .i64 a, .int .i64 b], .agg #[.int .i64 c, .int .i64 d]] w fun e w' => e = .returned (.tuple #[.agg #[.int .i64 x, .int .i64 y], .int .i64 z]) ∧ Below w.heap.size w w' := by
  have e := ref_Sub a b c d h1.out h2.out w
  rwa [h.out] at e
theorem ref_MeetV (a b c d x y z : Int) (h : Hid (meetT a b c d = (x, y, z))) (w : World) : Calls Try.prog 40 #[.agg #[.int .i64 a, .int .i64 b], .agg #[.int .i64 c, .int .i64 d]] w fun e w' => e = .returned (.tuple #[.agg #[.int .i64 x, .int .i64 y], .int .i64 z]) ∧ Below w.heap.size w w' := by
  have e := ref_Meet a b c d w
  rwa [h.out] at e
theorem ref_HullV (a b c d x y : Int) (h : Hid (min a c = x)) (h' : Hid (max b d = y)) (w : World) : Calls Try.prog 41 #[.agg #[.int .i64 a, .int .i64 b], .agg #[.int .i64 c, .int .i64 d]] w fun e w' => e = .returned (.agg #[.int .i64 x, .int .i64 y]) ∧ Below w.heap.size w w' := by
  have e := ref_Hull a b c d w
  rwa [h.out, h'.out] at e
theorem law_wrong (w : World) : Calls Try.prog 15 #[.agg #[.int .i64 0, .int .i64 0], .int .i64 1] w fun e w' => e = .returned (.bool true) ∧ Below w.heap.size w w' := by
  go_enter Try.func15, Try.ntmps15
  go_wp2
  go_ret
  exact ⟨rfl, by (repeat' (first | (with_reducible exact Below.refl _ _) | (with_reducible assumption) | (with_reducible refine Below.alloc ?_ ?_ _) | (with_reducible refine Below.drew ?_) | (with_reducible refine bdrewN ?_ _) | (with_reducible refine Below.setCell ?_ ?_ _) | go_size))⟩
theorem sums_same {lo hi : Int} (h : lo ≤ hi) : fitsS lo hi = madeS lo hi := by
  simp only [fitsS, madeS, vspan, wib, Bool.and_eq_true, decide_eq_true_eq]
  by_cases t : (-1152921504606846976 ≤ lo ∧ lo ≤ 1152921504606846976) ∧ -1152921504606846976 ≤ hi ∧ hi ≤ 1152921504606846976
  · rw [if_pos t, if_pos (by omega)]
  · rw [if_neg t, if_neg (by omega)]
end Go.Proofs.Ytnknlgbihibmiaa.lawSpanSums
