/- Statement SpanInside of chapter 3: what its walk uses. -/
import Derived.Test.YtjjpjgnoanfaoaaSumsP
import Derived.Test.YtjjpjgnoanfaoaaRefMD
import Derived.Test.YtjjpjgnoanfaoaaAtPlain
import Derived.Deep.QuietTactic
import Derived.BigQuiet
set_option linter.all false
namespace Go.Proofs.Ytjjpjgnoanfaoaa.lawSpanInside
open Go.Proofs.Ytjjpjgnoanfaoaa Go.Proofs.Ytjjpjgnoanfaoaa.lawSpanSums Go.RowKit

/-- The number of a span that 'at' picks. -/
def atS (a b n : Int) : Int := a + n % (b - a + 1)
theorem atS_in {a b n : Int} (h : a ≤ b) : a ≤ atS a b n ∧ atS a b n ≤ b := by
  have h1 := Int.emod_nonneg n (by omega : b - a + 1 ≠ 0)
  have h2 := Int.emod_lt_of_pos n (by omega : 0 < b - a + 1)
  unfold atS; omega
set_option maxHeartbeats 1000000 in
theorem law_at (a b n x : Int) (HA : Hid (vspan a b = true)) (h1 : 0 ≤ n) (_h2 : n ≤ 18446744073709551615) (HX : Hid (atS a b n = x)) (w : World) : Calls Try.prog 17 #[.agg #[.int .i64 a, .int .i64 b], .int .u64 n] w fun e w' => e = .returned (.int .i64 x) ∧ Below w.heap.size w w' := by
  obtain ⟨b1, b2, b3⟩ := vspan_bounds HA.out
  rw [← HX.out]
  have k1 : 1 ≤ b - a + 1 := by omega
  have k2 : b - a + 1 ≤ 2305843009213693953 := by omega
  have d1 : (b - a + 1 == 0) = false := by simp; omega
  have r1 := Int.emod_nonneg n (by omega : b - a + 1 ≠ 0)
  have r2 := Int.emod_lt_of_pos n (by omega : 0 < b - a + 1)
  have q1 : 0 ≤ b - a := by omega
  have q2 : IntKind.i64.wrap (b - a) = b - a := by rw [IntKind.wrap_i64]; omega
  have q3 : IntKind.i64.wrap (b - a + 1) = b - a + 1 := by rw [IntKind.wrap_i64]; omega
  have q4 : IntKind.u64.wrap (b - a + 1) = b - a + 1 := by rw [IntKind.wrap_u64]; omega
  have q5 : n.tmod (b - a + 1) = n % (b - a + 1) := Int.tmod_eq_emod_of_nonneg h1
  have q6 : IntKind.i64.wrap (n % (b - a + 1)) = n % (b - a + 1) := by rw [IntKind.wrap_i64]; omega
  have q7 : IntKind.i64.wrap (a + n % (b - a + 1)) = a + n % (b - a + 1) := by rw [IntKind.wrap_i64]; omega
  have q8 : IntKind.u64.wrap (n % (b - a + 1)) = n % (b - a + 1) := by rw [IntKind.wrap_u64]; omega
  unfold atS
  go_enter Try.func17, Try.ntmps17
  go_wp2_with fail
  go_quiet (fail)
  go_wp2
  go_ret
  exact ⟨rfl, by (repeat' (first | (with_reducible exact Below.refl _ _) | (with_reducible assumption) | (with_reducible refine Below.alloc ?_ ?_ _) | (with_reducible refine Below.drew ?_) | (with_reducible refine bdrewN ?_ _) | (with_reducible refine Below.setCell ?_ ?_ _) | go_size))⟩
theorem keep2 {w W w1 : World} {p0 p1 : Nat} {v0_0 v0_1 v1_0 v1_1 : Value} (h : Below w.heap.size w W ∧ p0 < W.heap.size ∧ p1 < W.heap.size ∧ W.cell? ⟨p0, 0, none⟩ = some (v0_0) ∧ W.cell? ⟨p0, 1, none⟩ = some (v0_1) ∧ W.cell? ⟨p1, 0, none⟩ = some (v1_0) ∧ W.cell? ⟨p1, 1, none⟩ = some (v1_1)) (hb : Below W.heap.size W w1) :
    Below w.heap.size w w1 ∧ p0 < w1.heap.size ∧ p1 < w1.heap.size ∧ w1.cell? ⟨p0, 0, none⟩ = some (v0_0) ∧ w1.cell? ⟨p0, 1, none⟩ = some (v0_1) ∧ w1.cell? ⟨p1, 0, none⟩ = some (v1_0) ∧ w1.cell? ⟨p1, 1, none⟩ = some (v1_1) := by
  obtain ⟨HB, s0, s1, c0_0, c0_1, c1_0, c1_1⟩ := h
  exact ⟨HB.trans (hb.mono HB.size), Nat.lt_of_lt_of_le s0 hb.size, Nat.lt_of_lt_of_le s1 hb.size, (hb.cell (p := ⟨p0, 0, none⟩) s0).trans c0_0, (hb.cell (p := ⟨p0, 1, none⟩) s0).trans c0_1, (hb.cell (p := ⟨p1, 0, none⟩) s1).trans c1_0, (hb.cell (p := ⟨p1, 1, none⟩) s1).trans c1_1⟩
theorem keep2A {w W : World} {p0 p1 : Nat} {v0_0 v0_1 v1_0 v1_1 : Value} {o : Obj} (h : Below w.heap.size w W ∧ p0 < W.heap.size ∧ p1 < W.heap.size ∧ W.cell? ⟨p0, 0, none⟩ = some (v0_0) ∧ W.cell? ⟨p0, 1, none⟩ = some (v0_1) ∧ W.cell? ⟨p1, 0, none⟩ = some (v1_0) ∧ W.cell? ⟨p1, 1, none⟩ = some (v1_1)) :
    Below w.heap.size w (W.alloc o) ∧ p0 < (W.alloc o).heap.size ∧ p1 < (W.alloc o).heap.size ∧ (W.alloc o).cell? ⟨p0, 0, none⟩ = some (v0_0) ∧ (W.alloc o).cell? ⟨p0, 1, none⟩ = some (v0_1) ∧ (W.alloc o).cell? ⟨p1, 0, none⟩ = some (v1_0) ∧ (W.alloc o).cell? ⟨p1, 1, none⟩ = some (v1_1) :=
  keep2 h ((Below.refl _ _).alloc (Nat.le_refl _) _)

theorem keep6 {w W w1 : World} {p0 p1 p2 p3 p4 p5 : Nat} {v0_0 v0_1 v1_0 v1_1 v2_0 v2_1 v3_0 v3_1 v4_0 v4_1 v5_0 v5_1 : Value} (h : Below w.heap.size w W ∧ p0 < W.heap.size ∧ p1 < W.heap.size ∧ p2 < W.heap.size ∧ p3 < W.heap.size ∧ p4 < W.heap.size ∧ p5 < W.heap.size ∧ W.cell? ⟨p0, 0, none⟩ = some (v0_0) ∧ W.cell? ⟨p0, 1, none⟩ = some (v0_1) ∧ W.cell? ⟨p1, 0, none⟩ = some (v1_0) ∧ W.cell? ⟨p1, 1, none⟩ = some (v1_1) ∧ W.cell? ⟨p2, 0, none⟩ = some (v2_0) ∧ W.cell? ⟨p2, 1, none⟩ = some (v2_1) ∧ W.cell? ⟨p3, 0, none⟩ = some (v3_0) ∧ W.cell? ⟨p3, 1, none⟩ = some (v3_1) ∧ W.cell? ⟨p4, 0, none⟩ = some (v4_0) ∧ W.cell? ⟨p4, 1, none⟩ = some (v4_1) ∧ W.cell? ⟨p5, 0, none⟩ = some (v5_0) ∧ W.cell? ⟨p5, 1, none⟩ = some (v5_1)) (hb : Below W.heap.size W w1) :
    Below w.heap.size w w1 ∧ p0 < w1.heap.size ∧ p1 < w1.heap.size ∧ p2 < w1.heap.size ∧ p3 < w1.heap.size ∧ p4 < w1.heap.size ∧ p5 < w1.heap.size ∧ w1.cell? ⟨p0, 0, none⟩ = some (v0_0) ∧ w1.cell? ⟨p0, 1, none⟩ = some (v0_1) ∧ w1.cell? ⟨p1, 0, none⟩ = some (v1_0) ∧ w1.cell? ⟨p1, 1, none⟩ = some (v1_1) ∧ w1.cell? ⟨p2, 0, none⟩ = some (v2_0) ∧ w1.cell? ⟨p2, 1, none⟩ = some (v2_1) ∧ w1.cell? ⟨p3, 0, none⟩ = some (v3_0) ∧ w1.cell? ⟨p3, 1, none⟩ = some (v3_1) ∧ w1.cell? ⟨p4, 0, none⟩ = some (v4_0) ∧ w1.cell? ⟨p4, 1, none⟩ = some (v4_1) ∧ w1.cell? ⟨p5, 0, none⟩ = some (v5_0) ∧ w1.cell? ⟨p5, 1, none⟩ = some (v5_1) := by
  obtain ⟨HB, s0, s1, s2, s3, s4, s5, c0_0, c0_1, c1_0, c1_1, c2_0, c2_1, c3_0, c3_1, c4_0, c4_1, c5_0, c5_1⟩ := h
  exact ⟨HB.trans (hb.mono HB.size), Nat.lt_of_lt_of_le s0 hb.size, Nat.lt_of_lt_of_le s1 hb.size, Nat.lt_of_lt_of_le s2 hb.size, Nat.lt_of_lt_of_le s3 hb.size, Nat.lt_of_lt_of_le s4 hb.size, Nat.lt_of_lt_of_le s5 hb.size, (hb.cell (p := ⟨p0, 0, none⟩) s0).trans c0_0, (hb.cell (p := ⟨p0, 1, none⟩) s0).trans c0_1, (hb.cell (p := ⟨p1, 0, none⟩) s1).trans c1_0, (hb.cell (p := ⟨p1, 1, none⟩) s1).trans c1_1, (hb.cell (p := ⟨p2, 0, none⟩) s2).trans c2_0, (hb.cell (p := ⟨p2, 1, none⟩) s2).trans c2_1, (hb.cell (p := ⟨p3, 0, none⟩) s3).trans c3_0, (hb.cell (p := ⟨p3, 1, none⟩) s3).trans c3_1, (hb.cell (p := ⟨p4, 0, none⟩) s4).trans c4_0, (hb.cell (p := ⟨p4, 1, none⟩) s4).trans c4_1, (hb.cell (p := ⟨p5, 0, none⟩) s5).trans c5_0, (hb.cell (p := ⟨p5, 1, none⟩) s5).trans c5_1⟩
theorem keep6A {w W : World} {p0 p1 p2 p3 p4 p5 : Nat} {v0_0 v0_1 v1_0 v1_1 v2_0 v2_1 v3_0 v3_1 v4_0 v4_1 v5_0 v5_1 : Value} {o : Obj} (h : Below w.heap.size w W ∧ p0 < W.heap.size ∧ p1 < W.heap.size ∧ p2 < W.heap.size ∧ p3 < W.heap.size ∧ p4 < W.heap.size ∧ p5 < W.heap.size ∧ W.cell? ⟨p0, 0, none⟩ = some (v0_0) ∧ W.cell? ⟨p0, 1, none⟩ = some (v0_1) ∧ W.cell? ⟨p1, 0, none⟩ = some (v1_0) ∧ W.cell? ⟨p1, 1, none⟩ = some (v1_1) ∧ W.cell? ⟨p2, 0, none⟩ = some (v2_0) ∧ W.cell? ⟨p2, 1, none⟩ = some (v2_1) ∧ W.cell? ⟨p3, 0, none⟩ = some (v3_0) ∧ W.cell? ⟨p3, 1, none⟩ = some (v3_1) ∧ W.cell? ⟨p4, 0, none⟩ = some (v4_0) ∧ W.cell? ⟨p4, 1, none⟩ = some (v4_1) ∧ W.cell? ⟨p5, 0, none⟩ = some (v5_0) ∧ W.cell? ⟨p5, 1, none⟩ = some (v5_1)) :
    Below w.heap.size w (W.alloc o) ∧ p0 < (W.alloc o).heap.size ∧ p1 < (W.alloc o).heap.size ∧ p2 < (W.alloc o).heap.size ∧ p3 < (W.alloc o).heap.size ∧ p4 < (W.alloc o).heap.size ∧ p5 < (W.alloc o).heap.size ∧ (W.alloc o).cell? ⟨p0, 0, none⟩ = some (v0_0) ∧ (W.alloc o).cell? ⟨p0, 1, none⟩ = some (v0_1) ∧ (W.alloc o).cell? ⟨p1, 0, none⟩ = some (v1_0) ∧ (W.alloc o).cell? ⟨p1, 1, none⟩ = some (v1_1) ∧ (W.alloc o).cell? ⟨p2, 0, none⟩ = some (v2_0) ∧ (W.alloc o).cell? ⟨p2, 1, none⟩ = some (v2_1) ∧ (W.alloc o).cell? ⟨p3, 0, none⟩ = some (v3_0) ∧ (W.alloc o).cell? ⟨p3, 1, none⟩ = some (v3_1) ∧ (W.alloc o).cell? ⟨p4, 0, none⟩ = some (v4_0) ∧ (W.alloc o).cell? ⟨p4, 1, none⟩ = some (v4_1) ∧ (W.alloc o).cell? ⟨p5, 0, none⟩ = some (v5_0) ∧ (W.alloc o).cell? ⟨p5, 1, none⟩ = some (v5_1) :=
  keep6 h ((Below.refl _ _).alloc (Nat.le_refl _) _)

theorem live2 {w W : World} {p0 p1 : Nat} {v0_0 v0_1 v1_0 v1_1 : Value} (h : Below w.heap.size w W ∧ p0 < W.heap.size ∧ p1 < W.heap.size ∧ W.cell? ⟨p0, 0, none⟩ = some (v0_0) ∧ W.cell? ⟨p0, 1, none⟩ = some (v0_1) ∧ W.cell? ⟨p1, 0, none⟩ = some (v1_0) ∧ W.cell? ⟨p1, 1, none⟩ = some (v1_1)) : Live w W [(p1, 0, v1_0), (p1, 1, v1_1), (p0, 0, v0_0), (p0, 1, v0_1)] := by
  obtain ⟨HB, s1, s2, c10, c11, c20, c21⟩ := h
  refine ⟨HB, fun x hx => ?_⟩
  simp only [List.mem_cons, List.not_mem_nil, or_false] at hx
  rcases hx with rfl | rfl | rfl | rfl
  all_goals exact ⟨by assumption, by assumption⟩
theorem keep1 {w W w1 : World} {p0 : Nat} {v0_0 v0_1 : Value} (h : Below w.heap.size w W ∧ p0 < W.heap.size ∧ W.cell? ⟨p0, 0, none⟩ = some (v0_0) ∧ W.cell? ⟨p0, 1, none⟩ = some (v0_1)) (hb : Below W.heap.size W w1) :
    Below w.heap.size w w1 ∧ p0 < w1.heap.size ∧ w1.cell? ⟨p0, 0, none⟩ = some (v0_0) ∧ w1.cell? ⟨p0, 1, none⟩ = some (v0_1) := by
  obtain ⟨HB, s0, c0_0, c0_1⟩ := h
  exact ⟨HB.trans (hb.mono HB.size), Nat.lt_of_lt_of_le s0 hb.size, (hb.cell (p := ⟨p0, 0, none⟩) s0).trans c0_0, (hb.cell (p := ⟨p0, 1, none⟩) s0).trans c0_1⟩
theorem keep1A {w W : World} {p0 : Nat} {v0_0 v0_1 : Value} {o : Obj} (h : Below w.heap.size w W ∧ p0 < W.heap.size ∧ W.cell? ⟨p0, 0, none⟩ = some (v0_0) ∧ W.cell? ⟨p0, 1, none⟩ = some (v0_1)) :
    Below w.heap.size w (W.alloc o) ∧ p0 < (W.alloc o).heap.size ∧ (W.alloc o).cell? ⟨p0, 0, none⟩ = some (v0_0) ∧ (W.alloc o).cell? ⟨p0, 1, none⟩ = some (v0_1) :=
  keep1 h ((Below.refl _ _).alloc (Nat.le_refl _) _)
end Go.Proofs.Ytjjpjgnoanfaoaa.lawSpanInside
