/- The reference's Div, Times, Of of spans over this seat's program. -/
import Derived.Test.YtjjpjgnoanfaoaaRefPart
import Derived.Test.YtjjpjgnoanfaoaaMDPlain
import Derived.Test.YtjjpjgnoanfaoaaRefList
set_option linter.all false
namespace Go.Proofs.Ytjjpjgnoanfaoaa
open Go.RowKit

theorem keepD {w W w1 : World} {p0 p1 p2 : Nat} {v0_0 v0_1 v1_0 v1_1 : Value} (h : Below w.heap.size w W ∧ p0 < W.heap.size ∧ p1 < W.heap.size ∧ p2 < W.heap.size ∧ W.cell? ⟨p0, 0, none⟩ = some (v0_0) ∧ W.cell? ⟨p0, 1, none⟩ = some (v0_1) ∧ W.cell? ⟨p1, 0, none⟩ = some (v1_0) ∧ W.cell? ⟨p1, 1, none⟩ = some (v1_1) ∧ (W.cell? ⟨p2, 0, none⟩).isSome = true ∧ W.frozen? ⟨p2, 0, none⟩ = false ∧ (W.cell? ⟨p2, 1, none⟩).isSome = true ∧ W.frozen? ⟨p2, 1, none⟩ = false) (hb : Below W.heap.size W w1) :
    Below w.heap.size w w1 ∧ p0 < w1.heap.size ∧ p1 < w1.heap.size ∧ p2 < w1.heap.size ∧ w1.cell? ⟨p0, 0, none⟩ = some (v0_0) ∧ w1.cell? ⟨p0, 1, none⟩ = some (v0_1) ∧ w1.cell? ⟨p1, 0, none⟩ = some (v1_0) ∧ w1.cell? ⟨p1, 1, none⟩ = some (v1_1) ∧ (w1.cell? ⟨p2, 0, none⟩).isSome = true ∧ w1.frozen? ⟨p2, 0, none⟩ = false ∧ (w1.cell? ⟨p2, 1, none⟩).isSome = true ∧ w1.frozen? ⟨p2, 1, none⟩ = false := by
  obtain ⟨HB, s0, s1, s2, c0_0, c0_1, c1_0, c1_1, c2_0, f2_0, c2_1, f2_1⟩ := h
  exact ⟨HB.trans (hb.mono HB.size), Nat.lt_of_lt_of_le s0 hb.size, Nat.lt_of_lt_of_le s1 hb.size, Nat.lt_of_lt_of_le s2 hb.size, (hb.cell (p := ⟨p0, 0, none⟩) s0).trans c0_0, (hb.cell (p := ⟨p0, 1, none⟩) s0).trans c0_1, (hb.cell (p := ⟨p1, 0, none⟩) s1).trans c1_0, (hb.cell (p := ⟨p1, 1, none⟩) s1).trans c1_1, (congrArg Option.isSome (hb.cell (p := ⟨p2, 0, none⟩) s2)).trans c2_0, (hb.frozen (p := ⟨p2, 0, none⟩) s2).trans f2_0, (congrArg Option.isSome (hb.cell (p := ⟨p2, 1, none⟩) s2)).trans c2_1, (hb.frozen (p := ⟨p2, 1, none⟩) s2).trans f2_1⟩
theorem keepDA {w W : World} {p0 p1 p2 : Nat} {v0_0 v0_1 v1_0 v1_1 : Value} {o : Obj} (h : Below w.heap.size w W ∧ p0 < W.heap.size ∧ p1 < W.heap.size ∧ p2 < W.heap.size ∧ W.cell? ⟨p0, 0, none⟩ = some (v0_0) ∧ W.cell? ⟨p0, 1, none⟩ = some (v0_1) ∧ W.cell? ⟨p1, 0, none⟩ = some (v1_0) ∧ W.cell? ⟨p1, 1, none⟩ = some (v1_1) ∧ (W.cell? ⟨p2, 0, none⟩).isSome = true ∧ W.frozen? ⟨p2, 0, none⟩ = false ∧ (W.cell? ⟨p2, 1, none⟩).isSome = true ∧ W.frozen? ⟨p2, 1, none⟩ = false) :
    Below w.heap.size w (W.alloc o) ∧ p0 < (W.alloc o).heap.size ∧ p1 < (W.alloc o).heap.size ∧ p2 < (W.alloc o).heap.size ∧ (W.alloc o).cell? ⟨p0, 0, none⟩ = some (v0_0) ∧ (W.alloc o).cell? ⟨p0, 1, none⟩ = some (v0_1) ∧ (W.alloc o).cell? ⟨p1, 0, none⟩ = some (v1_0) ∧ (W.alloc o).cell? ⟨p1, 1, none⟩ = some (v1_1) ∧ ((W.alloc o).cell? ⟨p2, 0, none⟩).isSome = true ∧ (W.alloc o).frozen? ⟨p2, 0, none⟩ = false ∧ ((W.alloc o).cell? ⟨p2, 1, none⟩).isSome = true ∧ (W.alloc o).frozen? ⟨p2, 1, none⟩ = false :=
  keepD h ((Below.refl _ _).alloc (Nat.le_refl _) _)

end Go.Proofs.Ytjjpjgnoanfaoaa
