import Derived.Test.YtpbpafmgkdihlaaGreatDoorQBits
import Derived.Deep.RegionHeld3
import Derived.StillTailTactics
import Derived.Laws.ResultCell
set_option linter.all false
namespace Go.Proofs.YtpbpafmgkdihlaaGreatDoor
open Go.RowKit
theorem Yb7 {W w1 : World} (hb : Below W.heap.size W w1) : (∀ b o, b < W.heap.size → w1.cell? ⟨b, o, none⟩ = W.cell? ⟨b, o, none⟩) ∧ (∀ b o, b < W.heap.size → w1.frozen? ⟨b, o, none⟩ = W.frozen? ⟨b, o, none⟩) :=
 ⟨fun b o h => hb.cell (p := ⟨b, o, none⟩) h, fun b o h => hb.frozen (p := ⟨b, o, none⟩) h⟩
theorem Ygp {B : Nat} {a w : World} (h : Below B a w) (n : Nat) : Below B a (w.drewN n) := ⟨h.os, h.tape, h.output, h.size, h.block⟩
theorem after {w W w1 : World} (K : Nat) (h : Below w.heap.size w W) (hK : K ≤ W.heap.size) (hb : Below W.heap.size W w1) :
    Below w.heap.size w w1 ∧ K ≤ w1.heap.size ∧
      (∀ b o, b < W.heap.size → w1.cell? ⟨b, o, none⟩ = W.cell? ⟨b, o, none⟩) ∧ (∀ b o, b < W.heap.size → w1.frozen? ⟨b, o, none⟩ = W.frozen? ⟨b, o, none⟩) :=
  ⟨h.trans (hb.mono h.size), Nat.le_trans hK hb.size, (Yb7 hb).1, (Yb7 hb).2⟩
theorem kf3 {n m : Nat} (h : n + 3 ≤ m) : n < m ∧ n + 1 < m ∧ n + 1 + 1 < m := by omega
theorem blw {a : Nat} {w w' : World} (h : Below a w w' := by (repeat' (first | (with_reducible exact Below.refl _ _) | (with_reducible assumption) | (with_reducible refine Below.alloc ?_ ?_ _) | (with_reducible refine Below.drew ?_) | (with_reducible refine Ygp ?_ _) | (with_reducible refine Below.setCell ?_ ?_ _) | go_size))) : Below a w w' := h
theorem gsx {P : Prop} (h : P := by first | (go_simp; done) | (simp (maxDischargeDepth := 10) [go_sem, *]; done)) : P := h
end Go.Proofs.YtpbpafmgkdihlaaGreatDoor
