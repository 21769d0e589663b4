/- Small laws on worlds that all walks of this seat use. -/
import Derived.Test.YtalhegbjlfkipaaBits
import Derived.Deep.RegionHeld3
import Derived.StillTailTactics
import Derived.Laws.ResultCell
set_option linter.all false
namespace Go.Proofs.Ytalhegbjlfkipaa
open Go.RowKit

theorem bcell {W w1 : World} (hb : Below W.heap.size W w1) : (∀ b o, b < W.heap.size → w1.cell? ⟨b, o, none⟩ = W.cell? ⟨b, o, none⟩) ∧ (∀ b o, b < W.heap.size → w1.frozen? ⟨b, o, none⟩ = W.frozen? ⟨b, o, none⟩) :=
  ⟨fun b o h => hb.cell (p := ⟨b, o, none⟩) h, fun b o h => hb.frozen (p := ⟨b, o, none⟩) h⟩

theorem bdrewN {B : Nat} {a w : World} (h : Below B a w) (n : Nat) : Below B a (w.drewN n) := ⟨h.os, h.tape, h.output, h.size, h.block⟩
theorem after {w W w1 : World} (K : Nat) (h : Below w.heap.size w W) (hK : K ≤ W.heap.size) (hb : Below W.heap.size W w1) :
    Below w.heap.size w w1 ∧ K ≤ w1.heap.size ∧
      (∀ b o, b < W.heap.size → w1.cell? ⟨b, o, none⟩ = W.cell? ⟨b, o, none⟩) ∧ (∀ b o, b < W.heap.size → w1.frozen? ⟨b, o, none⟩ = W.frozen? ⟨b, o, none⟩) :=
  ⟨h.trans (hb.mono h.size), Nat.le_trans hK hb.size, (bcell hb).1, (bcell hb).2⟩
theorem kf1 {n m : Nat} (h : n + 1 ≤ m) : n < m := by omega
theorem kf2 {n m : Nat} (h : n + 2 ≤ m) : n < m ∧ n + 1 < m := by omega
theorem kf3 {n m : Nat} (h : n + 3 ≤ m) : n < m ∧ n + 1 < m ∧ n + 1 + 1 < m := by omega
theorem kf4 {n m : Nat} (h : n + 4 ≤ m) : n < m ∧ n + 1 < m ∧ n + 1 + 1 < m ∧ n + 1 + 1 + 1 < m := by omega
theorem kf5 {n m : Nat} (h : n + 5 ≤ m) : n < m ∧ n + 1 < m ∧ n + 1 + 1 < m ∧ n + 1 + 1 + 1 < m ∧ n + 1 + 1 + 1 + 1 < m := by omega
theorem kf6 {n m : Nat} (h : n + 6 ≤ m) : n < m ∧ n + 1 < m ∧ n + 1 + 1 < m ∧ n + 1 + 1 + 1 < m ∧ n + 1 + 1 + 1 + 1 < m ∧ n + 1 + 1 + 1 + 1 + 1 < m := by omega
theorem kf7 {n m : Nat} (h : n + 7 ≤ m) : n < m ∧ n + 1 < m ∧ n + 1 + 1 < m ∧ n + 1 + 1 + 1 < m ∧ n + 1 + 1 + 1 + 1 < m ∧ n + 1 + 1 + 1 + 1 + 1 < m ∧ n + 1 + 1 + 1 + 1 + 1 + 1 < m := by omega
theorem kf8 {n m : Nat} (h : n + 8 ≤ m) : n < m ∧ n + 1 < m ∧ n + 1 + 1 < m ∧ n + 1 + 1 + 1 < m ∧ n + 1 + 1 + 1 + 1 < m ∧ n + 1 + 1 + 1 + 1 + 1 < m ∧ n + 1 + 1 + 1 + 1 + 1 + 1 < m ∧ n + 1 + 1 + 1 + 1 + 1 + 1 + 1 < m := by omega

end Go.Proofs.Ytalhegbjlfkipaa
