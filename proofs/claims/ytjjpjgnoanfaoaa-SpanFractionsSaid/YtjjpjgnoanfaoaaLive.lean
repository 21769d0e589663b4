/- What a straight road knows of its own memory: the cells that it reads again later, kept over calls and new blocks. -/
import Derived.Test.YtjjpjgnoanfaoaaBase
set_option linter.all false
namespace Go.Proofs.Ytjjpjgnoanfaoaa
open Go.RowKit

/-- Below w's size nothing has turned; each listed cell (block, place, value) is there and holds its value. -/
def Live (w W : World) (l : List (Nat × Nat × Value)) : Prop :=
  Below w.heap.size w W ∧ ∀ x, x ∈ l → x.1 < W.heap.size ∧ W.cell? ⟨x.1, x.2.1, none⟩ = some x.2.2

theorem Live.below {w W : World} {l : List (Nat × Nat × Value)} (h : Live w W l) : Below w.heap.size w W := h.1

theorem Live.head {w W : World} {b o : Nat} {v : Value} {l : List (Nat × Nat × Value)} (h : Live w W ((b, o, v) :: l)) : (b < W.heap.size ∧ W.cell? ⟨b, o, none⟩ = some v) ∧ Live w W l :=
  ⟨h.2 (b, o, v) (List.mem_cons_self ..), h.1, fun x hx => h.2 x (List.mem_cons_of_mem _ hx)⟩

/-- The listed cells, one by one. -/
def AllC (W : World) : List (Nat × Nat × Value) → Prop
  | [] => True
  | (b, o, v) :: l => (b < W.heap.size ∧ W.cell? ⟨b, o, none⟩ = some v) ∧ AllC W l

theorem Live.all {w W : World} : ∀ {l : List (Nat × Nat × Value)}, Live w W l → AllC W l
  | [], _ => trivial
  | (_, _, _) :: _, h => ⟨(Live.head h).1, Live.all (Live.head h).2⟩

theorem Live.start (w : World) : Live w w [] := ⟨Below.refl _ _, fun x hx => by cases hx⟩

theorem Live.step {w W w1 : World} {l : List (Nat × Nat × Value)} (h : Live w W l) (hb : Below W.heap.size W w1) : Live w w1 l :=
  ⟨h.1.trans (hb.mono h.1.size), fun x hx => ⟨Nat.lt_of_lt_of_le (h.2 x hx).1 hb.size, (hb.cell (p := ⟨x.1, x.2.1, none⟩) (h.2 x hx).1).trans (h.2 x hx).2⟩⟩

theorem Live.drew {w W : World} {l : List (Nat × Nat × Value)} (h : Live w W l) : Live w W.drew l := ⟨h.1.drew, h.2⟩
theorem Live.drewN {w W : World} {l : List (Nat × Nat × Value)} (n : Nat) (h : Live w W l) : Live w (W.drewN n) l := ⟨bdrewN h.1 n, h.2⟩

theorem Live.alloc2 {w W : World} {l : List (Nat × Nat × Value)} (v0 v1 : Value) (t : TypeId) (h : Live w W l) : Live w (W.alloc (.cells #[v0, v1] t)) ((W.heap.size, 0, v0) :: (W.heap.size, 1, v1) :: l) := by
  refine ⟨h.1.alloc h.1.size _, fun x hx => ?_⟩
  rcases List.mem_cons.1 hx with rfl | hx
  · exact ⟨by simp, by simp⟩
  rcases List.mem_cons.1 hx with rfl | hx
  · exact ⟨by simp, by simp⟩
  · exact ⟨Nat.lt_of_lt_of_le (h.2 x hx).1 (by simp), (World.cell?_alloc_lt W _ ⟨x.1, x.2.1, none⟩ (h.2 x hx).1).trans (h.2 x hx).2⟩

/-- A block of which nothing is read later. -/
theorem Live.allocAny {w W : World} {l : List (Nat × Nat × Value)} (o : Obj) (h : Live w W l) : Live w (W.alloc o) l :=
  ⟨h.1.alloc h.1.size _, fun x hx => ⟨Nat.lt_of_lt_of_le (h.2 x hx).1 (by simp), (World.cell?_alloc_lt W _ ⟨x.1, x.2.1, none⟩ (h.2 x hx).1).trans (h.2 x hx).2⟩⟩

theorem Live.sub {w W : World} {l l' : List (Nat × Nat × Value)} (h : Live w W l) (hs : ∀ x, x ∈ l' → x ∈ l) : Live w W l' := ⟨h.1, fun x hx => h.2 x (hs x hx)⟩
end Go.Proofs.Ytjjpjgnoanfaoaa
