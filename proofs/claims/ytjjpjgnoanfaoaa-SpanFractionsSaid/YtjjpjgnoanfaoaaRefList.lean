/- The reference's Least and Greatest over this seat's program, and Meet and Hull by them. -/
import Derived.Test.YtjjpjgnoanfaoaaSpanB
import Derived.Test.YtjjpjgnoanfaoaaLive
set_option linter.all false
namespace Go.Proofs.Ytjjpjgnoanfaoaa
open Go.RowKit

def HoldsL (w : World) (b : Nat) (l : List Int) : Prop := ∀ k (h : k < l.length), w.cell? ⟨b, k, none⟩ = some (.int .i64 l[k])

theorem fold_take (f : Int → Int → Int) (x : Int) (l : List Int) (k : Nat) (h : k < l.length) : (l.take (k + 1)).foldl f x = f ((l.take k).foldl f x) l[k] := by
  rw [List.take_succ_eq_append_getElem h, List.foldl_append]; rfl

/-- Of two numbers that a block holds. -/
theorem holds2 {w : World} {b : Nat} {x y : Int} (h0 : w.cell? ⟨b, 0, none⟩ = some (.int .i64 x)) (h1 : w.cell? ⟨b, 1, none⟩ = some (.int .i64 y)) : HoldsL w b [x, y] := by
  intro k h
  match k, h with
  | 0, _ => exact h0
  | 1, _ => exact h1
theorem holds4 {w : World} {b : Nat} {x y z u : Int} (h0 : w.cell? ⟨b, 0, none⟩ = some (.int .i64 x)) (h1 : w.cell? ⟨b, 1, none⟩ = some (.int .i64 y)) (h2 : w.cell? ⟨b, 2, none⟩ = some (.int .i64 z)) (h3 : w.cell? ⟨b, 3, none⟩ = some (.int .i64 u)) : HoldsL w b [x, y, z, u] := by
  intro k h
  match k, h with
  | 0, _ => exact h0
  | 1, _ => exact h1
  | 2, _ => exact h2
  | 3, _ => exact h3
def meetT (a b c d : Int) : T3 := if min b d < max a c then (0, 0, 12) else (max a c, min b d, 0)

end Go.Proofs.Ytjjpjgnoanfaoaa
