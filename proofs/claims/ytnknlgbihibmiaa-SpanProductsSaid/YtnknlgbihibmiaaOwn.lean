/- Slices of integers that a call makes itself and appends to. -/
import Derived.Test.YtnknlgbihibmiaaBase
import Derived.OwnWalk
import Derived.Maps.AppendAt
namespace Go.Proofs.Ytnknlgbihibmiaa
open Go.RowKit

/-- A slice of integers that is the call's own: its cells lie from block base on. -/
def OwnI (w : World) (base : Nat) (v : Value) (l : List Int) : Prop := w.ownsRow base 3 1 v l.length (l.map (Value.int .i64))

theorem OwnI.nil (w : World) (base : Nat) : OwnI w base (.slice none 0 0) [] := World.ownsRow_nil _ _ _ _
theorem OwnI.below {w w1 : World} {base : Nat} {v : Value} {l : List Int} (h : OwnI w base v l) (hb : Below w.heap.size w w1) : OwnI w1 base v l := by
  refine ⟨h.1, ?_⟩
  rcases h.2 with hn | ⟨g, cap, cur, h1, h2, h3, h4⟩
  · exact .inl hn
  · have hg : g < w.heap.size := by
      rcases Nat.lt_or_ge g w.heap.size with hlt | hge
      · exact hlt
      · rw [Array.getElem?_eq_none hge] at h3; cases h3
    exact .inr ⟨g, cap, cur, h1, h2, (hb.block g hg).trans h3, h4⟩
theorem OwnI.alloc {w : World} {base : Nat} {v : Value} {l : List Int} (h : OwnI w base v l) (o : Obj) : OwnI (w.alloc o) base v l := World.ownsRow.alloc h o
theorem OwnI.drew {w : World} {base : Nat} {v : Value} {l : List Int} (h : OwnI w base v l) : OwnI w.drew base v l := h
theorem OwnI.drewN {w : World} {base : Nat} {v : Value} {l : List Int} (h : OwnI w base v l) (n : Nat) : OwnI (w.drewN n) base v l := h
theorem OwnI.set {w : World} {base : Nat} {v : Value} {l : List Int} (h : OwnI w base v l) {a : Addr} (ha : a.block < base) (u : Value) : OwnI (w.setCell a u) base v l := ownsRow_setCell_below h ha u
/-- What the slice's value is, where it is not empty. -/
theorem OwnI.form {w : World} {base : Nat} {v : Value} {l : List Int} (h : OwnI w base v l) (hl : 0 < l.length) :
    ∃ g cap, v = .slice (some ⟨g, 0, none⟩) l.length cap ∧ base ≤ g ∧ g < w.heap.size ∧ ∀ k (hk : k < l.length), w.cell? ⟨g, k, none⟩ = some (.int .i64 l[k]) := by
  rcases h.2 with ⟨-, hn⟩ | ⟨g, cap, cur, h1, h2, h3, h4, h5, h6, h7⟩
  · omega
  · have hg : g < w.heap.size := by
      rcases Nat.lt_or_ge g w.heap.size with hlt | hge
      · exact hlt
      · rw [Array.getElem?_eq_none hge] at h3; cases h3
    refine ⟨g, cap, h1, h2, hg, fun k hk => ?_⟩
    subst h1
    have := World.ownsRow.cellAt h k (by simpa using hk)
    rw [this, List.getElem?_map, List.getElem?_eq_getElem hk]; rfl

theorem int_info : (Try.prog.info? 3).map (fun i => (i.zero, i.size, i.bytes)) = some (some (.int .i64 0), 1, 8) := by kernel_rfl

/-- append of one number. -/
theorem wpList_pushI {ops : Array Oper} {rest : List Oper} {o : Oper} {a : Act} {Q : Exit → Act → World → Prop} (W : World) (hgd : o.guard = none) (s x : Operand)
    (ho : o.op = .call { callee := .builtin .append, args := #[s, x], argTypes := #[61, 61] })
    (base : Nat) (v : Value) (l : List Int) (hs : a.eval s = v) (hown : OwnI W base v l) (g c : Nat) (y : Int) (hx : a.eval x = .slice (some ⟨g, 0, none⟩) 1 c)
    (hy : W.cell? ⟨g, 0, none⟩ = some (.int .i64 y)) (hl : l.length < 1000000) (hbase : base ≤ W.heap.size)
    (h : ∀ v' w', OwnI w' base v' (l ++ [y]) → Below base W w' → wpList Try.prog ops Q rest (a.put o.dst v') w') : wpList Try.prog ops Q (o :: rest) a W := by
  obtain ⟨i0, hi0, hz0, hz1, hz2⟩ := info_parts int_info
  refine wpList_append_own_at W hgd s x _ ho base 3 i0 _ 1 8 Try.underlying61 hi0 hz0 hz1 hz2 rfl (by omega) v l.length (l.map (Value.int .i64)) hs hown ⟨g, 0, none⟩ 1 c [.int .i64 y] hx rfl ?_ ?_ (by unfold maxLen; omega) (by omega) hbase ?_
  · intro j u hj
    match j with
    | 0 => simp at hj; subst hj; simpa [Addr.add] using hy
    | j + 1 => simp at hj
  · intro u hu
    simp at hu; subst hu; rfl
  · intro v' w' h1 h2 _ _
    refine h v' w' ?_ ?_
    · unfold OwnI
      rw [List.length_append, List.map_append]; exact h1
    · refine (Below.refl _ _).grown h2 hbase fun k hk => (World.ownsRow.lt hown k hk).1
end Go.Proofs.Ytnknlgbihibmiaa
