import Derived.Test.YtcjmknmlfggblaaTB
set_option linter.all false
namespace Go.Proofs.Ytcjmknmlfggblaa.T
open Go Go.RowKit

/-! What a walk stands at. -/
theorem at_ops {P : Program} {tab : Tab} {n : Nat} {all : List Oper} {K : St → Prop} {l : List Oper} {st : St} (h : awOps P tab n all K l st) : awOps P tab n all K l st := h
theorem at_drawn {P : Program} {tab : Tab} {n : Nat} {all : List Oper} {inc : Bool} {sp : Nat} {K : List Fp → St → Prop} {l : List Oper} {i : Nat} {a : List Fp} {st : St} (h : awD P tab n all inc sp K l i a st) : awD P tab n all inc sp K l i a st := h
/-- Less is said of a slot. -/
theorem AW.slot {P : Program} {n : Nat} {c : Code} {Q : Exit → St → Prop} {st : St} (k : Nat) (d : D) (hd : ∀ F G u, Rep F G (look st.tm k) u → Rep F G d u) (h : AW P n c Q ⟨putTM st.tm k d, st.H, st.t⟩) : AW P n c Q st := fun w0 F G a w hs =>
  h w0 F G a w ⟨hs.1, ⟨hs.2.1.1, fun j => by
    rw [look_putTM]
    split
    · rename_i e; subst e; exact hd _ _ _ (hs.2.1.2 _)
    · exact hs.2.1.2 j⟩, hs.2.2⟩
theorem Rep_nil_any {F : Mem} {G : Ghost} {sz : Nat} {b : Bool} {u : Value} (h : Rep F G (.sl sz [] b) u) (sz' : Nat) (hz : 0 < sz) : Rep F G (.sl sz' [] false) u := by
  simp only [Rep] at h ⊢
  obtain ⟨a, len, cap, h1, h2, h3, h4, _⟩ := h
  have : len = 0 := by
    simp only [List.length_nil] at h2
    rcases Nat.mul_eq_zero.1 h2 with h | h
    · exact h
    · omega
  subst this
  exact ⟨a, 0, cap, h1, by simp, h3, fun e => by simp at e, .inl trivial⟩
theorem um : type_of% @List.map_cons.{0, 0} ∧ type_of% @List.map_nil.{0, 0} ∧ type_of% @List.append_nil.{0} ∧ type_of% @List.nil_append.{0} ∧ type_of% @List.cons_append.{0} ∧ type_of% @ufa.eq_def ∧ type_of% @uf.eq_def := ⟨@List.map_cons.{0, 0}, @List.map_nil.{0, 0}, @List.append_nil.{0}, @List.nil_append.{0}, @List.cons_append.{0}, @ufa.eq_def, @uf.eq_def⟩
theorem AW.less {P : Program} {n : Nat} {c : Code} {Q : Exit → St → Prop} {st : St} (st' : St) (h : StLe st st') (hw : AW P n c Q st') : AW P n c Q st := AW.weaken h.1 h.2.1 h.2.2 hw
end Go.Proofs.Ytcjmknmlfggblaa.T
