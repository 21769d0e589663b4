import Derived.Test.YtjjpjgnoanfaoaaGreatWX
import Derived.Test.YtjjpjgnoanfaoaaGreatWH
import Derived.Test.YtjjpjgnoanfaoaaGreatDep
set_option linter.all false
namespace Go.Proofs.YtjjpjgnoanfaoaaGreat.T
open Go Go.RowKit Lin

/-! Turning a matrix, exchanging rows: what becomes of rank and determinant (plain). -/
theorem pivots_full : ∀ (n : Nat) (l : List Nat), l.Pairwise (· < ·) → (∀ p ∈ l, p < n) → l.length = n → l = List.range n
  | 0, l, _, _, h => by rw [List.eq_nil_of_length_eq_zero h]; rfl
  | n + 1, l, h1, h2, h3 => by
    rcases List.eq_nil_or_concat l with rfl | ⟨l', x, rfl⟩
    · simp at h3
    · simp only [List.concat_eq_append] at *
      rw [List.pairwise_append] at h1
      obtain ⟨p1, _, p3⟩ := h1
      have hx := h2 x (by simp)
      have hl : l'.length = n := by simpa using h3
      have ih := pivots_full n l' p1 (fun p hp => by have := p3 p hp x (by simp); omega) hl
      have hxn : x = n := by
        cases n with
        | zero => omega
        | succ k =>
          have := p3 k (by rw [ih]; simp) x (by simp)
          omega
      rw [ih, hxn, List.range_succ]
theorem at_colP (m : List (List Int)) (i j : Nat) : at_ (colP m i) j = at_ (row m j) i := by
  unfold colP row
  simp only [at_, List.getElem?_map]
  cases m[j]? with
  | none => simp
  | some r => simp
theorem pick {m : List (List Int)} : ∀ {S : List Row}, (∀ s ∈ S, s ∈ m.map at_) → ∃ is : List Nat, (∀ i ∈ is, i < m.length) ∧ S = is.map fun i j => at_ (row m i) j
  | [], _ => ⟨[], by simp, rfl⟩
  | s :: S, h => by
    obtain ⟨is, h1, h2⟩ := pick fun x hx => h x (List.mem_cons_of_mem _ hx)
    obtain ⟨r, hr, he⟩ := List.mem_map.1 (h s (by simp))
    obtain ⟨i, hi⟩ := List.mem_iff_getElem?.1 hr
    have hil := (List.getElem?_eq_some_iff.1 hi).1
    refine ⟨i :: is, fun x hx => ?_, ?_⟩
    · rcases List.mem_cons.1 hx with rfl | hx
      · exact hil
      · exact h1 x hx
    · rw [List.map_cons, ← h2, ← he]
      have : row m i = r := by simp [row, hi]
      rw [this]
theorem minor_turn {m : List (List Int)} {n : Nat} {S : List Row} {C : List Nat} (hS : ∀ s ∈ S, s ∈ m.map at_) (hC : ∀ c ∈ C, c < n) (h : w S C ≠ 0) :
    ∃ (S' : List Row) (C' : List Nat), (∀ s ∈ S', s ∈ (turnP m n).map at_) ∧ (∀ c ∈ C', c < m.length) ∧ w S' C' ≠ 0 ∧ S'.length = C.length := by
  obtain ⟨is, h1, rfl⟩ := pick hS
  rw [w_turn (fun i j => at_ (row m i) j) is C] at h
  refine ⟨_, is, fun s hs => ?_, h1, h, by simp⟩
  obtain ⟨c, hc, rfl⟩ := List.mem_map.1 hs
  refine List.mem_map.2 ⟨colP m c, List.mem_map.2 ⟨c, by simpa using hC c hc, rfl⟩, ?_⟩
  funext i
  exact at_colP m c i
theorem turn_turn {m : List (List Int)} {n : Nat} (h : ∀ r ∈ m, r.length = n) : turnP (turnP m n) m.length = m := by
  refine List.ext_getElem (by simp [turnP]) fun i h1 h2 => ?_
  have hl : (m[i]).length = n := h _ (List.getElem_mem h2)
  have : (turnP (turnP m n) m.length)[i] = colP (turnP m n) i := by simp [turnP]
  rw [this]
  refine List.ext_getElem (by simp [colP, turnP, hl]) fun j h3 h4 => ?_
  have hr : row m i = m[i] := row_get h2
  simp only [colP, turnP, List.getElem_map, List.getElem_range]
  rw [show m.map (fun r => at_ r j) = colP m j from rfl, at_colP, hr]
  simp [at_, h4]
theorem rank_turn {m : List (List Int)} {n : Nat} (h : ∀ r ∈ m, r.length = n) {r s : Nat} (h1 : IsRank (m.map at_) n r) (h2 : IsRank ((turnP m n).map at_) m.length s) : s = r := by
  refine Nat.le_antisymm ?_ ?_
  · obtain ⟨S, C, k1, k2, k3, k4, k5, _⟩ := h2
    obtain ⟨S', C', l1, l2, l3, l4⟩ := minor_turn (m := turnP m n) k1 k4 k5
    rw [turn_turn h] at l1
    rw [turnP_len] at l2
    have := h1.max l1 l2 l3
    omega
  · obtain ⟨S, C, k1, k2, k3, k4, k5, _⟩ := h1
    obtain ⟨S', C', l1, l2, l3, l4⟩ := minor_turn k1 k4 k5
    have := h2.max l1 l2 l3
    omega
theorem rk_is {m : List (List Int)} {wd : Nat} (hs : Small m wd wd) : IsRank (m.map at_) wd (rankP m wd) := by
  have h1 := (elim_inv (ups_mover m wd) hs.lens wd (Nat.le_refl _)).isRank
  rw [← elim_by] at h1
  exact h1
end Go.Proofs.YtjjpjgnoanfaoaaGreat.T

