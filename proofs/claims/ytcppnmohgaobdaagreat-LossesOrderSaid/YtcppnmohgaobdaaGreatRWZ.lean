import Derived.Test.YtcppnmohgaobdaaGreatRWX
import Derived.Test.YtcppnmohgaobdaaGreatRWH
import Derived.Test.YtcppnmohgaobdaaGreatRDep
set_option linter.all false
namespace Go.Proofs.YtcppnmohgaobdaaGreat.T
open Go Go.RowKit Lin
theorem pivots_full : ∀ (n : Nat) (l : List Nat), l.Pairwise (· < ·) → (∀ p ∈ l, p < n) → l.length = n → l = List.range n
  | 0, l, _, _, h => by rw [List.eq_nil_of_length_eq_zero h]; rfl
  | n + 1, l, h1, h2, h3 => by
    rcases List.eq_nil_or_concat l with rfl | ⟨l', x, rfl⟩
    · simp at h3
    · simp only [List.concat_eq_append] at *
      rw [List.pairwise_append] at h1
      obtain ⟨p1, _, p3⟩ := h1
      have hx := h2 x (by simp)
      have hl : l'.length = n := by simpa using h3
      have ih := pivots_full n l' p1 (fun p hp => by have := p3 p hp x (by simp); omega) hl
      have hxn : x = n := by
        cases n with
        | zero => omega
        | succ k =>
          have := p3 k (by rw [ih]; simp) x (by simp)
          omega
      rw [ih, hxn, List.range_succ]
theorem pick {m : List (List Int)} : ∀ {S : List Row}, (∀ s ∈ S, s ∈ m.map at_) → ∃ is : List Nat, (∀ i ∈ is, i < m.length) ∧ S = is.map fun i j => at_ (row m i) j
  | [], _ => ⟨[], by simp, rfl⟩
  | s :: S, h => by
    obtain ⟨is, h1, h2⟩ := pick fun x hx => h x (List.mem_cons_of_mem _ hx)
    obtain ⟨r, hr, he⟩ := List.mem_map.1 (h s (by simp))
    obtain ⟨i, hi⟩ := List.mem_iff_getElem?.1 hr
    have hil := (List.getElem?_eq_some_iff.1 hi).1
    refine ⟨i :: is, fun x hx => ?_, ?_⟩
    · rcases List.mem_cons.1 hx with rfl | hx
      · exact hil
      · exact h1 x hx
    · rw [List.map_cons, ← h2, ← he]
      have : row m i = r := by simp [row, hi]
      rw [this]
theorem rk_is {m : List (List Int)} {wd : Nat} (hs : Small m wd wd) : IsRank (m.map at_) wd (rankP m wd) := by
  have h1 := (elim_inv (ups_mover m wd) hs.lens wd (Nat.le_refl _)).isRank
  rw [← elim_by] at h1
  exact h1
end Go.Proofs.YtcppnmohgaobdaaGreat.T

