import Derived.Test.YtpcakodemleoiaaTB
import Derived.Test.YtpcakodemleoiaaWH
import Derived.Test.YtpcakodemleoiaaDep
set_option linter.all false
section
namespace Go.Proofs.Ytpcakodemleoiaa.T
open Go Go.RowKit Lin
set_option linter.unusedSimpArgs false

/-- The rows that do not depend on those before them, by growing ranks; and the rank. -/
def indS (rk : Nat → Nat) : Nat → List Nat × Nat
  | 0 => ([], 0)
  | k + 1 => let p := indS rk k; if p.2 < rk (k + 1) then (p.1 ++ [k], rk (k + 1)) else p
def indP (m : List (List Int)) : List Nat := (indS (fun k => rankP (m.take k) (wid m)) m.length).1
abbrev natI (l : List Nat) : List D := l.map fun x : Nat => int (x : Int)
structure IS where
  k : Nat
  g : Nat
  t : Nat
def IS.st (m : List (List Int)) (rk : Nat → Nat) (x : IS) : St := ⟨[(0, mat m), (4, .own 1 0 x.g 0 (indS rk x.k).1.length), (5, int (indS rk x.k).2), (12, int m.length), (13, int x.k)], [some ⟨3, x.g, natI (indS rk x.k).1⟩], x.t⟩
theorem IS.st_mk (m : List (List Int)) (rk : Nat → Nat) (k g t : Nat) : IS.st m rk ⟨k, g, t⟩ = ⟨[(0, mat m), (4, .own 1 0 g 0 (indS rk k).1.length), (5, int (indS rk k).2), (12, int m.length), (13, int k)], [some ⟨3, g, natI (indS rk k).1⟩], t⟩ := rfl
theorem indS_len (rk : Nat → Nat) : ∀ k, (indS rk k).1.length ≤ k
  | 0 => Nat.le_refl _
  | k + 1 => by
    have := indS_len rk k
    simp only [indS]
    split
    · simp; exact this
    · omega
end Go.Proofs.Ytpcakodemleoiaa.T
end

section
namespace Go.Proofs.Ytpcakodemleoiaa.T
open Go Go.RowKit Lin
set_option linter.unusedSimpArgs false

theorem natI_ints (l : List Nat) : natI l = (l.map fun x : Nat => (x : Int)).map int := by rw [List.map_map]; rfl

/-- The ranks of the first rows grow. -/
theorem rank_grow {m : List (List Int)} {w : Nat} (hs : Small m w w) {i j : Nat} (h : i ≤ j) : rankP (m.take i) w ≤ rankP (m.take j) w := by
  have h1 := (elim_inv (ups_mover (m.take i) w) (Small.take hs i).lens w (Nat.le_refl _)).isRank
  have h2 := (elim_inv (ups_mover (m.take j) w) (Small.take hs j).lens w (Nat.le_refl _)).isRank
  rw [← elim_by] at h1 h2
  exact h1.le h2 fun x hx => by
    obtain ⟨r, hr, rfl⟩ := List.mem_map.1 hx
    exact List.mem_map.2 ⟨r, (List.take_sublist_take_left h).subset hr, rfl⟩
theorem rank_zero {m : List (List Int)} {w : Nat} (hs : Small m w w) : rankP (m.take 0) w = 0 := by
  have h1 := (elim_inv (ups_mover (m.take 0) w) (Small.take hs 0).lens w (Nat.le_refl _)).k_le
  rw [← elim_by] at h1
  simpa [rankP] using h1
theorem indS_rank {m : List (List Int)} {w : Nat} (hs : Small m w w) : ∀ k, (indS (fun k => rankP (m.take k) w) k).2 = rankP (m.take k) w
  | 0 => by rw [rank_zero hs]; rfl
  | k + 1 => by
    have ih := indS_rank hs k
    have hg := rank_grow hs (Nat.le_add_right k 1)
    simp only [indS]
    split
    · rfl
    · rename_i h
      rw [ih] at h ⊢
      omega
theorem rk_isRank {m : List (List Int)} {w : Nat} (hs : Small m w w) : IsRank (m.map at_) w (rankP m w) := by
  have h1 := (elim_inv (ups_mover m w) hs.lens w (Nat.le_refl _)).isRank
  rw [← elim_by] at h1
  exact h1
/-- The rows kept among the first k: each that does not depend on those before it. -/
def kept (m : List (List Int)) (w k : Nat) : List (List Int) := (indS (fun k => rankP (m.take k) w) k).1.map (Lin.row m)
theorem kept_succ {m : List (List Int)} {w : Nat} (hs : Small m w w) (k : Nat) : kept m w (k + 1) = if rankP (m.take k) w < rankP (m.take (k + 1)) w then kept m w k ++ [Lin.row m k] else kept m w k := by
  have h := indS_rank hs k
  unfold kept
  simp only [indS, h]
  split <;> simp
theorem small_sub {m l : List (List Int)} {wd n : Nat} (h : Small m wd n) (hl : l.length ≤ 6) (hm : ∀ r ∈ l, r ∈ m) : Small l wd n :=
  ⟨hl, fun r hr => h.lens r (hm r hr), h.le, fun r hr => h.num r (hm r hr), fun r hr => h.big r (hm r hr)⟩
theorem kept_rank {m : List (List Int)} {w : Nat} (hs : Small m w w) : ∀ k, k ≤ m.length → (kept m w k).length = rankP (m.take k) w ∧ (∀ r ∈ kept m w k, r ∈ m.take k) ∧ IsRank ((kept m w k).map at_) w (rankP (m.take k) w)
  | 0, _ => by
    have h0 := rank_zero hs
    refine ⟨by rw [h0]; rfl, fun r hr => by simp [kept, indS] at hr, ?_⟩
    have := rk_isRank (Small.take hs 0)
    simpa [kept, indS] using this
  | k + 1, hk => by
    obtain ⟨h1, h2, h3⟩ := kept_rank hs k (by omega)
    have hm := hs.rows
    have hle := indS_len (fun k => rankP (m.take k) w) k
    have hkl : (kept m w k).length ≤ k := by simpa [kept] using hle
    have hrow : m[k]? = some (Lin.row m k) := by rw [row_get (by omega)]; exact List.getElem?_eq_getElem (by omega)
    have htk : m.take (k + 1) = m.take k ++ [Lin.row m k] := by rw [List.take_add_one, hrow]; rfl
    have hsub : ∀ r ∈ kept m w k ++ [Lin.row m k], r ∈ m := fun r hr => by
      rcases List.mem_append.1 hr with h | h
      · exact List.mem_of_mem_take (h2 r h)
      · simp only [List.mem_singleton] at h; rw [h]; exact List.mem_of_getElem? hrow
    have hK' := rk_isRank (small_sub hs (l := kept m w k ++ [Lin.row m k]) (by simp; omega) hsub)
    have hA := rk_isRank (Small.take hs k)
    have hA' := rk_isRank (Small.take hs (k + 1))
    have hmemK : ∀ y, y ∈ (kept m w k ++ [Lin.row m k]).map at_ ↔ y ∈ (kept m w k).map at_ ∨ y = at_ (Lin.row m k) := fun y => by simp
    have hmemA : ∀ y, y ∈ (m.take (k + 1)).map at_ ↔ y ∈ (m.take k).map at_ ∨ y = at_ (Lin.row m k) := fun y => by rw [htk]; simp
    have hin : ∀ y ∈ (kept m w k).map at_, y ∈ (m.take k).map at_ := fun y hy => by
      obtain ⟨r, hr, rfl⟩ := List.mem_map.1 hy
      exact List.mem_map.2 ⟨r, h2 r hr, rfl⟩
    have hsame := h3.same hA hK' hA' hin hmemK hmemA
    have hgrow := hA.grow hA' fun y hy => (hmemA y).1 hy
    have hup := rank_grow hs (Nat.le_add_right k 1)
    rw [kept_succ hs k]
    split
    · refine ⟨by simp; omega, fun r hr => ?_, by rw [← hsame]; exact hK'⟩
      rw [htk]
      rcases List.mem_append.1 hr with h | h
      · exact List.mem_append_left _ (h2 r h)
      · exact List.mem_append_right _ h
    · have e : rankP (m.take (k + 1)) w = rankP (m.take k) w := by omega
      rw [e]
      exact ⟨h1, fun r hr => by rw [htk]; exact List.mem_append_left _ (h2 r hr), h3⟩
/-- With the next row: the rank of as many rows. -/
theorem kept_next {m : List (List Int)} {w : Nat} (hs : Small m w w) {k : Nat} (hk : k < m.length) : rankP (kept m w k ++ [Lin.row m k]) w = rankP (m.take (k + 1)) w := by
  obtain ⟨h1, h2, h3⟩ := kept_rank hs k (by omega)
  have hm := hs.rows
  have hle := indS_len (fun k => rankP (m.take k) w) k
  have hkl : (kept m w k).length ≤ k := by simpa [kept] using hle
  have hrow : m[k]? = some (Lin.row m k) := by rw [row_get hk]; exact List.getElem?_eq_getElem hk
  have htk : m.take (k + 1) = m.take k ++ [Lin.row m k] := by rw [List.take_add_one, hrow]; rfl
  have hsub : ∀ r ∈ kept m w k ++ [Lin.row m k], r ∈ m := fun r hr => by
    rcases List.mem_append.1 hr with h | h
    · exact List.mem_of_mem_take (h2 r h)
    · simp only [List.mem_singleton] at h; rw [h]; exact List.mem_of_getElem? hrow
  have hK' := rk_isRank (small_sub hs (l := kept m w k ++ [Lin.row m k]) (by simp; omega) hsub)
  exact IsRank.same (x := at_ (Lin.row m k)) h3 (rk_isRank (Small.take hs k)) hK' (rk_isRank (Small.take hs (k + 1))) (fun y hy => by
    obtain ⟨r, hr, rfl⟩ := List.mem_map.1 hy
    exact List.mem_map.2 ⟨r, h2 r hr, rfl⟩) (fun y => by simp) (fun y => by rw [htk]; simp)
end Go.Proofs.Ytpcakodemleoiaa.T
end
