import Derived.Test.YtpcakodemleoiaaWX
import Derived.Test.YtpcakodemleoiaaWH
import Derived.Test.YtpcakodemleoiaaDep
set_option linter.all false
namespace Go.Proofs.Ytpcakodemleoiaa.T
open Go Go.RowKit Lin

/-! Turning a matrix, exchanging rows: what becomes of rank and determinant (plain). -/
theorem pivots_full : ∀ (n : Nat) (l : List Nat), l.Pairwise (· < ·) → (∀ p ∈ l, p < n) → l.length = n → l = List.range n
  | 0, l, _, _, h => by rw [List.eq_nil_of_length_eq_zero h]; rfl
  | n + 1, l, h1, h2, h3 => by
    rcases List.eq_nil_or_concat l with rfl | ⟨l', x, rfl⟩
    · simp at h3
    · simp only [List.concat_eq_append] at *
      rw [List.pairwise_append] at h1
      obtain ⟨p1, _, p3⟩ := h1
      have hx := h2 x (by simp)
      have hl : l'.length = n := by simpa using h3
      have ih := pivots_full n l' p1 (fun p hp => by have := p3 p hp x (by simp); omega) hl
      have hxn : x = n := by
        cases n with
        | zero => omega
        | succ k =>
          have := p3 k (by rw [ih]; simp) x (by simp)
          omega
      rw [ih, hxn, List.range_succ]
theorem detP_w {m : List (List Int)} (hs : Small m (wid m) (wid m)) (hsq : m.length = wid m) : detP m = w (m.reverse.map at_) (List.range (wid m)).reverse ∧ (detP m = 0 ↔ rankP m (wid m) < m.length) := by
  have hinv := elim_inv (ups_mover m (wid m)) hs.lens (wid m) (Nat.le_refl _)
  have hrk := hinv.isRank
  have hk := hinv.k_le
  have h0 := hinv.den0
  have hd : detP m = if (elimBy ups m (wid m)).pivots.length < m.length then 0 else sgb (elimBy ups m (wid m)).turned (elimBy ups m (wid m)).den := by
    unfold detP
    simp only [elim_by, hsq]
    rfl
  have hr : rankP m (wid m) = (elimBy ups m (wid m)).pivots.length := by unfold rankP; rw [elim_by]
  rw [hd, hr]
  split
  · rename_i hlt
    refine ⟨?_, by simpa using hlt⟩
    apply Classical.byContradiction
    intro hne
    have := hrk.max (S' := m.reverse.map at_) (C' := (List.range (wid m)).reverse) (fun s hs => by simpa using hs) (fun c hc => by simpa using hc) (fun h => hne h.symm)
    simp at this
    omega
  · rename_i hge
    have e := det_agree hinv (by omega)
    have hp := pivots_full (wid m) _ hinv.nd hinv.lt (by omega)
    refine ⟨by rw [e, CC, hp], ?_⟩
    unfold sgb
    cases (elimBy ups m (wid m)).turned <;> simp <;> omega
theorem at_colP (m : List (List Int)) (i j : Nat) : at_ (colP m i) j = at_ (row m j) i := by
  unfold colP row
  simp only [at_, List.getElem?_map]
  cases m[j]? with
  | none => simp
  | some r => simp
theorem rows_eq (m : List (List Int)) : (List.range m.length).map (row m) = m := by
  refine List.ext_getElem (by simp) fun i h1 h2 => ?_
  simp [row_get h2]
theorem pick {m : List (List Int)} : ∀ {S : List Row}, (∀ s ∈ S, s ∈ m.map at_) → ∃ is : List Nat, (∀ i ∈ is, i < m.length) ∧ S = is.map fun i j => at_ (row m i) j
  | [], _ => ⟨[], by simp, rfl⟩
  | s :: S, h => by
    obtain ⟨is, h1, h2⟩ := pick fun x hx => h x (List.mem_cons_of_mem _ hx)
    obtain ⟨r, hr, he⟩ := List.mem_map.1 (h s (by simp))
    obtain ⟨i, hi⟩ := List.mem_iff_getElem?.1 hr
    have hil := (List.getElem?_eq_some_iff.1 hi).1
    refine ⟨i :: is, fun x hx => ?_, ?_⟩
    · rcases List.mem_cons.1 hx with rfl | hx
      · exact hil
      · exact h1 x hx
    · rw [List.map_cons, ← h2, ← he]
      have : row m i = r := by simp [row, hi]
      rw [this]
theorem minor_turn {m : List (List Int)} {n : Nat} {S : List Row} {C : List Nat} (hS : ∀ s ∈ S, s ∈ m.map at_) (hC : ∀ c ∈ C, c < n) (h : w S C ≠ 0) :
    ∃ (S' : List Row) (C' : List Nat), (∀ s ∈ S', s ∈ (turnP m n).map at_) ∧ (∀ c ∈ C', c < m.length) ∧ w S' C' ≠ 0 ∧ S'.length = C.length := by
  obtain ⟨is, h1, rfl⟩ := pick hS
  rw [w_turn (fun i j => at_ (row m i) j) is C] at h
  refine ⟨_, is, fun s hs => ?_, h1, h, by simp⟩
  obtain ⟨c, hc, rfl⟩ := List.mem_map.1 hs
  refine List.mem_map.2 ⟨colP m c, List.mem_map.2 ⟨c, by simpa using hC c hc, rfl⟩, ?_⟩
  funext i
  exact at_colP m c i
theorem turn_turn {m : List (List Int)} {n : Nat} (h : ∀ r ∈ m, r.length = n) : turnP (turnP m n) m.length = m := by
  refine List.ext_getElem (by simp [turnP]) fun i h1 h2 => ?_
  have hl : (m[i]).length = n := h _ (List.getElem_mem h2)
  have : (turnP (turnP m n) m.length)[i] = colP (turnP m n) i := by simp [turnP]
  rw [this]
  refine List.ext_getElem (by simp [colP, turnP, hl]) fun j h3 h4 => ?_
  have hr : row m i = m[i] := row_get h2
  simp only [colP, turnP, List.getElem_map, List.getElem_range]
  rw [show m.map (fun r => at_ r j) = colP m j from rfl, at_colP, hr]
  simp [at_, h4]
theorem rank_turn {m : List (List Int)} {n : Nat} (h : ∀ r ∈ m, r.length = n) {r s : Nat} (h1 : IsRank (m.map at_) n r) (h2 : IsRank ((turnP m n).map at_) m.length s) : s = r := by
  refine Nat.le_antisymm ?_ ?_
  · obtain ⟨S, C, k1, k2, k3, k4, k5, _⟩ := h2
    obtain ⟨S', C', l1, l2, l3, l4⟩ := minor_turn (m := turnP m n) k1 k4 k5
    rw [turn_turn h] at l1
    rw [turnP_len] at l2
    have := h1.max l1 l2 l3
    omega
  · obtain ⟨S, C, k1, k2, k3, k4, k5, _⟩ := h1
    obtain ⟨S', C', l1, l2, l3, l4⟩ := minor_turn k1 k4 k5
    have := h2.max l1 l2 l3
    omega
theorem w_all (m : List (List Int)) : m.reverse.map at_ = ((List.range m.length).reverse).map fun i j => at_ (row m i) j := by
  conv => lhs; rw [← rows_eq m]
  rw [← List.map_reverse, List.map_map]
  rfl
theorem det_turn {m : List (List Int)} : w ((turnP m m.length).reverse.map at_) (List.range m.length).reverse = w (m.reverse.map at_) (List.range m.length).reverse := by
  rw [w_all m, w_turn (fun i j => at_ (row m i) j)]
  congr 1
  unfold turnP
  rw [← List.map_reverse, List.map_map]
  refine List.map_congr_left fun i _ => ?_
  funext j
  exact at_colP m i j
theorem swp_mem {m : List (List Int)} {a b : Nat} (ha : a < m.length) (hb : b < m.length) (hab : a ≠ b) : (swp m a b).Perm m := by
  rcases Nat.lt_or_gt_of_ne hab with h | h
  · exact swp_perm h hb
  · rw [swp_comm m a b ha hb]; exact swp_perm h ha
theorem det_swp {m : List (List Int)} {a b : Nat} (ha : a < m.length) (hb : b < m.length) (hab : a ≠ b) (cs : List Nat) : w ((swp m a b).reverse.map at_) cs = - w (m.reverse.map at_) cs := by
  have go : ∀ i j, i < j → j < m.length → w ((swp m i j).reverse.map at_) cs = - w (m.reverse.map at_) cs := fun i j hij hj => by
    obtain ⟨u, x, v, y, z, h1, h2, _⟩ := swp_split hij hj
    rw [h2]
    conv => rhs; rw [h1]
    simp only [List.reverse_append, List.reverse_cons, List.map_append, List.map_cons, List.map_nil, List.append_assoc, List.cons_append, List.nil_append]
    rw [w_swap_far]
  rcases Nat.lt_or_gt_of_ne hab with h | h
  · exact go a b h hb
  · rw [swp_comm m a b ha hb]; exact go b a h ha
theorem rk_is {m : List (List Int)} {wd : Nat} (hs : Small m wd wd) : IsRank (m.map at_) wd (rankP m wd) := by
  have h1 := (elim_inv (ups_mover m wd) hs.lens wd (Nat.le_refl _)).isRank
  rw [← elim_by] at h1
  exact h1
/-- The law's facts: turned. -/
theorem turn_facts {m : List (List Int)} (hv : validP m = true) (ht : validP (turnP m (wid m)) = true) : wid (turnP m (wid m)) = m.length ∧ rankP (turnP m (wid m)) (wid (turnP m (wid m))) = rankP m (wid m) ∧
    ((turnP m (wid m)).length = wid (turnP m (wid m)) ↔ m.length = wid m) ∧ (m.length = wid m → detP (turnP m (wid m)) = detP m) := by
  obtain ⟨a1, a2, a3⟩ := validP_iff.1 hv
  have hw : wid (turnP m (wid m)) = m.length := by
    have : ∃ k, wid m = k + 1 := ⟨wid m - 1, by omega⟩
    obtain ⟨k, hk⟩ := this
    have e : turnP m (wid m) = colP m 0 :: ((List.range k).map Nat.succ).map (colP m) := by
      unfold turnP
      rw [hk, List.range_succ_eq_map, List.map_cons]
    rw [e]
    show (colP m 0).length = m.length
    simp [colP]
  have hs := valid_small hv
  have hst := valid_small ht
  have hl : ∀ r ∈ m, r.length = wid m := fun r hr => (a3 r hr).1
  have h1 := rk_is hs
  have h2 := rk_is hst
  rw [hw] at h2 ⊢
  have hr := rank_turn hl h1 h2
  refine ⟨rfl, hr, by rw [turnP_len]; omega, fun hsq => ?_⟩
  have d1 := (detP_w hs hsq).1
  have d2 := (detP_w hst (by rw [turnP_len, hw]; omega)).1
  rw [d1, d2, hw, ← hsq, det_turn]
/-- The law's facts: two rows exchanged. -/
theorem swp_facts {m : List (List Int)} (hv : validP m = true) {a b : Nat} (ha : a < m.length) (hb : b < m.length) (hab : a ≠ b) : validP (swp m a b) = true ∧ (swp m a b).length = m.length ∧ wid (swp m a b) = wid m ∧ rankP (swp m a b) (wid m) = rankP m (wid m) ∧ (m.length = wid m → detP (swp m a b) = - detP m) := by
  obtain ⟨a1, a2, a3⟩ := validP_iff.1 hv
  have hp := swp_mem ha hb hab
  have hlen := swp_length m a b
  have hw : wid (swp m a b) = wid m := by
    cases hx : swp m a b with
    | nil => rw [hx] at hlen; simp at hlen; omega
    | cons r l =>
      have : r ∈ m := hp.mem_iff.1 (by rw [hx]; simp)
      exact (a3 r this).1
  have hvs : validP (swp m a b) = true := validP_iff.2 ⟨by omega, by omega, fun r hr => by rw [hw]; exact a3 r (hp.mem_iff.1 hr)⟩
  have hs := valid_small hv
  have hss := valid_small hvs
  rw [hw] at hss
  have h1 := rk_is hs
  have h2 := rk_is hss
  refine ⟨hvs, hlen, hw, Nat.le_antisymm (h2.le h1 fun x hx => ?_) (h1.le h2 fun x hx => ?_), fun hsq => ?_⟩
  · obtain ⟨r, hr, rfl⟩ := List.mem_map.1 hx
    exact List.mem_map.2 ⟨r, hp.mem_iff.1 hr, rfl⟩
  · obtain ⟨r, hr, rfl⟩ := List.mem_map.1 hx
    exact List.mem_map.2 ⟨r, hp.mem_iff.2 hr, rfl⟩
  · have d1 := (detP_w hs hsq).1
    have d2 := (detP_w (m := swp m a b) (by rw [hw]; exact hss) (by omega)).1
    rw [d1, d2, hw, det_swp ha hb hab]
end Go.Proofs.Ytpcakodemleoiaa.T
