import Derived.Test.YtalhegbjlfkipaaGWX
set_option linter.all false
namespace Go.Proofs.Ytalhegbjlfkipaa.T
open Go Go.RowKit Gr
set_option linter.unusedSimpArgs false

/-! Graphs, plain: what the last two laws count. -/
theorem valid_ok {m : Nat} {E : List (Nat × Nat)} (ho : Ok m E) (hm : m ≤ 1000) (hE : E.length ≤ 4000) : validG m (edN E) = true := by
  unfold validG
  have h : (edN E).any (badE m) = false := by
    rw [List.any_eq_false]
    intro e he
    unfold edN at he
    obtain ⟨p, hp, rfl⟩ := List.mem_map.1 he
    have := ho p hp
    simp only [badE, Bool.or_eq_true, beq_iff_eq, decide_eq_true_eq, not_or]
    refine ⟨⟨by omega, by split <;> omega⟩, by split <;> omega⟩
  rw [h, edN_len, decide_eq_true (by omega), decide_eq_true (by omega), decide_eq_true (by omega)]
  rfl
theorem cycle_lt {n : Nat} {E : List (Nat × Nat)} (ho : Ok n E) {i : Nat} (hi : i ∈ restP E) : ∀ k ∈ cycleP E i, k < E.length := by
  simp only [restP, List.mem_filter, List.mem_range, Bool.not_eq_true'] at hi
  obtain ⟨⟨a, b⟩, h⟩ : ∃ e, E[i]? = some e := ⟨_, List.getElem?_eq_getElem hi.1⟩
  obtain ⟨d, h1, h2, h3⟩ := cycle_way ho h
  have hw := way_walk ho d b h1 (ho.get h).2.1
  rw [h3]
  intro k hk
  rcases List.mem_cons.1 hk with rfl | hk
  · exact hi.1
  · exact (mem_forest.1 (hw.1.all k hk)).1
theorem nl_back (l : List Nat) : (nl l).map Int.toNat = l := by
  unfold nl
  rw [List.map_map]
  exact (List.map_congr_left (g := id) fun x _ => rfl).trans (List.map_id _)
theorem inds_nl {m : Nat} {l : List Nat} (h : ∀ k ∈ l, k < m) : indsP m (nl l) = true := by
  unfold indsP
  rw [List.all_eq_true]
  intro x hx
  unfold nl at hx
  obtain ⟨k, hk, rfl⟩ := List.mem_map.1 hx
  have := h k hk
  rw [decide_eq_true (by omega), decide_eq_true (by omega)]
  rfl
theorem cycS_cycle {n : Nat} {E : List (Nat × Nat)} (ho : Ok n E) {i : Nat} (hi : i ∈ restP E) : cycS E (nl (cycleP E i)) = (true, 0) := by
  unfold cycS
  rw [if_pos (inds_nl (cycle_lt ho hi)), nl_back, cycle_is ho hi]
theorem euler_parts {n : Nat} {E : List (Nat × Nat)} (ho : Ok n E) : (forestP E).length + (partsP n E).length = n := by
  rw [partsP_len]; exact forest_count ho
theorem euler_cycles (E : List (Nat × Nat)) : (forestP E).length + (cyclesP E).length = E.length := by
  rw [cycles_len]; exact forest_rest E
theorem sub_forest_len (E : List (Nat × Nat)) : (sub E (forestP E)).length = (forestP E).length := sub_len fun _ hk => (mem_forest.1 hk).1
theorem rest_forest {n : Nat} {E : List (Nat × Nat)} (ho : Ok n E) : (restP (sub E (forestP E))).length = 0 := by
  have h1 := forest_rest (sub E (forestP E))
  have h2 := forest_none ho
  have h3 := sub_forest_len E
  unfold restP
  omega
theorem parts_forest {n : Nat} {E : List (Nat × Nat)} (ho : Ok n E) : partsP n (sub E (forestP E)) = partsP n E := partsP_congr (con_forest ho)
theorem sub_snoc {E : List (Nat × Nat)} {F : List Nat} {k i : Nat} {e : Nat × Nat} (h1 : F[k]? = some i) (h2 : E[i]? = some e) : sub E (F.take (k + 1)) = sub E (F.take k) ++ [e] := by
  unfold sub
  rw [List.take_add_one, h1, List.filterMap_append]
  simp [h2]
theorem edC_snoc (L : List (Nat × Nat)) (p q : Nat) : edC (edN (L ++ [(p, q)])) = edC (edN L) ++ [int p, int q] := by
  simp [edC, edN]
theorem filt_take {α : Type} (f : α → Bool) {r : List α} {j : Nat} {y : α} (h : r[j]? = some y) : ((r.take (j + 1)).filter f).length = ((r.take j).filter f).length + if f y then 1 else 0 := by
  rw [List.take_add_one, h, List.filter_append, List.length_append]
  cases hf : f y <;> simp [hf]
theorem sub_take_len {E : List (Nat × Nat)} {k : Nat} (hk : k ≤ (forestP E).length) : (sub E ((forestP E).take k)).length = k := by
  rw [sub_len fun i hi => (mem_forest.1 (List.mem_of_mem_take hi)).1, List.length_take, Nat.min_eq_left hk]
end Go.Proofs.Ytalhegbjlfkipaa.T
