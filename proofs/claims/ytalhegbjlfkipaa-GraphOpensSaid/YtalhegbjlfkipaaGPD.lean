import Derived.Test.YtalhegbjlfkipaaGPA
set_option linter.all false
/- Graphs, in plain Lean: the cycles of the edges beside the forest; bridges. -/
section
namespace Go.Proofs.Ytalhegbjlfkipaa.Gr
variable {L L' : List (Nat × Nat)} {E : List (Nat × Nat)} {x y z n : Nat}
/-- The cycle of an edge that is not in the forest. -/
noncomputable def cycleP (E : List (Nat × Nat)) (i : Nat) : List Nat := match E[i]? with
  | some (a, b) => i :: wayP (dist (sub E (forestP E)) a) E (forestP E) (dist (sub E (forestP E)) a b).toNat b
  | none => []
noncomputable def restP (E : List (Nat × Nat)) : List Nat := (List.range E.length).filter fun k => !inF E k
noncomputable def cyclesP (E : List (Nat × Nat)) : List (List Nat) := (restP E).map (cycleP E)
/-- Whether edges lead from a node over different nodes back to it. -/
def roundP (E : List (Nat × Nat)) (fr : Nat) : List Nat → List Nat → Nat → Bool
  | [], _, at_ => at_ == fr
  | i :: l, seen, at_ => match oth E i at_ with
    | some y => !seen.contains at_ && roundP E fr l (at_ :: seen) y
    | none => false
def cycP (E : List (Nat × Nat)) (l : List Nat) : Bool := decide (2 ≤ l.length) && decide l.Nodup && match l with
  | i :: _ => match E[i]? with
    | some (a, b) => roundP E a l [] a || roundP E b l [] b
    | none => false
  | [] => false
theorem round_way (ho : Ok n E) {l : List Nat} {b : Nat} : ∀ (d a : Nat) (seen : List Nat), dist (sub E l) b a = d → (∀ s ∈ seen, s = b ∨ (d : Int) < dist (sub E l) b s) → roundP E b (wayP (dist (sub E l) b) E l d a) seen a = true
  | 0, a, seen, h, _ => by
    have := (isFar (sub E l) (a + 1) b).zero a (Nat.lt_succ_self a) h
    simp [wayP, roundP, this]
  | d + 1, a, seen, h, hs => by
    obtain ⟨k, y, h1, h2, h3, h4⟩ := way_step ho h
    unfold wayP
    rw [h1]
    simp only [h3]
    unfold roundP
    rw [h3]
    have hb := (isFar (sub E l) 0 b).at_
    have hns : a ∉ seen := fun hm => by
      rcases hs a hm with e | e
      · subst e; omega
      · omega
    simp only [Bool.and_eq_true, Bool.not_eq_true', List.contains_eq_mem, decide_eq_false_iff_not]
    refine ⟨hns, round_way ho d y _ h4 fun s hm => ?_⟩
    rcases List.mem_cons.1 hm with rfl | hm
    · exact .inr (by omega)
    · exact (hs s hm).imp id fun k => by omega
theorem forest_con (ho : Ok n E) {i a b : Nat} (h : E[i]? = some (a, b)) : Con (sub E (forestP E)) a b := (con_forest ho a b).2 (.adj (.inl (List.mem_of_getElem? h)))
theorem cycle_way (ho : Ok n E) {i a b : Nat} (h : E[i]? = some (a, b)) : ∃ d : Nat, dist (sub E (forestP E)) a b = d ∧ 0 < d ∧ cycleP E i = i :: wayP (dist (sub E (forestP E)) a) E (forestP E) d b := by
  have hc := dist_con.2 (forest_con ho h).symm
  refine ⟨(dist (sub E (forestP E)) a b).toNat, by omega, ?_, by unfold cycleP; rw [h]⟩
  have hne := (ho.get h).2.2
  have : dist (sub E (forestP E)) a b ≠ 0 := fun e => hne ((isFar (sub E (forestP E)) n a).zero b (ho.get h).2.1 e).symm
  omega
/-- Each of them is a cycle. -/
theorem cycle_is (ho : Ok n E) {i : Nat} (hi : i ∈ restP E) : cycP E (cycleP E i) = true := by
  simp only [restP, List.mem_filter, List.mem_range, Bool.not_eq_true'] at hi
  obtain ⟨⟨a, b⟩, h⟩ : ∃ e, E[i]? = some e := ⟨_, List.getElem?_eq_getElem hi.1⟩
  obtain ⟨d, h1, h2, h3⟩ := cycle_way ho h
  have hw := way_walk ho d b h1 (ho.get h).2.1
  have hr := round_way ho d b [a] h1 fun s hs => .inl (by simpa using hs)
  rw [h3]
  unfold cycP
  simp only [h, Bool.and_eq_true, decide_eq_true_eq, Bool.or_eq_true]
  refine ⟨⟨by simp [hw.2]; omega, ?_⟩, .inl ?_⟩
  · rw [List.nodup_cons]
    refine ⟨fun hm => ?_, way_nodup ho d b h1⟩
    have := (mem_forest.1 (hw.1.all i hm)).2
    rw [hi.2] at this; cases this
  · unfold roundP
    rw [(oth_of ho h).1]
    simpa using hr
/-- It has one edge that is not in the forest. -/
theorem cycle_one (ho : Ok n E) {i : Nat} (hi : i ∈ restP E) : ((cycleP E i).filter fun k => !(forestP E).contains k).length = 1 := by
  simp only [restP, List.mem_filter, List.mem_range, Bool.not_eq_true'] at hi
  obtain ⟨⟨a, b⟩, h⟩ : ∃ e, E[i]? = some e := ⟨_, List.getElem?_eq_getElem hi.1⟩
  obtain ⟨d, h1, h2, h3⟩ := cycle_way ho h
  have hw := way_walk ho d b h1 (ho.get h).2.1
  rw [h3]
  have hi' : (forestP E).contains i = false := by
    rw [List.contains_eq_mem]
    simp only [decide_eq_false_iff_not, mem_forest, not_and, Bool.not_eq_true]
    exact fun _ => hi.2
  rw [List.filter_cons_of_pos (by simp [← List.contains_eq_mem, hi'])]
  have : (wayP (dist (sub E (forestP E)) a) E (forestP E) d b).filter (fun k => !(forestP E).contains k) = [] := by
    rw [List.filter_eq_nil_iff]
    intro k hk
    have := hw.1.all k hk
    simp [this]
  rw [this]; rfl
/-- Whether an edge is a bridge. -/
noncomputable def bridgeP (E : List (Nat × Nat)) (i : Nat) : Bool := match E[i]? with
  | some (a, b) => lab (E.eraseIdx i) a != lab (E.eraseIdx i) b
  | none => false
noncomputable def bridgesP (E : List (Nat × Nat)) : List Nat := (List.range E.length).filter (bridgeP E)
theorem bridge_iff {i a b : Nat} (h : E[i]? = some (a, b)) : bridgeP E i = true ↔ ¬ Con (E.eraseIdx i) a b := by
  unfold bridgeP
  rw [h]
  simp only [bne_iff_ne, ne_eq, lab_eq]
/-- The forest has no cycle. -/
theorem forest_open (ho : Ok n E) {i a b : Nat} (h : E[i]? = some (a, b)) (hi : i ∈ forestP E) : ¬ Con (sub E ((forestP E).erase i)) a b := fun hc => by
  have h1 := few_roots (ho.sub ((forestP E).erase i))
  have hnd : (forestP E).Nodup := List.nodup_range.filter _
  have hlen : (sub E ((forestP E).erase i)).length = (forestP E).length - 1 := by
    rw [sub_len fun k hk => (mem_forest.1 (List.mem_of_mem_erase hk)).1, List.length_erase_of_mem hi]
  have hpos : 0 < (forestP E).length := List.length_pos_of_mem hi
  have h2 := forest_count ho
  have hcc : ∀ u v, Con (sub E ((forestP E).erase i)) u v ↔ Con E u v := fun u v => by
    constructor
    · refine fun k => k.sub fun u v a => ?_
      obtain ⟨k, _, e⟩ := (adj_sub ho u v).1 a
      exact .adj ((adj_all ho u v).2 ⟨k, e⟩)
    · intro k
      refine ((con_forest ho u v).2 k).sub fun u v a => ?_
      obtain ⟨k, hk, e⟩ := (adj_sub ho u v).1 a
      by_cases ek : k = i
      · subst ek
        rcases oth_some e with e | e
        · rw [h] at e; cases e; exact hc
        · rw [h] at e; cases e; exact hc.symm
      · exact .adj ((adj_sub ho u v).2 ⟨k, (List.mem_erase_of_ne ek).2 hk, e⟩)
  rw [roots_congr (lab_congr hcc)] at h1
  omega
/-- An edge is a bridge exactly if no cycle has it. -/
theorem bridge_cycles (ho : Ok n E) {i : Nat} (hi : i < E.length) : bridgeP E i = !((cyclesP E).any fun l => l.contains i) := by
  obtain ⟨⟨a, b⟩, h⟩ : ∃ e, E[i]? = some e := ⟨_, List.getElem?_eq_getElem hi⟩
  rw [Bool.eq_iff_iff, bridge_iff h]
  simp only [Bool.not_eq_true', ← Bool.not_eq_true, List.any_eq_true, List.contains_iff_mem]
  refine not_congr ?_
  constructor
  · intro hc
    by_cases hf : i ∈ forestP E
    · refine Classical.byContradiction fun hno => forest_open ho h hf (hc.sub fun u v a' => ?_)
      obtain ⟨k, hk, e⟩ := (adj_erase ho i u v).1 a'
      by_cases hkf : k ∈ forestP E
      · exact .adj ((adj_sub ho u v).2 ⟨k, (List.mem_erase_of_ne hk).2 hkf, e⟩)
      · have hkl : k < E.length := by
          rcases oth_some e with e | e <;> exact (List.getElem?_eq_some_iff.1 e).1
        have hkr : k ∈ restP E := by
          simp only [restP, List.mem_filter, List.mem_range, Bool.not_eq_true']
          refine ⟨hkl, ?_⟩
          rw [mem_forest] at hkf
          simpa [hkl] using hkf
        have key : ∀ p q, E[k]? = some (p, q) → Con (sub E ((forestP E).erase i)) p q := fun p q hpq => by
          obtain ⟨d, h1, h2, h3⟩ := cycle_way ho hpq
          have hw := (way_walk ho d q h1 (ho.get hpq).2.1).1
          refine (hw.con fun j hj u v e => .adj ((adj_sub ho u v).2 ⟨j, ?_, e⟩)).symm
          refine (List.mem_erase_of_ne fun e => ?_).2 (hw.all j hj)
          subst e
          exact hno ⟨cycleP E k, List.mem_map_of_mem hkr, by rw [h3]; simp [hj]⟩
        rcases oth_some e with e | e
        · exact key _ _ e
        · exact (key _ _ e).symm
    · refine ⟨cycleP E i, List.mem_map_of_mem ?_, by unfold cycleP; rw [h]; simp⟩
      simp only [restP, List.mem_filter, List.mem_range, Bool.not_eq_true']
      refine ⟨hi, ?_⟩
      rw [mem_forest] at hf
      simpa [hi] using hf
  · rintro ⟨l, hl, hil⟩
    obtain ⟨j, hj, rfl⟩ := List.mem_map.1 hl
    simp only [restP, List.mem_filter, List.mem_range, Bool.not_eq_true'] at hj
    obtain ⟨⟨p, q⟩, hpq⟩ : ∃ e, E[j]? = some e := ⟨_, List.getElem?_eq_getElem hj.1⟩
    obtain ⟨d, h1, h2, h3⟩ := cycle_way ho hpq
    have hw := (way_walk ho d q h1 (ho.get hpq).2.1).1
    rw [h3] at hil
    by_cases e : i = j
    · subst e
      rw [h] at hpq; cases hpq
      refine (hw.con fun k hk u v e => .adj ((adj_erase ho i u v).2 ⟨k, fun e => ?_, e⟩)).symm
      subst e
      have := (mem_forest.1 (hw.all k hk)).2
      rw [hj.2] at this; cases this
    · have hil' : i ∈ wayP (dist (sub E (forestP E)) p) E (forestP E) d q := by simpa [e] using hil
      have hnd := way_nodup ho d q h1
      obtain ⟨l1, l2, u, v, e1, w1, e2, w2⟩ := hw.split hil'
      rw [e1] at hnd
      have hn1 : i ∉ l1 := fun hm => by
        rw [List.nodup_append] at hnd
        exact hnd.2.2 i hm i (by simp) rfl
      have hn2 : i ∉ l2 := fun hm => by
        rw [List.nodup_append, List.nodup_cons] at hnd
        exact hnd.2.1.1 hm
      have c1 : Con (E.eraseIdx i) q u := w1.con fun k hk u v e => .adj ((adj_erase ho i u v).2 ⟨k, fun e => hn1 (e ▸ hk), e⟩)
      have c2 : Con (E.eraseIdx i) v p := w2.con fun k hk u v e => .adj ((adj_erase ho i u v).2 ⟨k, fun e => hn2 (e ▸ hk), e⟩)
      have c3 : Con (E.eraseIdx i) q p := .adj ((adj_erase ho i q p).2 ⟨j, fun e' => e e'.symm, (oth_of ho hpq).2⟩)
      have c4 : Con (E.eraseIdx i) u v := (c1.symm.trans c3).trans c2.symm
      rcases oth_some e2 with e2 | e2
      · rw [h] at e2; cases e2; exact c4
      · rw [h] at e2; cases e2; exact c4.symm
end Go.Proofs.Ytalhegbjlfkipaa.Gr
end
