import Derived.Test.YtalhegbjlfkipaaGPD
set_option linter.all false
/- Graphs, in plain Lean: labels and distances of a given graph, by reckoning; the chapter's example. -/
section
namespace Go.Proofs.Ytalhegbjlfkipaa.Gr
variable {L E : List (Nat × Nat)} {n x b : Nat}
def tblS (T : List Nat) (e : Nat × Nat) : List Nat := T.map fun v => if v = max (T.getD e.1 0) (T.getD e.2 0) then min (T.getD e.1 0) (T.getD e.2 0) else v
def tblP (n : Nat) (L : List (Nat × Nat)) : List Nat := L.foldl tblS (List.range n)
theorem tbl_step (ho : Ok n L) : ∀ k, k ≤ L.length → (List.range n).map (lab (L.take k)) = (L.take k).foldl tblS (List.range n)
  | 0, _ => by
    rw [List.take_zero, List.foldl_nil]
    refine (List.map_congr_left fun x _ => ?_).trans (List.map_id _)
    exact ((Lab.start (x + 1)).is (fun e he => by cases he) (Nat.lt_succ_self x)).symm
  | k + 1, hk => by
    have ih := tbl_step ho k (by omega)
    obtain ⟨⟨a, b⟩, he⟩ : ∃ e, L[k]? = some e := ⟨_, List.getElem?_eq_getElem (by omega)⟩
    obtain ⟨ha, hb, _⟩ := ho.get he
    have hs : L.take (k + 1) = L.take k ++ [(a, b)] := by rw [List.take_add_one, he]; rfl
    rw [show (L.take (k + 1)).foldl tblS (List.range n) = tblS ((L.take k).foldl tblS (List.range n)) (a, b) by rw [hs, List.foldl_append]; rfl, ← ih]
    unfold tblS
    have hg : ∀ y, y < n → ((List.range n).map (lab (L.take k))).getD y 0 = lab (L.take k) y := fun y hy => by simp [List.getD_eq_getElem?_getD, hy]
    rw [hg a ha, hg b hb, List.map_map]
    refine List.map_congr_left fun x hx => ?_
    have hx : x < n := by simpa using hx
    rw [lab_step ho he hx]; rfl
theorem lab_tbl (ho : Ok n L) (hx : x < n) : lab L x = (tblP n L).getD x 0 := by
  have := tbl_step ho L.length (Nat.le_refl _)
  rw [List.take_length] at this
  unfold tblP
  rw [← this]
  simp [List.getD_eq_getElem?_getD, hx]
def okB (n : Nat) (L : List (Nat × Nat)) : Bool := L.all fun e => decide (e.1 < n) && decide (e.2 < n) && decide (e.1 ≠ e.2)
theorem ok_of (h : okB n L = true) : Ok n L := fun e he => by
  unfold okB at h
  rw [List.all_eq_true] at h
  have := h e he
  simp only [Bool.and_eq_true, decide_eq_true_eq] at this
  exact ⟨this.1.1, this.1.2, this.2⟩
/-- Whether these are the distances. -/
def farB (n : Nat) (L : List (Nat × Nat)) (b : Nat) (f : List Int) : Bool :=
  decide (f.length = n) && decide (f.getD b (-1) = 0) && ((List.range n).all fun x => decide (-1 ≤ f.getD x (-1)) && (decide (f.getD x (-1) ≠ 0) || decide (x = b)) &&
    (decide (f.getD x (-1) ≤ 0) || (List.range n).any fun y => (L.contains (x, y) || L.contains (y, x)) && decide (f.getD y (-1) = f.getD x (-1) - 1))) &&
  L.all fun e => (decide (f.getD e.1 (-1) < 0) || (decide (0 ≤ f.getD e.2 (-1)) && decide (f.getD e.2 (-1) ≤ f.getD e.1 (-1) + 1))) && (decide (f.getD e.2 (-1) < 0) || (decide (0 ≤ f.getD e.1 (-1)) && decide (f.getD e.1 (-1) ≤ f.getD e.2 (-1) + 1)))
theorem far_of (ho : Ok n L) {f : List Int} (h : farB n L b f = true) : dist L b = fun x => f.getD x (-1) := by
  simp only [farB, Bool.and_eq_true, decide_eq_true_eq, List.all_eq_true, List.mem_range, Bool.or_eq_true, List.any_eq_true, List.contains_iff_mem] at h
  obtain ⟨⟨⟨h1, h2⟩, h3⟩, h4⟩ := h
  have hF : IsFar n L b (fun x => f.getD x (-1)) := by
    refine ⟨fun x hx => (h3 x hx).1.1, h2, fun x hx e => (h3 x hx).1.2.resolve_left fun k => k e, fun x y a k => ?_, fun x hx k => ?_⟩
    · rcases a with a | a
      · have := (h4 _ a).1; simp only at this k ⊢; omega
      · have := (h4 _ a).2; simp only at this k ⊢; omega
    · obtain ⟨y, hy, ha, hd⟩ := (h3 x hx).2.resolve_left (by omega)
      exact ⟨y, ha, hd⟩
  funext x
  by_cases hx : x < n
  · exact (hF.is ho hx).symm
  · have : f.getD x (-1) = -1 := by rw [List.getD_eq_getElem?_getD, List.getElem?_eq_none (by omega)]; rfl
    rw [this]
    have hb : x ≠ b := fun e => by subst e; rw [this] at h2; omega
    refine Classical.byContradiction fun hne => ?_
    have := dist_neg L b x
    have hd : 0 ≤ dist L b x := by omega
    obtain ⟨d, w⟩ := dist_con.1 hd
    cases w with
    | nil => exact hb rfl
    | cons a _ => exact hx (ho.adj a).1
def E0 : List (Nat × Nat) := [(0, 1), (1, 2), (0, 2), (2, 3)]
theorem ok0 : Ok 4 E0 := ok_of (by decide)
theorem inF0 : inF E0 0 = true ∧ inF E0 1 = true ∧ inF E0 2 = false ∧ inF E0 3 = true := by
  have key : ∀ k a b, E0[k]? = some (a, b) → inF E0 k = ((tblP 4 (E0.take k)).getD a 0 != (tblP 4 (E0.take k)).getD b 0) := fun k a b h => by
    rw [inF_eq h, lab_tbl (ok0.take k) (ok0.get h).1, lab_tbl (ok0.take k) (ok0.get h).2.1]
  exact ⟨by rw [key 0 0 1 rfl]; rfl, by rw [key 1 1 2 rfl]; rfl, by rw [key 2 0 2 rfl]; rfl, by rw [key 3 2 3 rfl]; rfl⟩
theorem forest0 : forestP E0 = [0, 1, 3] := by
  obtain ⟨h0, h1, h2, h3⟩ := inF0
  show (List.range 4).filter (inF E0) = _
  simp only [show List.range 4 = [0, 1, 2, 3] from rfl, List.filter_cons, List.filter_nil, h0, h1, h2, h3, if_true, Bool.false_eq_true, if_false]
theorem cycles0 : cyclesP E0 = [[2, 1, 0]] := by
  obtain ⟨h0, h1, h2, h3⟩ := inF0
  have hr : restP E0 = [2] := by
    show (List.range 4).filter (fun k => !inF E0 k) = _
    simp only [show List.range 4 = [0, 1, 2, 3] from rfl, List.filter_cons, List.filter_nil, h0, h1, h2, h3, Bool.not_true, Bool.not_false, if_true, Bool.false_eq_true, if_false]
  have hd : dist (sub E0 [0, 1, 3]) 0 = fun x => [0, 1, 2, 3].getD x (-1) := far_of (ok0.sub _) (by decide)
  unfold cyclesP
  rw [hr, List.map_cons, List.map_nil]
  unfold cycleP
  rw [forest0]
  show [2 :: wayP (dist (sub E0 [0, 1, 3]) 0) E0 [0, 1, 3] (dist (sub E0 [0, 1, 3]) 0 2).toNat 2] = _
  rw [hd]
  rfl
theorem bridges0 : bridgesP E0 = [3] := by
  have key : ∀ k a b, E0[k]? = some (a, b) → bridgeP E0 k = ((tblP 4 (E0.eraseIdx k)).getD a 0 != (tblP 4 (E0.eraseIdx k)).getD b 0) := fun k a b h => by
    unfold bridgeP
    rw [h]
    simp only
    rw [lab_tbl (ok0.erase k) (ok0.get h).1, lab_tbl (ok0.erase k) (ok0.get h).2.1]
  have h0 : bridgeP E0 0 = false := by rw [key 0 0 1 rfl]; rfl
  have h1 : bridgeP E0 1 = false := by rw [key 1 1 2 rfl]; rfl
  have h2 : bridgeP E0 2 = false := by rw [key 2 0 2 rfl]; rfl
  have h3 : bridgeP E0 3 = true := by rw [key 3 2 3 rfl]; rfl
  show (List.range 4).filter (bridgeP E0) = _
  simp only [show List.range 4 = [0, 1, 2, 3] from rfl, List.filter_cons, List.filter_nil, h0, h1, h2, h3, if_true, Bool.false_eq_true, if_false]
theorem dist0 : dist E0 3 = fun x => [2, 2, 1, 0].getD x (-1) := far_of ok0 (by decide)
end Go.Proofs.Ytalhegbjlfkipaa.Gr
end
