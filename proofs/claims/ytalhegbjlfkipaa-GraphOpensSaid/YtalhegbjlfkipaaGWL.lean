import Derived.Test.YtalhegbjlfkipaaGWK
set_option linter.all false
namespace Go.Proofs.Ytalhegbjlfkipaa.T
open Go Go.RowKit Gr
set_option linter.unusedSimpArgs false

/-! A slice of slices, each of them in a block of its own. -/
def ownC (m : Nat) (PS : List (List Nat)) (gs : List Nat) : List D := (List.range PS.length).map fun k => .own 1 (k + m) (gs.getD k 0) 0 (PS.getD k []).length
def ownT (PS : List (List Nat)) (gs : List Nat) : Hp := (List.range PS.length).map fun k => some ⟨3, gs.getD k 0, nD (PS.getD k [])⟩
theorem ownC_len (m : Nat) (PS : List (List Nat)) (gs : List Nat) : (ownC m PS gs).length = PS.length := by simp [ownC]
theorem ownT_len (PS : List (List Nat)) (gs : List Nat) : (ownT PS gs).length = PS.length := by simp [ownT]
theorem ownC_get {m : Nat} {PS : List (List Nat)} {gs : List Nat} {k : Nat} (h : k < PS.length) : (ownC m PS gs)[k]? = some (.own 1 (k + m) (gs.getD k 0) 0 (PS.getD k []).length) := by simp [ownC, h]
theorem ownT_get {PS : List (List Nat)} {gs : List Nat} {k : Nat} (h : k < PS.length) : (ownT PS gs)[k]? = some (some ⟨3, gs.getD k 0, nD (PS.getD k [])⟩) := by simp [ownT, h]
theorem getD_setL {α : Type} (l : List α) (i : Nat) (v d : α) (x : Nat) (hi : i < l.length) : (l.set i v).getD x d = if x = i then v else l.getD x d := by
  simp only [List.getD_eq_getElem?_getD, List.getElem?_set]
  by_cases h : x = i
  · subst h; simp [hi]
  · rw [if_neg (fun e => h e.symm), if_neg h]
theorem ownC_set {m : Nat} {PS : List (List Nat)} {gs : List Nat} {k : Nat} (h : k < PS.length) (hg : gs.length = PS.length) (L : List Nat) (g : Nat) : (ownC m PS gs).set k (.own 1 (k + m) g 0 L.length) = ownC m (PS.set k L) (gs.set k g) := by
  refine List.ext_getElem? fun j => ?_
  by_cases hj : j < PS.length
  · rw [ownC_get (by simpa using hj), getD_setL _ _ _ _ _ (by omega), getD_setL _ _ _ _ _ h, List.getElem?_set, ownC_len, ownC_get hj]
    by_cases e : k = j
    · subst e; simp [h]
    · rw [if_neg e, if_neg (fun e' => e e'.symm), if_neg (fun e' => e e'.symm)]
  · rw [List.getElem?_eq_none (by rw [List.length_set, ownC_len]; omega), List.getElem?_eq_none (by rw [ownC_len, List.length_set]; omega)]
theorem ownT_set {PS : List (List Nat)} {gs : List Nat} {k : Nat} (h : k < PS.length) (hg : gs.length = PS.length) (L : List Nat) (g : Nat) : (ownT PS gs).set k (some ⟨3, g, nD L⟩) = ownT (PS.set k L) (gs.set k g) := by
  refine List.ext_getElem? fun j => ?_
  by_cases hj : j < PS.length
  · rw [ownT_get (by simpa using hj), getD_setL _ _ _ _ _ (by omega), getD_setL _ _ _ _ _ h, List.getElem?_set, ownT_len, ownT_get hj]
    by_cases e : k = j
    · subst e; simp [h]
    · rw [if_neg e, if_neg (fun e' => e e'.symm), if_neg (fun e' => e e'.symm)]
  · rw [List.getElem?_eq_none (by rw [List.length_set, ownT_len]; omega), List.getElem?_eq_none (by rw [ownT_len, List.length_set]; omega)]
theorem getD_app {α : Type} (l : List α) (v d : α) (x : Nat) : (l ++ [v]).getD x d = if x = l.length then v else l.getD x d := by
  simp only [List.getD_eq_getElem?_getD]
  by_cases h : x = l.length
  · subst h; simp
  · rw [if_neg h]
    by_cases h2 : x < l.length
    · rw [List.getElem?_append_left h2]
    · rw [List.getElem?_eq_none (by simp; omega), List.getElem?_eq_none (by omega)]
theorem ownC_push (m : Nat) (PS : List (List Nat)) (gs : List Nat) (hg : gs.length = PS.length) (L : List Nat) (g : Nat) : ownC m PS gs ++ [.own 1 (PS.length + m) g 0 L.length] = ownC m (PS ++ [L]) (gs ++ [g]) := by
  unfold ownC
  rw [List.length_append, List.length_cons, List.length_nil, List.range_succ, List.map_append, List.map_cons, List.map_nil]
  congr 1
  · refine List.map_congr_left fun k hk => ?_
    have hk : k < PS.length := by simpa using hk
    rw [getD_app, getD_app, if_neg (by omega), if_neg (by omega)]
  · rw [getD_app, getD_app, if_pos hg.symm, if_pos (by omega)]
theorem ownT_push (PS : List (List Nat)) (gs : List Nat) (hg : gs.length = PS.length) (L : List Nat) (g : Nat) : ownT PS gs ++ [some ⟨3, g, nD L⟩] = ownT (PS ++ [L]) (gs ++ [g]) := by
  unfold ownT
  rw [List.length_append, List.length_cons, List.length_nil, List.range_succ, List.map_append, List.map_cons, List.map_nil]
  congr 1
  · refine List.map_congr_left fun k hk => ?_
    have hk : k < PS.length := by simpa using hk
    rw [getD_app, getD_app, if_neg (by omega), if_neg (by omega)]
  · rw [getD_app, getD_app, if_pos hg.symm, if_pos (by omega)]
theorem AW.begin_rows {P : Program} {N : Nat} {c : Code} {Q : Exit → St → Prop} {tm : TM} {H : Hp} {b g0 : Nat} {ty0 : TypeId} (hb : b < H.length) : ∀ (r j : Nat) (gs : List Nat) (t : Nat), gs.length = j →
    (∀ gs' : List Nat, gs'.length = j + r → AW P N c Q ⟨tm, H.set b (some ⟨ty0, g0, ownC H.length (List.replicate (j + r) []) gs'⟩) ++ ownT (List.replicate (j + r) []) gs', t + r⟩) →
    AW P N c Q ⟨tm, H.set b (some ⟨ty0, g0, ownC H.length (List.replicate j []) gs ++ List.replicate r (.sl 1 [] true)⟩) ++ ownT (List.replicate j []) gs, t⟩
  | 0, j, gs, t, hg, h => by
    have := h gs hg
    simpa using this
  | r + 1, j, gs, t, hg, h => by
    have hlC : (ownC H.length (List.replicate j []) gs).length = j := by simp [ownC_len]
    have hlT : (ownT (List.replicate j []) gs).length = j := by simp [ownT_len]
    refine AW.begin_cell b j 1 3 (bl := ⟨ty0, g0, ownC H.length (List.replicate j []) gs ++ List.replicate (r + 1) (.sl 1 [] true)⟩) (sz0 := 1) ?_ ?_ (by decide) ?_
    · rw [List.getElem?_append_left (by simpa using hb), List.getElem?_set_self hb]
    · rw [List.getElem?_append_right (by omega), hlC, Nat.sub_self]; rfl
    · have e1 : (H.set b (some ⟨ty0, g0, ownC H.length (List.replicate j []) gs ++ List.replicate (r + 1) (.sl 1 [] true)⟩) ++ ownT (List.replicate j []) gs).length = j + H.length := by
        simp [ownT_len, Nat.add_comm]
      have hp1 := ownC_push H.length (List.replicate j []) gs (by simpa using hg) [] (t + 1)
      have hp2 := ownT_push (List.replicate j []) gs (by simpa using hg) [] (t + 1)
      rw [← List.replicate_succ', List.length_replicate] at hp1
      rw [← List.replicate_succ'] at hp2
      have e2 : (ownC H.length (List.replicate j []) gs ++ List.replicate (r + 1) (D.sl 1 [] true)).set j (.own 1 (j + H.length) (t + 1) 0 0) = ownC H.length (List.replicate (j + 1) []) (gs ++ [t + 1]) ++ List.replicate r (D.sl 1 [] true) := by
        rw [List.set_append_right _ _ (by omega), hlC, Nat.sub_self, List.replicate_succ, List.set_cons_zero, ← hp1]
        simp
      simp only [e1, e2]
      rw [List.set_append_left _ _ (by simpa using hb), List.set_set, List.append_assoc]
      have e3 : ownT (List.replicate j []) gs ++ [some ⟨3, t + 1, []⟩] = ownT (List.replicate (j + 1) []) (gs ++ [t + 1]) := hp2
      rw [e3]
      refine AW.begin_rows hb r (j + 1) (gs ++ [t + 1]) (t + 1) (by simp [hg]) fun gs' hg' => ?_
      have := h gs' (by omega)
      have e4 : j + (r + 1) = j + 1 + r := by omega
      have e5 : t + (r + 1) = t + 1 + r := by omega
      rw [e4, e5] at this
      exact this
/-- They are read. -/
theorem rsv_rows {H : Hp} {b g m n : Nat} {ty : TypeId} {PS : List (List Nat)} {gs : List Nat} (hb : H[b]? = some (some ⟨ty, g, ownC m PS gs⟩)) (hn : n = PS.length) (hT : ∀ k, k < PS.length → H[k + m]? = some (some ⟨3, gs.getD k 0, nD (PS.getD k [])⟩)) :
    ∀ k : Nat, rsv H (k + 3) (.own 1 b g 0 n) = mat (PS.map nl) := fun q => by
  subst hn
  have key : (ownC m PS gs).map (rsv H (q + 2)) = (PS.map nl).map ints := by
    unfold ownC
    rw [List.map_map, List.map_map]
    refine List.ext_getElem? fun k => ?_
    by_cases hk : k < PS.length
    · simp only [List.getElem?_map, List.getElem?_range hk, Option.map_some, Function.comp_apply]
      have := rsv_ints (hT k hk) (nl_len (PS.getD k [])).symm q
      rw [this]
      simp [List.getD_eq_getElem?_getD, hk]
    · rw [List.getElem?_eq_none (by simpa using hk), List.getElem?_eq_none (by simpa using hk)]
  rw [show rsv H (q + 3) (.own 1 b g 0 PS.length) = rs (rsv H (q + 2)) H (.own 1 b g 0 PS.length) from rfl]
  simp only [rs, hb]
  rw [if_pos (by simp [ownC_len]), List.drop_zero, Nat.mul_one, List.take_of_length_le (by rw [ownC_len]; exact Nat.le_refl _), key]
end Go.Proofs.Ytalhegbjlfkipaa.T
