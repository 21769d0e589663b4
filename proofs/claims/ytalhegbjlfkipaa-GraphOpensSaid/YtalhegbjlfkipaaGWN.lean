import Derived.Test.YtalhegbjlfkipaaGWL
import Derived.Test.YtalhegbjlfkipaaGWC
set_option linter.all false
namespace Go.Proofs.Ytalhegbjlfkipaa.T
open Go Go.RowKit Gr
set_option linter.unusedSimpArgs false

/-! Graphs: Parts, Forest, Count of the program. -/
theorem fz_nD (b g : Nat) (cs : List D) (l : List Nat) : fzL b g cs (nD l) = nD l := fzL_ints b g cs _
theorem idsP_in (E : List (Nat × Nat)) (w : Bool) (k m : Nat) (h : k ≤ m) : idsP (inFl E m) w k = (List.range k).filter fun i => inF E i == w := by
  unfold idsP
  refine List.filter_congr fun i hi => ?_
  have : i < m := by simp at hi; omega
  simp [inFl, this]
theorem ids_true (E : List (Nat × Nat)) : idsP (inFl E E.length) true E.length = forestP E := by
  rw [idsP_in E true _ _ (Nat.le_refl _)]
  exact List.filter_congr fun i _ => by simp
theorem ids_false (E : List (Nat × Nat)) : idsP (inFl E E.length) false E.length = restP E := by
  rw [idsP_in E false _ _ (Nat.le_refl _)]
  exact List.filter_congr fun i _ => by simp
/-- What a graph is, when it is valid. -/
theorem valid_nat {n : Int} {l : List (Int × Int)} (h : validG n l = true) : ∃ (m : Nat) (E : List (Nat × Nat)), n = m ∧ l = edN E ∧ Ok m E ∧ m ≤ 1000 ∧ E.length ≤ 4000 := by
  simp only [validG, Bool.and_eq_true, decide_eq_true_eq, Bool.not_eq_true'] at h
  obtain ⟨⟨⟨h1, h2⟩, h3⟩, h4⟩ := h
  have h4 : ∀ x ∈ l, badE n x = false := fun x hx => by
    rw [List.any_eq_false] at h4
    simpa using h4 x hx
  have h5 : ∀ x ∈ l, 0 ≤ x.1 ∧ x.1 < n ∧ 0 ≤ x.2 ∧ x.2 < n ∧ x.1 ≠ x.2 := fun x hx => by
    have := h4 x hx
    obtain ⟨a, b⟩ := x
    rw [badE_of] at this
    simp only [Bool.or_eq_false_iff, decide_eq_false_iff_not, beq_eq_false_iff_ne] at this
    obtain ⟨⟨⟨⟨e1, e2⟩, e3⟩, e4⟩, e5⟩ := this
    exact ⟨by omega, by omega, by omega, by omega, e5⟩
  refine ⟨n.toNat, l.map fun x => (x.1.toNat, x.2.toNat), by omega, ?_, fun e he => ?_, by omega, by simpa using h3⟩
  · unfold edN
    rw [List.map_map]
    symm
    refine (List.map_congr_left fun x hx => ?_).trans (List.map_id _)
    have := h5 x hx
    simp only [Function.comp_apply, id_eq]
    rw [Int.toNat_of_nonneg this.1, Int.toNat_of_nonneg this.2.2.1]
  · obtain ⟨x, hx, rfl⟩ := List.mem_map.1 he
    have := h5 x hx
    simp only
    omega
set_option maxHeartbeats 1000000 in
theorem forestG (n : Nat) (E : List (Nat × Nat)) (ho : Ok n E) (hv : validG n (edN E) = true) (hn : n ≤ 1000) (hE : E.length ≤ 4000) :
    PRet Try.prog 18 [int n, eds (edN E)] (.tup [ints (nl (forestP E)), int 0]) := by
  refine PRet.intro 2 fun t => ACall.enter tab_ok Try.func18 rfl rfl Try.ntmps18 (by simp) ?_
  simp only [enterTM]
  have hV := valid n (edN E) (by rw [edN_len]; omega)
  rw [hv] at hV
  have hI := indicesB (inFl E E.length) true (by rw [inFl_len]; omega)
  rw [inFl_len, ids_true] at hI
  ((refine wqa ?_))
  ((repeat refine AW_seq ?_); (refine AW_region_k tab_ok fun KR hKR => ?_)); ((refine wra ?_))
  ((refine wka1 hV ?_))
  ((refine wra ?_)); ((refine wea ?_); (try clear hKR KR))
  ((refine wia ?_))
  ((refine wsa ?_))
  ((repeat refine AW_seq ?_); (refine AW_region_k tab_ok fun KR hKR => ?_)); ((refine wra ?_))
  ((try with_reducible intro KR hKR); (first | refine awOps_nc fun KK hKK => ?_ | refine awOps_gc rfl fun KK hKK => ?_); simp (disch := omega) only [bb, bt, zDs, zD, eqCells, simprocAttr, goC, callO_fn, argsD, and_self])
  refine (forest_call n E ho hn hE _).mono ?_
  rintro d H' t' ⟨s, g0, g1, hl, hu, hr, rfl, rfl, ht⟩
  (simp (disch := omega) only [bb, bt, zDs, zD, eqCells, simprocAttr, afterC]; refine hKK _ ?_; clear hKK KK)
  ((refine wra ?_))
  ((refine wea ?_); (try clear hKR KR))
  have hbl : (bD (inFl E E.length)).length = E.length := by rw [bD_len, inFl_len]
  have hfin : List.take E.length (bD (inFl E E.length)) = (inFl E E.length).map bool := List.take_of_length_le (by rw [hbl]; exact Nat.le_refl _)
  ((repeat refine AW_seq ?_))
  ((refine AW.freeze (1) (by first | rfl | (simp only [setH, List.getElem?_cons_zero, List.getElem?_cons_succ, fz_nD, fz_ed, hbl, hfin, Nat.le_refl]; done)) ?_); simp (disch := omega) only [fzT, fz, fzL, fzL_ints, fzL_mat, fzH, fzB, eq_self, bb, bt, zDs, zD, eqCells, simprocAttr, fz_nD, fz_ed, hbl, hfin, Nat.le_refl])
  ((refine gga1 hI ?_))
  ((repeat refine AW_seq ?_); (refine wta ?_); simp (disch := omega) only [retQ, resD, oneD, bb, bt, zDs, zD, eqCells, simprocAttr, Try.results18])
  exact rsv_tidy _ _ (by simp only [tidyD, tidyL, Bool.not_false, Bool.true_and, Bool.and_true, tidy_ints])
theorem forestG_arg (n : Int) (l : List (Int × Int)) (hv : validG n l = false) (hl : l.length ≤ 1000000) :
    PRet Try.prog 18 [int n, eds l] (.tup [ints [], int 1]) := by
  refine PRet.intro 2 fun t => ACall.enter tab_ok Try.func18 rfl rfl Try.ntmps18 (by simp) ?_
  simp only [enterTM]
  have hV := valid n l hl
  rw [hv] at hV
  ((refine gga1 hV ?_))
  ((repeat refine AW_seq ?_); (refine wta ?_); simp (disch := omega) only [retQ, resD, oneD, bb, bt, zDs, zD, eqCells, simprocAttr, Try.results18])
  rfl
theorem countG_arg (n : Int) (l : List (Int × Int)) (hv : validG n l = false) (hl : l.length ≤ 1000000) :
    PRet Try.prog 28 [int n, eds l] (.tup [int 0, int 1]) := by
  refine PRet.intro 2 fun t => ACall.enter tab_ok Try.func28 rfl rfl Try.ntmps28 (by simp) ?_
  simp only [enterTM]
  have hV := valid n l hl
  rw [hv] at hV
  ((refine gga1 hV ?_))
  ((repeat refine AW_seq ?_); (refine wta ?_); simp (disch := omega) only [retQ, resD, oneD, bb, bt, zDs, zD, eqCells, simprocAttr, Try.results28])
  rfl
theorem partsG_arg (n : Int) (l : List (Int × Int)) (hv : validG n l = false) (hl : l.length ≤ 1000000) :
    PRet Try.prog 17 [int n, eds l] (.tup [mat [], int 1]) := by
  refine PRet.intro 2 fun t => ACall.enter tab_ok Try.func17 rfl rfl Try.ntmps17 (by simp) ?_
  simp only [enterTM]
  have hV := valid n l hl
  rw [hv] at hV
  ((refine gga1 hV ?_))
  ((repeat refine AW_seq ?_); (refine wta ?_); simp (disch := omega) only [retQ, resD, oneD, bb, bt, zDs, zD, eqCells, simprocAttr, Try.results17])
  rfl
theorem cyclesG_arg (n : Int) (l : List (Int × Int)) (hv : validG n l = false) (hl : l.length ≤ 1000000) :
    PRet Try.prog 27 [int n, eds l] (.tup [mat [], int 1]) := by
  refine PRet.intro 2 fun t => ACall.enter tab_ok Try.func27 rfl rfl Try.ntmps27 (by simp) ?_
  simp only [enterTM]
  have hV := valid n l hl
  rw [hv] at hV
  ((refine gga1 hV ?_))
  ((repeat refine AW_seq ?_); (refine wta ?_); simp (disch := omega) only [retQ, resD, oneD, bb, bt, zDs, zD, eqCells, simprocAttr, Try.results27])
  rfl
theorem bridgesG_arg (n : Int) (l : List (Int × Int)) (hv : validG n l = false) (hl : l.length ≤ 1000000) :
    PRet Try.prog 11 [int n, eds l] (.tup [ints [], int 1]) := by
  refine PRet.intro 2 fun t => ACall.enter tab_ok Try.func11 rfl rfl Try.ntmps11 (by simp) ?_
  simp only [enterTM]
  have hV := valid n l hl
  rw [hv] at hV
  ((refine gga1 hV ?_))
  ((repeat refine AW_seq ?_); (refine wta ?_); simp (disch := omega) only [retQ, resD, oneD, bb, bt, zDs, zD, eqCells, simprocAttr, Try.results11])
  rfl
theorem countG (n : Nat) (E : List (Nat × Nat)) (ho : Ok n E) (hv : validG n (edN E) = true) (hn : n ≤ 1000) (hE : E.length ≤ 4000) :
    PRet Try.prog 28 [int n, eds (edN E)] (.tup [int (restP E).length, int 0]) := by
  refine PRet.intro 2 fun t => ACall.enter tab_ok Try.func28 rfl rfl Try.ntmps28 (by simp) ?_
  simp only [enterTM]
  have hV := valid n (edN E) (by rw [edN_len]; omega)
  rw [hv] at hV
  have hI := indicesB (inFl E E.length) false (by rw [inFl_len]; omega)
  rw [inFl_len, ids_false] at hI
  have hrl := nl_len (restP E)
  ((refine wqa ?_))
  ((repeat refine AW_seq ?_); (refine AW_region_k tab_ok fun KR hKR => ?_)); ((refine wra ?_))
  ((refine wka1 hV ?_))
  ((refine wra ?_)); ((refine wea ?_); (try clear hKR KR))
  ((refine wia ?_))
  ((refine wsa ?_))
  ((repeat refine AW_seq ?_); (refine AW_region_k tab_ok fun KR hKR => ?_)); ((refine wra ?_))
  ((try with_reducible intro KR hKR); (first | refine awOps_nc fun KK hKK => ?_ | refine awOps_gc rfl fun KK hKK => ?_); simp (disch := omega) only [bb, bt, zDs, zD, eqCells, simprocAttr, goC, callO_fn, argsD, and_self])
  refine (forest_call n E ho hn hE _).mono ?_
  rintro d H' t' ⟨s, g0, g1, hl, hu, hr, rfl, rfl, ht⟩
  (simp (disch := omega) only [bb, bt, zDs, zD, eqCells, simprocAttr, afterC]; refine hKK _ ?_; clear hKK KK)
  ((refine wra ?_))
  ((refine wea ?_); (try clear hKR KR))
  have hbl : (bD (inFl E E.length)).length = E.length := by rw [bD_len, inFl_len]
  have hfin : List.take E.length (bD (inFl E E.length)) = (inFl E E.length).map bool := List.take_of_length_le (by rw [hbl]; exact Nat.le_refl _)
  ((repeat refine AW_seq ?_))
  ((refine AW.freeze (1) (by first | rfl | (simp only [setH, List.getElem?_cons_zero, List.getElem?_cons_succ, fz_nD, fz_ed, hbl, hfin, Nat.le_refl]; done)) ?_); simp (disch := omega) only [fzT, fz, fzL, fzL_ints, fzL_mat, fzH, fzB, eq_self, bb, bt, zDs, zD, eqCells, simprocAttr, fz_nD, fz_ed, hbl, hfin, Nat.le_refl])
  ((refine ggb1 hrl hI ?_))
  ((repeat refine AW_seq ?_); (refine wta ?_); simp (disch := omega) only [retQ, resD, oneD, bb, bt, zDs, zD, eqCells, simprocAttr, Try.results28])
  rfl

/-! The map of a part's first node to its place. -/
def mpC : List Nat → Nat → List D
  | [], _ => []
  | r :: R, j => int r :: int j :: mpC R (j + 1)
theorem mfind_no : ∀ (R : List Nat) (j r : Nat), r ∉ R → mfind (.int .i64 r) (mpC R j) = some none
  | [], j, r, _ => rfl
  | q :: R, j, r, h => by
    have h1 : r ≠ q := fun e => h (by simp [e])
    have h2 : ((r : Int) == (q : Int)) = false := by rw [beqN]; simpa using h1
    have := mfind_no R (j + 1) r fun k => h (by simp [k])
    simp only [mpC, mfind, keyEq, h2, if_true]
    exact this
theorem mfind_yes : ∀ (R : List Nat) (j k r : Nat), R.Nodup → R[k]? = some r → mfind (.int .i64 r) (mpC R j) = some (some (.int .i64 ((j + k : Nat) : Int)))
  | [], j, k, r, _, h => by simp at h
  | q :: R, j, 0, r, _, h => by
    simp at h; subst h
    have h2 : ((q : Int) == (q : Int)) = true := by simp
    simp only [mpC, mfind, keyEq, h2, if_true, Nat.add_zero]
  | q :: R, j, k + 1, r, hn, h => by
    rw [List.nodup_cons] at hn
    have h' : R[k]? = some r := by simpa using h
    have h1 : r ≠ q := fun e => hn.1 (e ▸ List.mem_of_getElem? h')
    have h2 : ((r : Int) == (q : Int)) = false := by rw [beqN]; simpa using h1
    have := mfind_yes R (j + 1) k r hn.2 h'
    simp only [mpC, mfind, keyEq, h2, if_true]
    rw [this]
    have e : j + 1 + k = j + (k + 1) := by omega
    rw [e]
theorem mput_no : ∀ (R : List Nat) (j r : Nat), r ∉ R → mput (.int .i64 r) (.int .i64 ((j + R.length : Nat) : Int)) (mpC R j) = mpC (R ++ [r]) j
  | [], j, r, _ => rfl
  | q :: R, j, r, h => by
    have h1 : r ≠ q := fun e => h (by simp [e])
    have h2 : ((r : Int) == (q : Int)) = false := by rw [beqN]; simpa using h1
    have := mput_no R (j + 1) r fun k => h (by simp [k])
    have e : j + 1 + R.length = j + (R.length + 1) := by omega
    rw [e] at this
    simp only [mpC, mput, keyEq, h2, if_true, List.length_cons, List.cons_append, Option.some.injEq, Bool.false_eq_true, if_false]
    rw [this]
/-! The parts of the first nodes. -/
noncomputable def rtsP (E : List (Nat × Nat)) (i : Nat) : List Nat := (List.range i).filter fun x => lab E x == x
noncomputable def psP (E : List (Nat × Nat)) (i : Nat) : List (List Nat) := (rtsP E i).map fun r => (List.range i).filter fun y => lab E y == r
theorem rtsP_lt {E : List (Nat × Nat)} {i r : Nat} (h : r ∈ rtsP E i) : r < i ∧ lab E r = r := by
  unfold rtsP at h; simpa using h
theorem ps_new {E : List (Nat × Nat)} {i : Nat} (h : lab E i = i) : rtsP E (i + 1) = rtsP E i ++ [i] ∧ psP E (i + 1) = psP E i ++ [[i]] := by
  have h1 : rtsP E (i + 1) = rtsP E i ++ [i] := by unfold rtsP; rw [filt_step, if_pos (by simpa using h)]
  refine ⟨h1, ?_⟩
  unfold psP
  rw [h1, List.map_append, List.map_cons, List.map_nil]
  congr 1
  · refine List.map_congr_left fun r hr => ?_
    have := rtsP_lt hr
    rw [filt_step, if_neg (by simp; omega)]
  · have hz : (List.range i).filter (fun y => lab E y == i) = [] := List.filter_eq_nil_iff.2 fun y hy => by
      have := lab_self E y
      simp only [List.mem_range] at hy
      simp only [beq_iff_eq]; omega
    rw [filt_step, if_pos (by simpa using h), hz]; rfl
theorem ps_old {E : List (Nat × Nat)} {i : Nat} (h : lab E i ≠ i) : rtsP E (i + 1) = rtsP E i ∧ ∃ j, (rtsP E i)[j]? = some (lab E i) ∧ j < (psP E i).length ∧ psP E (i + 1) = (psP E i).set j ((psP E i).getD j [] ++ [i]) := by
  have h1 : rtsP E (i + 1) = rtsP E i := by unfold rtsP; rw [filt_step, if_neg (by simpa using h)]
  have hlt : lab E i < i := by have := lab_self E i; omega
  have hm : lab E i ∈ rtsP E i := by unfold rtsP; simp [hlt, lab_lab]
  obtain ⟨j, hj⟩ := List.getElem?_of_mem hm
  have hjl := (List.getElem?_eq_some_iff.1 hj).1
  have hnd : (rtsP E i).Nodup := List.nodup_range.filter _
  refine ⟨h1, j, hj, by simpa [psP] using hjl, ?_⟩
  refine List.ext_getElem? fun k => ?_
  rw [List.getElem?_set]
  unfold psP
  rw [h1]
  by_cases hk : k < (rtsP E i).length
  · obtain ⟨r, hr⟩ : ∃ r, (rtsP E i)[k]? = some r := ⟨_, List.getElem?_eq_getElem hk⟩
    simp only [List.getElem?_map, hr, Option.map_some, List.length_map, List.getD_eq_getElem?_getD]
    by_cases e : j = k
    · subst e
      rw [hj] at hr; cases hr
      rw [if_pos rfl, if_pos hk, filt_step, if_pos (by simp)]
      simp [hj]
    · rw [if_neg e, filt_step, if_neg (by
        simp only [beq_iff_eq]
        intro e2
        rw [← e2] at hr
        exact e ((List.getElem?_inj hjl hnd).1 (hj.trans hr.symm)))]
  · rw [List.getElem?_eq_none (by simpa using hk)]
    have : j ≠ k := fun e => hk (e ▸ hjl)
    rw [if_neg this, List.getElem?_eq_none (by simpa using hk)]
theorem psP_len (E : List (Nat × Nat)) (i : Nat) : (psP E i).length = (rtsP E i).length := by simp [psP]
theorem rtsP_len (E : List (Nat × Nat)) (i : Nat) : (rtsP E i).length ≤ i := filt_len _ i
theorem part_len (E : List (Nat × Nat)) (i j : Nat) : ((psP E i).getD j []).length ≤ i := by
  unfold psP
  simp only [List.getD_eq_getElem?_getD, List.getElem?_map]
  cases (rtsP E i)[j]? with
  | none => simp
  | some r => simp only [Option.map_some, Option.getD_some]; exact filt_len _ i
theorem psP_end (n : Nat) (E : List (Nat × Nat)) : psP E n = partsP n E := rfl
set_option maxHeartbeats 2000000 in
theorem partsG (n : Nat) (E : List (Nat × Nat)) (ho : Ok n E) (hv : validG n (edN E) = true) (hn : n ≤ 1000) (hE : E.length ≤ 4000) :
    PRet Try.prog 17 [int n, eds (edN E)] (.tup [mat ((partsP n E).map nl), int 0]) := by
  refine PRet.intro 4 fun t => ACall.enter tab_ok Try.func17 rfl rfl Try.ntmps17 (by simp) ?_
  simp only [enterTM]
  have hV := valid n (edN E) (by rw [edN_len]; omega)
  rw [hv] at hV
  ((refine wqa ?_))
  ((repeat refine AW_seq ?_); (refine AW_region_k tab_ok fun KR hKR => ?_)); ((refine wra ?_))
  ((refine wka1 hV ?_))
  ((refine wra ?_)); ((refine wea ?_); (try clear hKR KR))
  ((refine wia ?_))
  ((refine wsa ?_))
  ((repeat refine AW_seq ?_); (refine AW_region_k tab_ok fun KR hKR => ?_)); ((refine wra ?_))
  ((try with_reducible intro KR hKR); (first | refine awOps_nc fun KK hKK => ?_ | refine awOps_gc rfl fun KK hKK => ?_); simp (disch := omega) only [bb, bt, zDs, zD, eqCells, simprocAttr, goC, callO_fn, argsD, and_self])
  refine (forest_call n E ho hn hE _).mono ?_
  rintro d H' t' ⟨s, g0, g1, hl, hu, hr, rfl, rfl, ht⟩
  (simp (disch := omega) only [bb, bt, zDs, zD, eqCells, simprocAttr, afterC]; refine hKK _ ?_; clear hKK KK)
  ((refine wra ?_))
  ((refine wea ?_); (try clear hKR KR))
  ((refine wqa ?_))
  ((refine wqa ?_))
  ((repeat refine AW_seq ?_))
  refine AW.begin 9 1 25 rfl (by decide) ?_
  simp only [putTM, List.length_cons, List.length_nil, Nat.reduceEqDiff, ↓reduceIte, List.cons_append, List.nil_append]
  ((refine wqa ?_))
  ((repeat refine AW_seq ?_))
  refine AW_mid (fun x : Nat × List Nat × Nat => ⟨[(9, .own 1 3 x.1 0 (psP E n).length)], none :: none :: none :: some ⟨25, x.1, ownC 4 (psP E n) x.2.1⟩ :: ownT (psP E n) x.2.1, x.2.2⟩) (fun _ => True) ?_ ?_
  · refine AW_block ?_
    refine AW_loop_w (fun x : (Nat × List Nat × List Nat) × Nat × Nat => ⟨[(7, .own 1 0 g0 0 n), (8, .mp 2 (t' + 1)), (9, .own 1 3 x.2.1 0 (psP E x.1.1).length), (24, int n), (25, int x.1.1)], some ⟨3, g0, nD x.1.2.1⟩ :: none :: some ⟨67, t' + 1, mpC (rtsP E x.1.1) 0⟩ :: some ⟨25, x.2.1, ownC 4 (psP E x.1.1) x.1.2.2⟩ :: ownT (psP E x.1.1) x.1.2.2, x.2.2⟩) (fun x => n - x.1.1)
      (fun x => x.1.1 ≤ n ∧ x.1.2.1.length = n ∧ UF x.1.2.1 ∧ (∀ z, z < n → rt x.1.2.1 z = lab E z) ∧ x.1.2.2.length = (psP E x.1.1).length) ((0, s, []), t' + 1 + 1, t' + 1 + 1) ⟨Nat.zero_le _, hl, hu, hr, rfl⟩ (by (simp (disch := omega) only [StLe, tmLe, hpLe_refl, hpLe, bl, bb, bt, zDs, zD, eqCells, simprocAttr, psP, rtsP, ownC, ownT, mpC, List.range_zero, List.filter_nil, List.map_nil, List.length_nil])) ?_
    rintro ⟨⟨i, s1, gs⟩, g3, tt⟩ ⟨hi, hl1, hu1, hr1, hgs⟩
    simp only at hi hl1 hu1 hr1 hgs
    by_cases hlt : i < n
    · have hpl := psP_len E i
      have hrl := rtsP_len E i
      have hcl := ownC_len 4 (psP E i) gs
      have htl := ownT_len (psP E i) gs
      have hpll : (psP E i).length ≤ 1000 := by omega
      have hz2 : ∀ k : Nat, ((0 + k : Nat) : Int) = (k : Int) := fun k => by omega
      ((refine ggb0 (F := _∧_) ⟨@Int.ofNat_lt, hlt⟩ ?_))
      ((repeat refine AW_seq ?_))
      refine AW_block ?_
      ((refine wqa ?_))
      ((repeat refine AW_seq ?_); (refine AW_region_k tab_ok fun KR hKR => ?_)); ((refine wra ?_))
      ((try with_reducible intro KR hKR); (first | refine awOps_nc fun KK hKK => ?_ | refine awOps_gc rfl fun KK hKK => ?_); simp (disch := omega) only [bb, bt, zDs, zD, eqCells, simprocAttr, goC, callO_fn, argsD, and_self])
      refine (first_call (b := 0) rfl hl1 hu1 hlt hn _).mono ?_
      rintro d H' t2 ⟨s2, l2, u2, r2, rfl, rfl, rfl⟩
      rw [hr1 i hlt]
      simp only [List.set_cons_zero]
      by_cases hroot : lab E i = i
      · obtain ⟨e1, e2⟩ := ps_new hroot
        have hnm : i ∉ rtsP E i := fun h => by have := (rtsP_lt h).1; omega
        have hf := mfind_no (rtsP E i) 0 i hnm
        have hp := mput_no (rtsP E i) 0 i hnm
        rw [← hpl, hz2] at hp
        have hpC : ∀ g, ownC 4 (psP E i) gs ++ [D.own 1 ((psP E i).length + 1 + 1 + 1 + 1) g 0 1] = ownC 4 (psP E i ++ [[i]]) (gs ++ [g]) := fun g => ownC_push 4 (psP E i) gs hgs [i] g
        have hpT : ∀ g, ownT (psP E i) gs ++ [some ⟨3, g, [int i]⟩] = ownT (psP E i ++ [[i]]) (gs ++ [g]) := fun g => ownT_push (psP E i) gs hgs [i] g
        rw [hroot]
        (simp (disch := omega) only [bb, bt, zDs, zD, eqCells, simprocAttr, afterC]; refine hKK _ ?_; clear hKK KK)
        ((refine wrb (F := _∧_) ⟨hf, @Option.isSome_none.{0}⟩ ?_))
        ((refine wea ?_); (try clear hKR KR))
        ((refine wqb @Option.isSome_none.{0} ?_))
        ((refine wib @Option.isSome_none.{0} ?_))
        ((refine wqb hcl ?_))
        ((repeat refine AW_seq ?_); (refine AW_region_k tab_ok fun KR hKR => ?_)); ((refine wra ?_))
        ((try with_reducible intro KR hKR); (first | refine awOps_nc fun KK hKK => ?_ | refine awOps_gc rfl fun KK hKK => ?_); simp (disch := omega) only [bb, bt, zDs, zD, eqCells, simprocAttr, goC, callO_fn, argsD, and_self])
        refine (first_call (b := 0) rfl l2 u2 hlt hn _).mono ?_
        rintro d H' t3 ⟨s3, l3, u3, r3, rfl, rfl, rfl⟩
        rw [r2 i, hr1 i hlt, hroot]
        simp only [List.set_cons_zero]
        (simp (disch := omega) only [bb, bt, zDs, zD, eqCells, simprocAttr, afterC]; refine hKK _ ?_; clear hKK KK)
        ((refine wrb (F := _∧_) ⟨hf, hp⟩ ?_))
        ((refine wea ?_); (try clear hKR KR))
        have hg1 : (ownC 4 (psP E i) gs ++ [D.sl 1 [] true])[(psP E i).length]? = some (D.sl 1 [] true) := by rw [← hcl]; simp
        have hg2 : ∀ X : D, (ownC 4 (psP E i) gs ++ [D.sl 1 [] true]).set (psP E i).length X = ownC 4 (psP E i) gs ++ [X] := fun X => by rw [← hcl]; simp
        have hpp : (psP E i).length < (psP E i).length + 1 := by omega
        ((refine ggb0 (F := _∧_∧_∧_∧_∧_) ⟨hcl, htl, hg1, hg2, hpp, @Nat.le_refl⟩ ?_))
        refine ⟨((i + 1, s3, gs ++ [t3 + 1 + 1]), t3 + 1, t3 + 1 + 1), ⟨hlt, l3, u3, fun z hz => by rw [r3, r2, hr1 z hz], by simp [e2, hgs]⟩, by show n - (i + 1) < n - i; omega, ?_⟩
        simp only [e1, e2, hpC, hpT, List.length_append, List.length_cons, List.length_nil]
        (simp (disch := omega) only [StLe, tmLe, hpLe_refl, hpLe, bl, bb, bt, zDs, zD, eqCells, simprocAttr])
      · obtain ⟨e1, j, hj, hjl, e2⟩ := ps_old hroot
        have hnd : (rtsP E i).Nodup := List.nodup_range.filter _
        have hf := mfind_yes (rtsP E i) 0 j _ hnd hj
        rw [hz2] at hf
        have hC := fun g => ownC_set (m := 4) hjl hgs ((psP E i).getD j [] ++ [i]) g
        have hT := fun g => ownT_set hjl hgs ((psP E i).getD j [] ++ [i]) g
        rw [show ((psP E i).getD j [] ++ [i]).length = ((psP E i).getD j []).length + 1 by simp] at hC
        have hgC := ownC_get (m := 4) (gs := gs) hjl
        have hgT := ownT_get (gs := gs) hjl
        have hpl2 := part_len E i j
        have hnl := nD_len ((psP E i).getD j [])
        have hap := nD_app ((psP E i).getD j []) i
        generalize hPJ : (psP E i).getD j [] = PJ at *
        have hj1 : j + 1 ≤ (psP E i).length := hjl
        (simp (disch := omega) only [bb, bt, zDs, zD, eqCells, simprocAttr, afterC]; refine hKK _ ?_; clear hKK KK)
        ((refine wrb (F := _∧_) ⟨hf, @Option.isSome_some.{0}⟩ ?_))
        ((refine wea ?_); (try clear hKR KR))
        ((refine ggb0 (F := _∧_∧_∧_∧_∧_∧_∧_∧_∧_∧_) ⟨@Option.isSome_some.{0}, hcl, htl, hgC, hgT, hjl, hnl, hap, hT, hC, hj1⟩ ?_))
        refine ⟨((i + 1, s2, gs.set j (t2 + 1)), g3, t2 + 1), ⟨hlt, l2, u2, fun z hz => by rw [r2, hr1 z hz], by simp [e2, hgs]⟩, by show n - (i + 1) < n - i; omega, ?_⟩
        simp only [e1, e2, List.length_set]
        (simp (disch := omega) only [StLe, tmLe, hpLe_refl, hpLe, bl, bb, bt, zDs, zD, eqCells, simprocAttr])
    · have hke : i = n := by omega
      subst hke
      ((refine ggb0 @Int.lt_irrefl ?_))
      exact ⟨(g3, gs, tt), trivial, by (simp (disch := omega) only [StLe, tmLe, hpLe_refl, hpLe, bl, bb, bt, zDs, zD, eqCells, simprocAttr])⟩
  rintro ⟨g3, gs, tt⟩ -
  ((refine gga0 ?_))
  ((repeat refine AW_seq ?_); (refine wta ?_); simp (disch := omega) only [retQ, resD, oneD, bb, bt, zDs, zD, eqCells, simprocAttr, Try.results17])
  have hR := rsv_rows (H := none :: none :: none :: some ⟨25, g3, ownC 4 (psP E n) gs⟩ :: ownT (psP E n) gs) (b := 3) (g := g3) (m := 4) (n := (psP E n).length) rfl rfl (fun k hk => by rw [← ownT_get hk]; rfl) 1
  rw [show rsv (none :: none :: none :: some ⟨25, g3, ownC 4 (psP E n) gs⟩ :: ownT (psP E n) gs) (1 + 3) = rs (rsv (none :: none :: none :: some ⟨25, g3, ownC 4 (psP E n) gs⟩ :: ownT (psP E n) gs) 3) (none :: none :: none :: some ⟨25, g3, ownC 4 (psP E n) gs⟩ :: ownT (psP E n) gs) from rfl] at hR
  rw [show ∀ H d, rsv H 4 d = rs (rsv H 3) H d from fun _ _ => rfl]
  simp only [rs, rsL] at hR ⊢
  rw [hR]
  rfl
end Go.Proofs.Ytalhegbjlfkipaa.T
