import Derived.Test.YtalhegbjlfkipaaGWI
set_option linter.all false
namespace Go.Proofs.Ytalhegbjlfkipaa.T
open Go Go.RowKit Gr
set_option linter.unusedSimpArgs false

/-! Graphs: the reference's Cycle, Path. -/
set_option maxHeartbeats 1000000 in
theorem cycleR (n : Nat) (E : List (Nat × Nat)) (ho : Ok n E) (hn : n ≤ 1000) (hE : E.length ≤ 4000) (l : List Nat) (hl : ∀ k ∈ l, k < E.length) (hll : l.length ≤ 1000) :
    PRet Try.prog 32 [eds (edN E), ints (nl l)] (bool (cycP E l)) := by
  refine PRet.intro 1 fun t => ACall.enter tab_ok Try.func32 rfl rfl Try.ntmps32 (by simp) ?_
  simp only [enterTM]
  have hlnl := nl_len l
  by_cases h2 : (l.length : Int) < 2
  · ((refine ggb0 (F := _∧_) ⟨h2, hlnl⟩ ?_))
    ((repeat refine AW_seq ?_); (refine wta ?_); simp (disch := omega) only [retQ, resD, oneD, rsv, rs, rsL, rsL_eq_map, List.map_map, bb, bt, zDs, zD, eqCells, simprocAttr, Try.results32])
    have : ¬ 2 ≤ l.length := by omega
    simp only [cycP, decide_eq_false this, Bool.false_and]
  have h2' : 2 ≤ l.length := by omega
  obtain ⟨i, l', rfl⟩ : ∃ i l', l = i :: l' := by
    cases l with
    | nil => simp at h2'
    | cons i l' => exact ⟨i, l', rfl⟩
  have hiE := hl i (by simp)
  obtain ⟨⟨u, v⟩, he⟩ : ∃ y, E[i]? = some y := ⟨_, List.getElem?_eq_getElem hiE⟩
  have hen := edN_get he
  have g0 := edC_0 hen
  have g1 := edC_1 hen
  simp only at g0 g1
  have hqn : (nl (i :: l'))[0]? = some (i : Int) := rfl
  have hr2 : i * 2 < E.length * 2 := by omega
  have hlp : 0 < (i :: l').length := by simp
  have R1 := roundR n E ho hn hE (i :: l') hl hll (by simp) u
  have R2 := roundR n E ho hn hE (i :: l') hl hll (by simp) v
  have hc : cycP E (i :: l') = (decide (i :: l').Nodup && (roundP E u (i :: l') [] u || roundP E v (i :: l') [] v)) := by
    unfold cycP
    rw [decide_eq_true h2', Bool.true_and]
    simp only [he]
  rw [hc, Bool.and_or_distrib_left]
  generalize (decide (i :: l').Nodup && roundP E u (i :: l') [] u) = b1 at *
  generalize (decide (i :: l').Nodup && roundP E v (i :: l') [] v) = b2 at *
  generalize i :: l' = l at *
  cases b1
  · ((refine ggb2 (F := _∧_∧_∧_∧_∧_∧_∧_∧_) ⟨h2, hlnl, hqn, hlp, hr2, edC_len, edN_len, g0, g1⟩ R1 R2 ?_))
    ((repeat refine AW_seq ?_); (refine wta ?_); simp (disch := omega) only [retQ, resD, oneD, rsv, rs, rsL, rsL_eq_map, List.map_map, bb, bt, zDs, zD, eqCells, simprocAttr, Try.results32])
    rw [Bool.false_or]
  · ((refine ggb2 (F := _∧_∧_∧_∧_∧_∧_∧_∧_) ⟨h2, hlnl, hqn, hlp, hr2, edC_len, edN_len, g0, g1⟩ R1 R2 ?_))
    ((repeat refine AW_seq ?_); (refine wta ?_); simp (disch := omega) only [retQ, resD, oneD, rsv, rs, rsL, rsL_eq_map, List.map_map, bb, bt, zDs, zD, eqCells, simprocAttr, Try.results32])
    rw [Bool.true_or]
/-- Path: an invalid graph. -/
theorem pathR_arg (n : Int) (l : List (Int × Int)) (hl : l.length ≤ 1000000) (hv : validG n l = false) (a b : Int) : PRet Try.prog 13 [int n, eds l, int a, int b] (.tup [ints [], int 1]) := by
  refine PRet.intro 2 fun t => ACall.enter tab_ok Try.func13 rfl rfl Try.ntmps13 (by simp) ?_
  simp only [enterTM]
  have hV := refValid n l hl
  rw [hv] at hV
  ((refine gga1 hV ?_))
  ((repeat refine AW_seq ?_); (refine wta ?_); simp (disch := omega) only [retQ, resD, oneD, bb, bt, zDs, zD, eqCells, simprocAttr, Try.results13])
  rfl
/-- A node that is none. -/
def outP (n a b : Int) : Bool := decide (a < 0) || decide (n ≤ a) || decide (b < 0) || decide (n ≤ b)
/-- A path, and what is said of it. -/
noncomputable def pathP (E : List (Nat × Nat)) (a b : Nat) : List Nat × Int := if 0 ≤ dist E b a then (wayW E (List.range E.length) b a, 0) else ([], 12)
theorem sub_all (E : List (Nat × Nat)) : sub E (List.range E.length) = E := by
  have key : ∀ m, m ≤ E.length → sub E (List.range m) = E.take m := fun m => by
    induction m with
    | zero => intro _; rfl
    | succ m ih =>
      intro h
      unfold sub at ih ⊢
      rw [List.range_succ, List.filterMap_append, ih (by omega), List.take_add_one]
      obtain ⟨e, he⟩ : ∃ e, E[m]? = some e := ⟨_, List.getElem?_eq_getElem (by omega)⟩
      simp [he]
  rw [key _ (Nat.le_refl _), List.take_length]
theorem pathR_out (n : Nat) (E : List (Nat × Nat)) (hv : validG n (edN E) = true) (hE : E.length ≤ 4000) (a b : Int) (h : outP n a b = true) : PRet Try.prog 13 [int n, eds (edN E), int a, int b] (.tup [ints [], int 2]) := by
  refine PRet.intro 2 fun t => ACall.enter tab_ok Try.func13 rfl rfl Try.ntmps13 (by simp) ?_
  simp only [enterTM]
  have hV := refValid n (edN E) (by rw [edN_len]; omega)
  rw [hv] at hV
  unfold outP at h
  cases e1 : decide (a < 0)
  · cases e2 : decide ((n : Int) ≤ a)
    · cases e3 : decide (b < 0)
      · cases e4 : decide ((n : Int) ≤ b)
        · rw [e1, e2, e3, e4] at h; simp at h
        · ((refine ggb1 (F := _∧_∧_∧_) ⟨e1, e2, e3, e4⟩ hV ?_))
          ((repeat refine AW_seq ?_); (refine wta ?_); simp (disch := omega) only [retQ, resD, oneD, bb, bt, zDs, zD, eqCells, simprocAttr, Try.results13])
          rfl
      · ((refine ggb1 (F := _∧_∧_) ⟨e1, e2, e3⟩ hV ?_))
        ((repeat refine AW_seq ?_); (refine wta ?_); simp (disch := omega) only [retQ, resD, oneD, bb, bt, zDs, zD, eqCells, simprocAttr, Try.results13])
        rfl
    · ((refine ggb1 (F := _∧_) ⟨e1, e2⟩ hV ?_))
      ((repeat refine AW_seq ?_); (refine wta ?_); simp (disch := omega) only [retQ, resD, oneD, bb, bt, zDs, zD, eqCells, simprocAttr, Try.results13])
      rfl
  · ((refine ggb1 e1 hV ?_))
    ((repeat refine AW_seq ?_); (refine wta ?_); simp (disch := omega) only [retQ, resD, oneD, bb, bt, zDs, zD, eqCells, simprocAttr, Try.results13])
    rfl
theorem pathR (n : Nat) (E : List (Nat × Nat)) (ho : Ok n E) (hv : validG n (edN E) = true) (hn : n ≤ 1000) (hE : E.length ≤ 4000) (a b : Nat) (ha : a < n) (hb : b < n) : PRet Try.prog 13 [int n, eds (edN E), int a, int b] (.tup [ints (nl (pathP E a b).1), int (pathP E a b).2]) := by
  refine PRet.intro 2 fun t => ACall.enter tab_ok Try.func13 rfl rfl Try.ntmps13 (by simp) ?_
  simp only [enterTM]
  have hV := refValid n (edN E) (by rw [edN_len]; omega)
  rw [hv] at hV
  have e1 : decide ((a : Int) < 0) = false := by simp
  have e2 : decide ((n : Int) ≤ (a : Int)) = false := by simp; omega
  have e3 : decide ((b : Int) < 0) = false := by simp
  have e4 : decide ((n : Int) ≤ (b : Int)) = false := by simp; omega
  have hA := allR (edN E) (by rw [edN_len]; omega)
  rw [edN_len] at hA
  have hW := wayR n E ho hn hE (List.range E.length) (fun k hk => by simpa using hk) (by simpa using hE) a b ha hb
  rw [sub_all] at hW
  unfold pathP
  by_cases hd : 0 ≤ dist E b a
  · rw [decide_eq_true hd] at hW
    rw [if_pos hd]
    generalize wayW E (List.range E.length) b a = W at *
    ((refine ggb3 (F := _∧_∧_∧_) ⟨e1, e2, e3, e4⟩ hV hA hW ?_))
    ((repeat refine AW_seq ?_); (refine wta ?_); simp (disch := omega) only [retQ, resD, oneD, bb, bt, zDs, zD, eqCells, simprocAttr, Try.results13])
    exact rsv_tidy _ _ (by simp only [tidyD, tidyL, Bool.not_false, Bool.true_and, Bool.and_true, tidy_ints])
  · rw [decide_eq_false hd] at hW
    rw [if_neg hd]
    generalize wayW E (List.range E.length) b a = W at *
    ((refine ggb3 (F := _∧_∧_∧_) ⟨e1, e2, e3, e4⟩ hV hA hW ?_))
    ((repeat refine AW_seq ?_); (refine wta ?_); simp (disch := omega) only [retQ, resD, oneD, bb, bt, zDs, zD, eqCells, simprocAttr, Try.results13])
    rfl
end Go.Proofs.Ytalhegbjlfkipaa.T
