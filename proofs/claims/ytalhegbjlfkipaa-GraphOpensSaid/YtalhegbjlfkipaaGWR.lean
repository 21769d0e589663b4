import Derived.Test.YtalhegbjlfkipaaGWQ
import Derived.Test.YtalhegbjlfkipaaGWJ
import Derived.Test.YtalhegbjlfkipaaGWN
set_option linter.all false
namespace Go.Proofs.Ytalhegbjlfkipaa.T
open Go Go.RowKit Gr
set_option linter.unusedSimpArgs false

/-! Graphs: Path, Cycles of the program. -/
theorem pathTrue (k : Int) : PRet Try.prog 43 [int k] (bool true) := by
  refine PRet.intro 1 fun t => ACall.enter tab_ok Try.func43 rfl rfl Try.ntmps43 (by simp) ?_
  simp only [enterTM]
  ((refine gga0 ?_))
  ((repeat refine AW_seq ?_); (refine wta ?_); simp (disch := omega) only [retQ, resD, oneD, rsv, rs, rsL, rsL_eq_map, List.map_map, bb, bt, zDs, zD, eqCells, simprocAttr, Try.results43])
theorem usedP_all (E : List (Nat × Nat)) : usedP E (fun _ => true) = List.range E.length := by unfold usedP; simp
theorem pathG_arg (n : Int) (l : List (Int × Int)) (hl : l.length ≤ 1000000) (hv : validG n l = false) (a b : Int) : PRet Try.prog 12 [int n, eds l, int a, int b] (.tup [ints [], int 1]) := by
  refine PRet.intro 2 fun t => ACall.enter tab_ok Try.func12 rfl rfl Try.ntmps12 (by simp) ?_
  simp only [enterTM]
  have hV := valid n l hl
  rw [hv] at hV
  ((refine wqa ?_))
  ((repeat refine AW_seq ?_))
  refine AW_block ?_
  ((refine gga1 hV ?_))
  ((repeat refine AW_seq ?_); (refine wta ?_); simp (disch := omega) only [retQ, resD, oneD, bb, bt, zDs, zD, eqCells, simprocAttr, Try.results12])
  rfl
theorem pathG_out (n : Nat) (E : List (Nat × Nat)) (hv : validG n (edN E) = true) (hE : E.length ≤ 4000) (a b : Int) (h : outP n a b = true) : PRet Try.prog 12 [int n, eds (edN E), int a, int b] (.tup [ints [], int 2]) := by
  refine PRet.intro 2 fun t => ACall.enter tab_ok Try.func12 rfl rfl Try.ntmps12 (by simp) ?_
  simp only [enterTM]
  have hV := valid n (edN E) (by rw [edN_len]; omega)
  rw [hv] at hV
  unfold outP at h
  ((refine wqa ?_))
  ((repeat refine AW_seq ?_))
  refine AW_block ?_
  cases e1 : decide (a < 0)
  · cases e2 : decide ((n : Int) ≤ a)
    · cases e3 : decide (b < 0)
      · cases e4 : decide ((n : Int) ≤ b)
        · rw [e1, e2, e3, e4] at h; simp at h
        · ((refine ggb1 (F := _∧_∧_∧_) ⟨e1, e2, e3, e4⟩ hV ?_))
          ((repeat refine AW_seq ?_); (refine wta ?_); simp (disch := omega) only [retQ, resD, oneD, bb, bt, zDs, zD, eqCells, simprocAttr, Try.results12])
          rfl
      · ((refine ggb1 (F := _∧_∧_) ⟨e1, e2, e3⟩ hV ?_))
        ((repeat refine AW_seq ?_); (refine wta ?_); simp (disch := omega) only [retQ, resD, oneD, bb, bt, zDs, zD, eqCells, simprocAttr, Try.results12])
        rfl
    · ((refine ggb1 (F := _∧_) ⟨e1, e2⟩ hV ?_))
      ((repeat refine AW_seq ?_); (refine wta ?_); simp (disch := omega) only [retQ, resD, oneD, bb, bt, zDs, zD, eqCells, simprocAttr, Try.results12])
      rfl
  · ((refine ggb1 e1 hV ?_))
    ((repeat refine AW_seq ?_); (refine wta ?_); simp (disch := omega) only [retQ, resD, oneD, bb, bt, zDs, zD, eqCells, simprocAttr, Try.results12])
    rfl
theorem pathG (n : Nat) (E : List (Nat × Nat)) (ho : Ok n E) (hv : validG n (edN E) = true) (hn : n ≤ 1000) (hE : E.length ≤ 4000) (a b : Nat) (ha : a < n) (hb : b < n) : PRet Try.prog 12 [int n, eds (edN E), int a, int b] (.tup [ints (nl (pathP E a b).1), int (pathP E a b).2]) := by
  refine PRet.intro 2 fun t => ACall.enter tab_ok Try.func12 rfl rfl Try.ntmps12 (by simp) ?_
  simp only [enterTM]
  have hV := valid n (edN E) (by rw [edN_len]; omega)
  rw [hv] at hV
  have e1 : decide ((a : Int) < 0) = false := by simp
  have e2 : decide ((n : Int) ≤ (a : Int)) = false := by simp; omega
  have e3 : decide ((b : Int) < 0) = false := by simp
  have e4 : decide ((n : Int) ≤ (b : Int)) = false := by simp; omega
  have hB := besideG n E ho hn hE 43 [] (fun _ => true) (fun k _ => pathTrue k)
  have hW := wayG n E ho hn hE (fun _ => true) a b ha hb
  rw [usedP_all, sub_all] at hW
  ((refine wqa ?_))
  ((repeat refine AW_seq ?_))
  refine AW_block ?_
  unfold pathP
  by_cases hd : 0 ≤ dist E b a
  · rw [decide_eq_true hd] at hW
    rw [if_pos hd]
    generalize wayW E (List.range E.length) b a = W at *
    ((refine ggb3 (F := _∧_∧_∧_) ⟨e1, e2, e3, e4⟩ hV hB hW ?_))
    ((repeat refine AW_seq ?_); (refine wta ?_); simp (disch := omega) only [retQ, resD, oneD, bb, bt, zDs, zD, eqCells, simprocAttr, Try.results12])
    exact rsv_tidy _ _ (by simp only [tidyD, tidyL, Bool.not_false, Bool.true_and, Bool.and_true, tidy_ints])
  · rw [decide_eq_false hd] at hW
    rw [if_neg hd]
    generalize wayW E (List.range E.length) b a = W at *
    ((refine ggb3 (F := _∧_∧_∧_) ⟨e1, e2, e3, e4⟩ hV hB hW ?_))
    ((repeat refine AW_seq ?_); (refine wta ?_); simp (disch := omega) only [retQ, resD, oneD, bb, bt, zDs, zD, eqCells, simprocAttr, Try.results12])
    rfl
theorem cycles1 (E : List (Nat × Nat)) (k : Nat) (hk : k < E.length) : PRet Try.prog 54 [int k, .rp [.sl 1 ((inFl E E.length).map bool) false] 0] (bool (inF E k)) := by
  refine PRet.intro 1 fun t => ACall.enter tab_ok Try.func54 rfl rfl Try.ntmps54 (by simp) ?_
  simp only [enterTM]
  have hg : (inFl E E.length)[k]? = some (inF E k) := by simp [inFl, hk]
  have hl := inFl_len E E.length
  ((refine ggb0 (F := _∧_∧_) ⟨hk, hg, hl⟩ ?_))
  ((repeat refine AW_seq ?_); (refine wta ?_); simp (disch := omega) only [retQ, resD, oneD, rsv, rs, rsL, rsL_eq_map, List.map_map, bb, bt, zDs, zD, eqCells, simprocAttr, Try.results54])
theorem usedP_in (E : List (Nat × Nat)) : usedP E (inF E) = forestP E := rfl
noncomputable def cycRows (E : List (Nat × Nat)) (j : Nat) : List (List Int) := ((restP E).take j).map fun i => nl (cycleP E i)
theorem cycRows_end (E : List (Nat × Nat)) : cycRows E (restP E).length = (cyclesP E).map nl := by
  unfold cycRows cyclesP
  rw [List.take_length, List.map_map]; rfl
theorem cycRows_step {E : List (Nat × Nat)} {j i : Nat} (h : (restP E)[j]? = some i) : cycRows E (j + 1) = cycRows E j ++ [nl (cycleP E i)] := by
  unfold cycRows
  rw [List.take_add_one, h]; simp
theorem restP_len (E : List (Nat × Nat)) : (restP E).length ≤ E.length := filt_len _ _
set_option maxHeartbeats 2000000 in
theorem cyclesG (n : Nat) (E : List (Nat × Nat)) (ho : Ok n E) (hv : validG n (edN E) = true) (hn : n ≤ 1000) (hE : E.length ≤ 4000) :
    PRet Try.prog 27 [int n, eds (edN E)] (.tup [mat ((cyclesP E).map nl), int 0]) := by
  refine PRet.intro 3 fun t => ACall.enter tab_ok Try.func27 rfl rfl Try.ntmps27 (by simp) ?_
  simp only [enterTM]
  have hV := valid n (edN E) (by rw [edN_len]; omega)
  rw [hv] at hV
  have hI := indicesB (inFl E E.length) false (by rw [inFl_len]; omega)
  rw [inFl_len, ids_false] at hI
  have hB := besideG n E ho hn hE 54 [.rp [.sl 1 ((inFl E E.length).map bool) false] 0] (inF E) (fun k hk => cycles1 E k hk)
  have hrl := nl_len (restP E)
  have hrE := restP_len E
  rw [← cycRows_end]
  ((refine wqa ?_))
  ((repeat refine AW_seq ?_); (refine AW_region_k tab_ok fun KR hKR => ?_)); ((refine wra ?_))
  ((refine wka1 hV ?_))
  ((refine wra ?_)); ((refine wea ?_); (try clear hKR KR))
  ((refine wia ?_))
  ((refine wsa ?_))
  ((repeat refine AW_seq ?_); (refine AW_region_k tab_ok fun KR hKR => ?_)); ((refine wra ?_))
  ((try with_reducible intro KR hKR); (first | refine awOps_nc fun KK hKK => ?_ | refine awOps_gc rfl fun KK hKK => ?_); simp (disch := omega) only [bb, bt, zDs, zD, eqCells, simprocAttr, goC, callO_fn, argsD, and_self])
  refine (forest_call n E ho hn hE _).mono ?_
  rintro d H' t' ⟨s, g0, g1, hl, hu, hr, rfl, rfl, ht⟩
  (simp (disch := omega) only [bb, bt, zDs, zD, eqCells, simprocAttr, afterC]; refine hKK _ ?_; clear hKK KK)
  ((refine wra ?_))
  ((refine wea ?_); (try clear hKR KR))
  have hbl : (bD (inFl E E.length)).length = E.length := by rw [bD_len, inFl_len]
  have hfin : List.take E.length (bD (inFl E E.length)) = (inFl E E.length).map bool := List.take_of_length_le (by rw [hbl]; exact Nat.le_refl _)
  have hfb : ∀ b g cs, fzL b g cs ((inFl E E.length).map bool) = (inFl E E.length).map bool := fun b g cs => by
    generalize inFl E E.length = l
    induction l with
    | nil => rfl
    | cons x l ih => simp only [List.map_cons, fzL, fz, ih]
  ((repeat refine AW_seq ?_))
  ((refine AW.freeze (1) (by first | rfl | (simp only [setH, List.getElem?_cons_zero, List.getElem?_cons_succ, fz_nD, fz_ed, hbl, hfin, hfb, Nat.le_refl]; done)) ?_); simp (disch := omega) only [fzT, fz, fzL, fzL_ints, fzL_mat, fzH, fzB, eq_self, bb, bt, zDs, zD, eqCells, simprocAttr, fz_nD, fz_ed, hbl, hfin, hfb, Nat.le_refl])
  ((refine AW.freeze (2) (by first | rfl | (simp only [setH, List.getElem?_cons_zero, List.getElem?_cons_succ, fz_nD, fz_ed, hfb, Nat.le_refl]; done)) ?_); simp (disch := omega) only [fzT, fz, fzL, fzL_ints, fzL_mat, fzH, fzB, eq_self, bb, bt, zDs, zD, eqCells, simprocAttr, fz_nD, fz_ed, hfb, Nat.le_refl])
  ((repeat refine AW_seq ?_); (refine AW_region_k tab_ok fun KR hKR => ?_)); ((refine wra ?_))
  ((refine wka1 hB ?_))
  ((refine wra ?_)); ((refine wea ?_); (try clear hKR KR))
  have hcl0 : ∀ j, (cycRows E j).length ≤ j := fun j => by unfold cycRows; rw [List.length_map, List.length_take]; omega
  have hrow := @psA_row n E (inF E) E.length
  have hW := fun (a b : Nat) (ha : a < n) (hb : b < n) => wayG n E ho hn hE (inF E) a b ha hb
  rw [usedP_in] at hW
  generalize hPM : (psA n E (inF E) E.length).map nl = PM at *
  ((refine wqa ?_))
  ((repeat refine AW_seq ?_))
  refine AW.begin 9 1 25 rfl (by decide) ?_
  simp only [putTM, List.length_cons, List.length_nil, Nat.reduceEqDiff, ↓reduceIte, List.cons_append, List.nil_append]
  ((repeat refine AW_seq ?_); (refine AW_region_k tab_ok fun KR hKR => ?_)); ((refine wra ?_))
  ((refine wka1 hI ?_))
  ((refine wrb hrl ?_)); ((refine wea ?_); (try clear hKR KR))
  ((repeat refine AW_seq ?_))
  refine AW_mid (fun x : Nat × Nat => ⟨[(9, .own 1 3 x.1 0 (cycRows E (restP E).length).length)], [none, none, none, some ⟨25, x.1, (cycRows E (restP E).length).map ints⟩], x.2⟩) (fun _ => True) ?_ ?_
  · refine AW_block ?_
    refine AW_loop_w (fun x : Nat × Nat × Nat => ⟨[(1, eds (edN E)), (8, mat PM), (29, ints (nl (restP E))), (30, int (restP E).length), (31, int x.1), (9, .own 1 3 x.2.1 0 (cycRows E x.1).length)], [none, none, none, some ⟨25, x.2.1, (cycRows E x.1).map ints⟩], x.2.2⟩) (fun x => (restP E).length - x.1) (fun x => x.1 ≤ (restP E).length) (0, t' + 1 + 1, t' + 1 + 1) (Nat.zero_le _) (by (simp (disch := omega) only [StLe, tmLe, hpLe_refl, hpLe, bl, bb, bt, zDs, zD, eqCells, simprocAttr, cycRows, List.take_zero, List.length_nil, List.map_nil])) ?_
    rintro ⟨j, g, tt⟩ hj
    simp only at hj
    by_cases hlt : j < (restP E).length
    · obtain ⟨i, hi⟩ : ∃ y, (restP E)[j]? = some y := ⟨_, List.getElem?_eq_getElem hlt⟩
      have hir : i < E.length := by
        have := List.mem_of_getElem? hi
        simp only [restP, List.mem_filter, List.mem_range] at this
        exact this.1
      have hst := cycRows_step hi
      have hle := hcl0 j
      obtain ⟨⟨a, b⟩, he⟩ : ∃ e, E[i]? = some e := ⟨_, List.getElem?_eq_getElem hir⟩
      obtain ⟨ha, hb, hab⟩ := ho.get he
      have hen := edN_get he
      have g2 := edC_0 hen
      have g3 := edC_1 hen
      simp only at g2 g3
      have hr2 : i * 2 < E.length * 2 := by omega
      have hWi := hW b a hb ha
      have hcw := cycle_w he
      have hws := way_small ho (q := forestP E) (a := b) (b := a) hb
      have hwn : wayW E (forestP E) a b ≠ [] := fun e => by
        obtain ⟨d, h1, h2, h3⟩ := cycle_way ho he
        have := (way_walk ho d b h1 hb).2
        unfold wayW at e
        rw [show (dist (sub E (forestP E)) a b).toNat = d by omega] at e
        rw [e] at this
        simp only [List.length_nil] at this
        omega
      have hqi := nl_get hi
      generalize hPK : cycRows E j = PK at *
      generalize hWW : wayW E (forestP E) a b = W at *
      have hne : ¬ (nl W).map int = [] := fun e => hwn (by
        have := congrArg List.length e
        rw [List.length_map, nl_len] at this
        exact List.eq_nil_of_length_eq_zero this)
      have hcl : ((nl W).map int).all isCell = true := by simp [List.all_map, isCell, Value.oneCell']
      have hnl := nl_len W
      ((refine ggb0 (F := _∧_) ⟨@Int.ofNat_lt, hlt⟩ ?_))
      ((repeat refine AW_seq ?_))
      refine AW_block ?_
      ((refine wqb (F := _∧_∧_) ⟨hlt, hqi, hrl⟩ ?_))
      ((repeat refine AW_seq ?_); (refine gdzb1 (F := _∧_∧_∧_∧_) ⟨hr2, edC_len, edN_len, g2, g3⟩ hWi ?_))
      ((refine wqb (F := _∧_∧_) ⟨hne, hcl, hnl⟩ ?_))
      have hfin2 : List.take (1 + W.length) (int i :: (nl W).map int) = int i :: (nl W).map int := List.take_of_length_le (by simp [hnl]; omega)
      have hle3 : 1 + W.length ≤ W.length + 1 := by omega
      have hcn : nl (i :: W) = (i : Int) :: nl W := rfl
      rw [hcw, hcn] at hst
      ((refine AW.freeze (4) (by first | rfl | (simp only [setH, List.getElem?_cons_zero, List.getElem?_cons_succ, fzL_app, fzL_mat, fzL_ints, fz_ed, hfin2, hle3, hnl, List.length_map]; done)) ?_); simp (disch := omega) only [fzT, fz, fzL, fzL_ints, fzL_mat, fzH, fzB, eq_self, bb, bt, zDs, zD, eqCells, simprocAttr, fzL_app, fzL_mat, fzL_ints, fz_ed, hfin2, hle3, hnl, List.length_map])
      ((refine gga0 ?_))
      refine ⟨(j + 1, tt + 1 + 1 + 1, tt + 1 + 1 + 1), hlt, by show (restP E).length - (j + 1) < (restP E).length - j; omega, ?_⟩
      simp only [hst, List.length_append, List.length_cons, List.length_nil, List.map_append, List.map_cons, List.map_nil]
      (simp (disch := omega) only [StLe, tmLe, hpLe_refl, hpLe, bl, bb, bt, zDs, zD, eqCells, simprocAttr])
      exact .inr rfl
    · have hje : j = (restP E).length := by omega
      subst hje
      ((refine ggb0 @Int.lt_irrefl ?_))
      exact ⟨(g, tt), trivial, by (simp (disch := omega) only [StLe, tmLe, hpLe_refl, hpLe, bl, bb, bt, zDs, zD, eqCells, simprocAttr])⟩
  rintro ⟨g, tt⟩ -
  ((refine gga0 ?_))
  ((repeat refine AW_seq ?_); (refine wta ?_); simp (disch := omega) only [retQ, resD, oneD, bb, bt, zDs, zD, eqCells, simprocAttr, Try.results27])
  have hR := rsv_mat (H := [none, none, none, some ⟨25, g, (cycRows E (restP E).length).map ints⟩]) (b := 3) (g := g) (n := (cycRows E (restP E).length).length) rfl rfl 1
  simp only [rsv, rs, rsL] at hR ⊢
  rw [hR]
end Go.Proofs.Ytalhegbjlfkipaa.T
