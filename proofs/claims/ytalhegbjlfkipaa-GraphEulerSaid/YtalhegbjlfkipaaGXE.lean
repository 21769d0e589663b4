import Derived.Test.YtalhegbjlfkipaaGXA
import Derived.Test.YtalhegbjlfkipaaGWY
set_option linter.all false
namespace Go.Proofs.Ytalhegbjlfkipaa.T
open Go Go.RowKit Gr
set_option linter.unusedSimpArgs false

/-! Graphs: the law over forest, parts, and cycles. -/
set_option maxHeartbeats 4000000 in
theorem law_euler (n : Int) (l : List (Int × Int)) : PRet Try.prog 7 [int n, eds l] (bool true) := by
  refine PRet.intro 2 fun t => ACall.enter tab_ok Try.func7 rfl rfl Try.ntmps7 (by simp) ?_
  simp only [enterTM]
  have hA := awake06
  have hR := right2 n l
  cases hr : (decide (n ≤ 30) && decide (l.length ≤ 40)) && validG n l
  · rw [hr] at hR
    ((refine gga2 hA hR ?_))
    ((repeat refine AW_seq ?_); (refine wta ?_); simp (disch := omega) only [retQ, resD, oneD, rsv, rs, rsL, rsL_eq_map, List.map_map, bb, bt, zDs, zD, eqCells, simprocAttr, Try.results7])
  rw [hr] at hR
  simp only [Bool.and_eq_true, decide_eq_true_eq] at hr
  obtain ⟨⟨hn30, hl40⟩, hv⟩ := hr
  obtain ⟨m, E, rfl, rfl, ho, hm, hE⟩ := valid_nat hv
  rw [edN_len] at hl40
  have hoF := ho.sub (forestP E)
  have hsl := sub_forest_len E
  have hfl := forest_len E
  have h1 := partsG m E ho hv hm hE
  have h2 := forestG m E ho hv hm hE
  have h3 := cyclesG m E ho hv hm hE
  have h4 := countG m E ho hv hm hE
  have hvF := valid_ok hoF hm (by omega)
  have h5 := partsG m (sub E (forestP E)) hoF hvF hm (by omega)
  have h6 := countG m (sub E (forestP E)) hoF hvF hm (by omega)
  rw [rest_forest ho] at h6
  rw [parts_forest ho] at h5
  have hpl := parts_len m E
  have h7 := sameNat (partsP m E) (partsP m E) (by omega) (by omega) fun r h => by have := parts_row h; omega
  rw [beq_self_eq_true] at h7
  have e1 : (((forestP E).length : Int) + ((partsP m E).length : Int) != (m : Int)) = false := by have := euler_parts ho; simp; omega
  have e2 : (((forestP E).length : Int) + ((cyclesP E).length : Int) != (E.length : Int)) = false := by have := euler_cycles E; simp; omega
  have e3 : (((restP E).length : Int) != ((cyclesP E).length : Int)) = false := by have := cycles_len E; simp; omega
  have hcl : (cyclesP E).length ≤ E.length := by have := euler_cycles E; omega
  have hnl := nl_len (forestP E)
  have hdiv : (edC (edN E)).length / 2 = E.length := by rw [edC_div, edN_len]
  ((refine ggb6 (F := _∧_∧_∧_∧_) ⟨e1, e2, e3, hnl, hdiv⟩ hA hR h1 h2 h3 h4 ?_))
  ((repeat refine AW_seq ?_))
  refine AW.begin 13 2 43 rfl (by decide) ?_
  simp only [putTM, List.length_cons, List.length_nil, Nat.reduceEqDiff, ↓reduceIte, List.cons_append, List.nil_append]
  have hFm : ∀ k ∈ forestP E, k < E.length := fun k hk => (mem_forest.1 hk).1
  refine AW_mid (fun w : Nat × Nat => ⟨[(0, int m), (1, eds (edN E)), (4, bool false), (5, mat ((partsP m E).map nl)), (7, ints (nl (forestP E))), (9, mat ((cyclesP E).map nl)), (13, .own 2 0 w.1 0 (forestP E).length)], [some ⟨43, w.1, edC (edN (sub E (forestP E)))⟩], w.2⟩) (fun _ => True) ?_ ?_
  · refine AW_block ?_
    refine AW_loop_w (fun w : Nat × Nat × Nat => ⟨[(0, int m), (1, eds (edN E)), (4, bool false), (5, mat ((partsP m E).map nl)), (7, ints (nl (forestP E))), (9, mat ((cyclesP E).map nl)), (13, .own 2 0 w.2.1 0 w.1), (96, ints (nl (forestP E))), (97, int (forestP E).length), (98, int w.1)], [some ⟨43, w.2.1, edC (edN (sub E ((forestP E).take w.1)))⟩], w.2.2⟩) (fun w => (forestP E).length - w.1)
      (fun w => w.1 ≤ (forestP E).length) (0, t + 1, t + 1) (Nat.zero_le _) (by (simp (disch := omega) only [StLe, tmLe, hpLe_refl, hpLe, bl, bb, bt, zDs, zD, eqCells, simprocAttr, List.take_zero, sub, List.filterMap_nil, edN, edC, List.map_nil, List.flatMap_nil])) ?_
    rintro ⟨k, g, tt⟩ hk
    simp only at hk
    by_cases hlt : k < (forestP E).length
    · obtain ⟨i, hi⟩ : ∃ w, (forestP E)[k]? = some w := ⟨_, List.getElem?_eq_getElem hlt⟩
      have hiE := hFm i (List.mem_of_getElem? hi)
      obtain ⟨⟨p, q⟩, hpq⟩ : ∃ w, E[i]? = some w := ⟨_, List.getElem?_eq_getElem hiE⟩
      have hsn := sub_snoc hi hpq
      have hsk := sub_take_len (E := E) hk
      have hin := nl_get hi
      have hrd := edC_read _ _ _ (edN_get hpq)
      simp only at hrd
      have c1 : decide ((E.length : Int) ≤ i) = false := decide_eq_false (by omega)
      have c0 : decide ((i : Int) < 0) = false := decide_eq_false (by omega)
      have hr2 : i * 2 < E.length * 2 := by omega
      have hr3 : i * 2 + 2 ≤ E.length * 2 := by omega
      have hdv : E.length * 2 / 2 = E.length := by omega
      have hsc : (edC (edN (sub E ((forestP E).take k)))).length = k * 2 := by rw [edC_len, edN_len, hsk]
      have hes := edC_snoc (sub E ((forestP E).take k)) p q
      ((refine ggb0 (F := _∧_) ⟨@Int.ofNat_lt, hlt⟩ ?_))
      ((repeat refine AW_seq ?_))
      refine AW_block ?_
      ((refine ggb0 (F := _∧_∧_∧_∧_∧_∧_∧_∧_∧_∧_∧_∧_) ⟨hlt, hin, hnl, hiE, c0, c1, hr2, hr3, hdv, hsc, edC_len, edN_len, hrd⟩ ?_))
      refine ⟨(k + 1, tt + 1, tt + 1), hlt, by show (forestP E).length - (k + 1) < (forestP E).length - k; omega, ?_⟩
      simp only [hsn, hes]
      (simp (disch := omega) only [StLe, tmLe, hpLe_refl, hpLe, bl, bb, bt, zDs, zD, eqCells, simprocAttr])
    · have hke : k = (forestP E).length := by omega
      subst hke
      ((refine ggb0 @Int.lt_irrefl ?_))
      refine ⟨(g, tt), trivial, ?_⟩
      simp only [List.take_length]
      (simp (disch := omega) only [StLe, tmLe, hpLe_refl, hpLe, bl, bb, bt, zDs, zD, eqCells, simprocAttr])
  rintro ⟨g, tt⟩ -
  have hsc2 : (edC (edN (sub E (forestP E)))).length = (forestP E).length * 2 := by rw [edC_len, edN_len, hsl]
  have htk : List.take ((forestP E).length * 2) (edC (edN (sub E (forestP E)))) = edC (edN (sub E (forestP E))) := List.take_of_length_le (by omega)
  ((refine AW.freeze (0) (by first | rfl | (simp only [setH, List.getElem?_cons_zero, List.getElem?_cons_succ, fz_ed, htk, hsc2, Nat.le_refl, ↓reduceIte]; done)) ?_); simp (disch := omega) only [fzT, fz, fzL, fzL_ints, fzL_mat, fzH, fzB, eq_self, bb, bt, zDs, zD, eqCells, simprocAttr, fz_ed, htk, hsc2, Nat.le_refl, ↓reduceIte])
  ((refine gga3 h5 h6 h7 ?_))
  ((repeat refine AW_seq ?_))
  refine AW_mid (fun w : Nat => ⟨[(4, bool false)], [none], w⟩) (fun _ => True) ?_ ?_
  · refine AW_block ?_
    refine AW_loop_w (fun w : Nat × Nat => ⟨[(0, int m), (1, eds (edN E)), (4, bool false), (7, ints (nl (forestP E))), (146, mat ((cyclesP E).map nl)), (147, int (cyclesP E).length), (148, int w.1)], [none], w.2⟩) (fun w => (cyclesP E).length - w.1)
      (fun w => w.1 ≤ (cyclesP E).length) (0, tt) (Nat.zero_le _) (by (simp (disch := omega) only [StLe, tmLe, hpLe_refl, hpLe, bl, bb, bt, zDs, zD, eqCells, simprocAttr, List.length_map])) ?_
    rintro ⟨k, t2⟩ hk
    simp only at hk
    by_cases hlt : k < (cyclesP E).length
    · obtain ⟨r, hr⟩ : ∃ w, (cyclesP E)[k]? = some w := ⟨_, List.getElem?_eq_getElem hlt⟩
      have hrm := List.mem_of_getElem? hr
      have hrl := cycle_row ho hrm
      obtain ⟨i, hi, rfl⟩ : ∃ i, i ∈ restP E ∧ cycleP E i = r := by
        unfold cyclesP at hrm
        exact List.mem_map.1 hrm
      have hone := cycle_one ho hi
      have hrn : ((cyclesP E).map nl)[k]? = some (nl (cycleP E i)) := by rw [List.getElem?_map, hr]; rfl
      have h8 := cycleG m E ho hv hm hE (nl (cycleP E i)) (by rw [nl_len]; omega)
      rw [cycS_cycle ho hi] at h8
      have h8' : PRet Try.prog 29 [int m, eds (edN E), ints (nl (cycleP E i))] (.tup [bool true, int 0]) := h8
      have hrln := nl_len (cycleP E i)
      generalize cycleP E i = r at *
      ((refine ggb0 (F := _∧_) ⟨@Int.ofNat_lt, hlt⟩ ?_))
      ((repeat refine AW_seq ?_))
      refine AW_block ?_
      ((refine ggb1 (F := _∧_∧_) ⟨hlt, hrn, hrln⟩ h8' ?_))
      ((repeat refine AW_seq ?_))
      refine AW_mid (fun w : Nat => ⟨[(0, int m), (1, eds (edN E)), (4, bool false), (7, ints (nl (forestP E))), (146, mat ((cyclesP E).map nl)), (147, int (cyclesP E).length), (148, int k), (24, int 1)], [none], w⟩) (fun _ => True) ?_ ?_
      · refine AW_block ?_
        refine AW_loop_w (fun w : Nat × Nat => ⟨[(0, int m), (1, eds (edN E)), (4, bool false), (7, ints (nl (forestP E))), (146, mat ((cyclesP E).map nl)), (147, int (cyclesP E).length), (148, int k), (24, int ((r.take w.1).filter fun k => !(forestP E).contains k).length), (165, ints (nl r)), (166, int r.length), (167, int w.1)], [none], w.2⟩) (fun w => r.length - w.1)
          (fun w => w.1 ≤ r.length) (0, t2) (Nat.zero_le _) (by (simp (disch := omega) only [StLe, tmLe, hpLe_refl, hpLe, bl, bb, bt, zDs, zD, eqCells, simprocAttr, List.take_zero, List.filter_nil, List.length_nil])) ?_
        rintro ⟨j, t3⟩ hj
        simp only at hj
        by_cases hjt : j < r.length
        · obtain ⟨y, hy⟩ : ∃ w, r[j]? = some w := ⟨_, List.getElem?_eq_getElem hjt⟩
          have hyn := nl_get hy
          have hC := containsInts (nl (forestP E)) (y : Int) (by rw [nl_len]; omega)
          rw [contains_nl] at hC
          have hft := filt_take (fun k => !(forestP E).contains k) hy
          have hfl2 : ((r.take j).filter fun k => !(forestP E).contains k).length ≤ r.length := Nat.le_trans (List.length_filter_le _ _) (by rw [List.length_take]; omega)
          ((refine ggb0 (F := _∧_) ⟨@Int.ofNat_lt, hjt⟩ ?_))
          ((repeat refine AW_seq ?_))
          refine AW_block ?_
          cases hc : (forestP E).contains y
          · rw [hc] at hC
            simp only [hc, Bool.not_false, ↓reduceIte] at hft
            ((refine ggb1 (F := _∧_∧_) ⟨hjt, hyn, hrln⟩ hC ?_))
            refine ⟨(j + 1, t3), hjt, by show r.length - (j + 1) < r.length - j; omega, ?_⟩
            simp only [hft]
            (simp (disch := omega) only [StLe, tmLe, hpLe_refl, hpLe, bl, bb, bt, zDs, zD, eqCells, simprocAttr])
          · rw [hc] at hC
            simp only [hc, Bool.not_true, Bool.false_eq_true, ↓reduceIte, Nat.add_zero] at hft
            ((refine ggb1 (F := _∧_∧_) ⟨hjt, hyn, hrln⟩ hC ?_))
            refine ⟨(j + 1, t3), hjt, by show r.length - (j + 1) < r.length - j; omega, ?_⟩
            simp only [hft]
            (simp (disch := omega) only [StLe, tmLe, hpLe_refl, hpLe, bl, bb, bt, zDs, zD, eqCells, simprocAttr])
        · have hje : j = r.length := by omega
          subst hje
          simp only [List.take_length, hone]
          ((refine ggb0 @Int.lt_irrefl ?_))
          refine ⟨t3, trivial, ?_⟩
          (simp (disch := omega) only [StLe, tmLe, hpLe_refl, hpLe, bl, bb, bt, zDs, zD, eqCells, simprocAttr])
      rintro t3 -
      ((refine gga0 ?_))
      refine ⟨(k + 1, t3), hlt, by show (cyclesP E).length - (k + 1) < (cyclesP E).length - k; omega, ?_⟩
      (simp (disch := omega) only [StLe, tmLe, hpLe_refl, hpLe, bl, bb, bt, zDs, zD, eqCells, simprocAttr])
    · have hke : k = (cyclesP E).length := by omega
      subst hke
      ((refine ggb0 @Int.lt_irrefl ?_))
      refine ⟨t2, trivial, ?_⟩
      (simp (disch := omega) only [StLe, tmLe, hpLe_refl, hpLe, bl, bb, bt, zDs, zD, eqCells, simprocAttr])
  rintro w -
  ((refine gga0 ?_))
  ((repeat refine AW_seq ?_); (refine wta ?_); simp (disch := omega) only [retQ, resD, oneD, rsv, rs, rsL, rsL_eq_map, List.map_map, bb, bt, zDs, zD, eqCells, simprocAttr, Try.results7])
end Go.Proofs.Ytalhegbjlfkipaa.T
