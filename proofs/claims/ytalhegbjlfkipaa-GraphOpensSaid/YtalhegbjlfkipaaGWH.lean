import Derived.Test.YtalhegbjlfkipaaGWG
set_option linter.all false
namespace Go.Proofs.Ytalhegbjlfkipaa.T
open Go Go.RowKit Gr
set_option linter.unusedSimpArgs false

/-! Graphs: the reference's cycles; lists of lists. -/
theorem beq_row (a b : List Int) : (a == b) = decide (a = b) := by rw [Bool.eq_iff_iff]; simp
set_option maxHeartbeats 1000000 in
theorem sameR (a b : List (List Int)) (ha : a.length ≤ 1000000) (hb : b.length ≤ 1000000) (hra : ∀ r ∈ a, r.length ≤ 1000000) :
    PRet Try.prog 20 [mat a, mat b] (bool (a == b)) := by
  refine PRet.intro 1 fun t => ACall.enter tab_ok Try.func20 rfl rfl Try.ntmps20 (by simp) ?_
  simp only [enterTM]
  ((refine wqa ?_))
  by_cases hl : a.length = b.length
  rotate_left 1
  · have e1 : ((a.length : Int) != (b.length : Int)) = true := by rw [bneN]; simpa using hl
    ((refine ggb0 e1 ?_))
    ((repeat refine AW_seq ?_); (refine wta ?_); simp (disch := omega) only [retQ, resD, oneD, rsv, rs, rsL, rsL_eq_map, List.map_map, bb, bt, zDs, zD, eqCells, simprocAttr, Try.results20])
    have : (a == b) = false := by rw [beq_eq_false_iff_ne]; intro h; exact hl (by rw [h])
    rw [this]
  have e1 : ((a.length : Int) != (b.length : Int)) = false := by rw [bneN]; simp [hl]
  ((refine wqb e1 ?_))
  ((refine wia ?_))
  ((refine wsa ?_))
  ((refine wqa ?_))
  ((repeat refine AW_seq ?_))
  refine AW_mid (fun x : Nat => ⟨[], [], x⟩) (fun _ => (a == b) = true) ?_ ?_
  · refine AW_block ?_
    refine AW_loop_w (fun x : Nat × Nat => ⟨[(0, mat a), (1, mat b), (5, int x.1)], [], x.2⟩) (fun x => a.length - x.1) (fun x => x.1 ≤ a.length ∧ (a == b) = (a.drop x.1 == b.drop x.1)) (0, t) ⟨Nat.zero_le _, rfl⟩ (by (simp (disch := omega) only [StLe, tmLe, hpLe_refl, hpLe, bl, bb, bt, zDs, zD, eqCells, simprocAttr])) ?_
    rintro ⟨i, t2⟩ ⟨hi, he⟩
    simp only at hi he
    by_cases hlt : i < a.length
    · have hltb : i < b.length := by omega
      obtain ⟨x, hx⟩ : ∃ y, a[i]? = some y := ⟨_, List.getElem?_eq_getElem hlt⟩
      obtain ⟨y, hy⟩ : ∃ y, b[i]? = some y := ⟨_, List.getElem?_eq_getElem hltb⟩
      have hda : a.drop i = x :: a.drop (i + 1) := by
        obtain ⟨h1, h2⟩ := List.getElem?_eq_some_iff.1 hx
        rw [List.drop_eq_getElem_cons h1, h2]
      have hdb : b.drop i = y :: b.drop (i + 1) := by
        obtain ⟨h1, h2⟩ := List.getElem?_eq_some_iff.1 hy
        rw [List.drop_eq_getElem_cons h1, h2]
      have hrx := hra x (List.mem_of_getElem? hx)
      rw [hda, hdb, List.cons_beq_cons] at he
      ((refine ggb0 (F := _∧_) ⟨@Int.ofNat_lt, hlt⟩ ?_))
      ((repeat refine AW_seq ?_))
      refine AW_block ?_
      ((repeat refine AW_seq ?_); (refine gdzb (F := _∧_∧_∧_) ⟨hlt, hltb, hx, hy⟩ ?_))
      by_cases hxl : x.length = y.length
      rotate_left 1
      · have e2 : ((x.length : Int) != (y.length : Int)) = true := by rw [bneN]; simpa using hxl
        ((refine ggb0 e2 ?_))
        ((repeat refine AW_seq ?_); (refine wta ?_); simp (disch := omega) only [retQ, resD, oneD, rsv, rs, rsL, rsL_eq_map, List.map_map, bb, bt, zDs, zD, eqCells, simprocAttr, Try.results20])
        have : (x == y) = false := by rw [beq_eq_false_iff_ne]; intro h; exact hxl (by rw [h])
        rw [he, this]; rfl
      have e2 : ((x.length : Int) != (y.length : Int)) = false := by rw [bneN]; simp [hxl]
      ((refine wib e2 ?_))
      ((refine wsa ?_))
      ((refine wqa ?_))
      ((repeat refine AW_seq ?_))
      refine AW_block ?_
      refine AW_loop_w (fun z : Nat × Nat => ⟨[(0, mat a), (1, mat b), (5, int i), (6, int z.1)], [], z.2⟩) (fun z => x.length - z.1) (fun z => z.1 ≤ x.length ∧ (x == y) = (x.drop z.1 == y.drop z.1)) (0, t2 + 1) ⟨Nat.zero_le _, rfl⟩ (by (simp (disch := omega) only [StLe, tmLe, hpLe_refl, hpLe, bl, bb, bt, zDs, zD, eqCells, simprocAttr])) ?_
      rintro ⟨k, t3⟩ ⟨hk, hke⟩
      simp only at hk hke
      by_cases hkt : k < x.length
      · have hkty : k < y.length := by omega
        obtain ⟨p, hp⟩ : ∃ y, x[k]? = some y := ⟨_, List.getElem?_eq_getElem hkt⟩
        obtain ⟨q, hq⟩ : ∃ z, y[k]? = some z := ⟨_, List.getElem?_eq_getElem hkty⟩
        have hdx : x.drop k = p :: x.drop (k + 1) := by
          obtain ⟨h1, h2⟩ := List.getElem?_eq_some_iff.1 hp
          rw [List.drop_eq_getElem_cons h1, h2]
        have hdy : y.drop k = q :: y.drop (k + 1) := by
          obtain ⟨h1, h2⟩ := List.getElem?_eq_some_iff.1 hq
          rw [List.drop_eq_getElem_cons h1, h2]
        rw [hdx, hdy, List.cons_beq_cons] at hke
        ((refine ggb0 (F := _∧_∧_∧_) ⟨@Int.ofNat_lt, hlt, hkt, hx⟩ ?_))
        ((repeat refine AW_seq ?_))
        refine AW_block ?_
        ((repeat refine AW_seq ?_); (refine gdzb (F := _∧_∧_∧_∧_∧_∧_∧_) ⟨hlt, hltb, hx, hy, hkt, hkty, hp, hq⟩ ?_))
        by_cases hpq : p = q
        · have e3 : (p != q) = false := by simp [hpq]
          ((refine ggb0 e3 ?_))
          refine ⟨(k + 1, t3 + 1), ⟨hkt, by rw [hke, hpq, beq_self_eq_true, Bool.true_and]⟩, by show x.length - (k + 1) < x.length - k; omega, ?_⟩
          (simp (disch := omega) only [StLe, tmLe, hpLe_refl, hpLe, bl, bb, bt, zDs, zD, eqCells, simprocAttr])
        · have e3 : (p != q) = true := by simpa using hpq
          ((refine ggb0 e3 ?_))
          ((repeat refine AW_seq ?_); (refine wta ?_); simp (disch := omega) only [retQ, resD, oneD, rsv, rs, rsL, rsL_eq_map, List.map_map, bb, bt, zDs, zD, eqCells, simprocAttr, Try.results20])
          rw [he, hke, beq_eq_false_iff_ne.2 hpq]; rfl
      · have hlx : k = x.length := by omega
        subst hlx
        ((refine ggb0 (F := _∧_∧_) ⟨@Int.lt_irrefl, hlt, hx⟩ ?_))
        have hxy : (x == y) = true := by rw [hke, List.drop_eq_nil_of_le (by omega), List.drop_eq_nil_of_le (by omega)]; rfl
        refine ⟨(i + 1, t3), ⟨hlt, by rw [he, hxy, Bool.true_and]⟩, by show a.length - (i + 1) < a.length - i; omega, ?_⟩
        (simp (disch := omega) only [StLe, tmLe, hpLe_refl, hpLe, bl, bb, bt, zDs, zD, eqCells, simprocAttr])
    · have hie : i = a.length := by omega
      subst hie
      ((refine ggb0 @Int.lt_irrefl ?_))
      refine ⟨t2, ?_, by (simp (disch := omega) only [StLe, tmLe, hpLe_refl, hpLe, bl, bb, bt, zDs, zD, eqCells, simprocAttr])⟩
      rw [he, List.drop_eq_nil_of_le (by omega), List.drop_eq_nil_of_le (by omega)]; rfl
  · rintro t2 he
    ((refine gga0 ?_))
    ((repeat refine AW_seq ?_); (refine wta ?_); simp (disch := omega) only [retQ, resD, oneD, rsv, rs, rsL, rsL_eq_map, List.map_map, bb, bt, zDs, zD, eqCells, simprocAttr, Try.results20])
    rw [he]

theorem fzL_app (b g : Nat) (cs x y : List D) : fzL b g cs (x ++ y) = fzL b g cs x ++ fzL b g cs y := by
  simp only [fzL_map, List.map_append]
theorem fz_nl (b g : Nat) (cs : List D) (l : List Nat) : fzL b g cs (nD l) = nD l := fzL_ints b g cs _
noncomputable def cyclesK (E : List (Nat × Nat)) (k : Nat) : List (List Int) := ((List.range k).filter fun k => !inF E k).map fun i => nl (cycleP E i)
theorem cyclesK_end (E : List (Nat × Nat)) : cyclesK E E.length = (cyclesP E).map nl := by
  unfold cyclesK cyclesP restP
  rw [List.map_map]; rfl
theorem cyclesK_step (E : List (Nat × Nat)) (k : Nat) : cyclesK E (k + 1) = if inF E k then cyclesK E k else cyclesK E k ++ [nl (cycleP E k)] := by
  unfold cyclesK
  rw [filt_step]
  cases inF E k <;> simp
theorem cyclesK_len (E : List (Nat × Nat)) (k : Nat) : (cyclesK E k).length ≤ k := by
  unfold cyclesK
  rw [List.length_map]
  exact filt_len _ k
theorem cycle_w {E : List (Nat × Nat)} {i a b : Nat} (h : E[i]? = some (a, b)) : cycleP E i = i :: wayW E (forestP E) a b := by
  unfold cycleP wayW
  rw [h]
theorem way_small {n : Nat} {E : List (Nat × Nat)} (ho : Ok n E) {q : List Nat} {a b : Nat} (ha : a < n) : (wayW E q b a).length ≤ n := by
  by_cases hd : 0 ≤ dist (sub E q) b a
  · obtain ⟨d, h⟩ : ∃ d : Nat, dist (sub E q) b a = d := ⟨(dist (sub E q) b a).toNat, by omega⟩
    have h1 := (way_walk ho d a h ha).2
    obtain ⟨l, h2, h3, h4⟩ := chain (b := b) (ho.sub q) (isFar (sub E q) n b).down d a ha h
    have h5 := nodup_len n l h3 fun y hy => (h4 y hy).1
    have e : (dist (sub E q) b a).toNat = d := by omega
    unfold wayW
    rw [e, h1]
    omega
  · have e : (dist (sub E q) b a).toNat = 0 := by omega
    unfold wayW
    rw [e]; simp [wayP]
theorem forest_lt {E : List (Nat × Nat)} : ∀ k ∈ forestP E, k < E.length := fun _ h => (mem_forest.1 h).1
theorem forest_len (E : List (Nat × Nat)) : (forestP E).length ≤ E.length := filt_len _ _
set_option maxHeartbeats 1000000 in
theorem cyclesR (n : Nat) (E : List (Nat × Nat)) (ho : Ok n E) (hn : n ≤ 1000) (hE : E.length ≤ 4000) :
    PRet Try.prog 30 [int n, eds (edN E)] (mat ((cyclesP E).map nl)) := by
  refine PRet.intro 2 fun t => ACall.enter tab_ok Try.func30 rfl rfl Try.ntmps30 (by simp) ?_
  simp only [enterTM]
  have hdiv : (edC (edN E)).length / 2 = E.length := by rw [edC_div, edN_len]
  have hFo := forestR n E ho hn hE
  rw [← cyclesK_end]
  ((refine wqa ?_))
  ((repeat refine AW_seq ?_); (refine AW_region_k tab_ok fun KR hKR => ?_)); ((refine wra ?_))
  ((refine wka1 hFo ?_))
  ((refine wra ?_)); ((refine wea ?_); (try clear hKR KR))
  ((refine wqa ?_))
  ((repeat refine AW_seq ?_))
  refine AW.begin 6 1 25 rfl (by decide) ?_
  simp only [putTM, List.length_cons, List.length_nil, Nat.reduceEqDiff, ↓reduceIte, List.cons_append, List.nil_append]
  ((refine wqa ?_))
  ((repeat refine AW_seq ?_))
  refine AW_mid (fun x : Nat × Nat => ⟨[(6, .own 1 0 x.1 0 (cyclesK E E.length).length)], [some ⟨25, x.1, (cyclesK E E.length).map ints⟩], x.2⟩) (fun _ => True) ?_ ?_
  · refine AW_block ?_
    refine AW_loop_w (fun x : Nat × Nat × Nat => ⟨[(0, int n), (1, eds (edN E)), (5, ints (nl (forestP E))), (7, int x.1), (6, .own 1 0 x.2.1 0 (cyclesK E x.1).length)], [some ⟨25, x.2.1, (cyclesK E x.1).map ints⟩], x.2.2⟩) (fun x => E.length - x.1) (fun x => x.1 ≤ E.length) (0, t + 1, t + 1) (Nat.zero_le _) (by (simp (disch := omega) only [StLe, tmLe, hpLe_refl, hpLe, bl, bb, bt, zDs, zD, eqCells, simprocAttr, cyclesK, List.range_zero, List.filter_nil, List.length_nil, List.map_nil, forestP])) ?_
    rintro ⟨i, g, tt⟩ hi
    simp only at hi
    by_cases hlt : i < E.length
    · have hst := cyclesK_step E i
      have hle := cyclesK_len E i
      obtain ⟨⟨a, b⟩, he⟩ : ∃ e, E[i]? = some e := ⟨_, List.getElem?_eq_getElem hlt⟩
      obtain ⟨ha, hb, hab⟩ := ho.get he
      have hen := edN_get he
      have g0 := edC_0 hen
      have g1 := edC_1 hen
      simp only at g0 g1
      have hr2 : i * 2 < E.length * 2 := by omega
      have hI := inForestR n E ho hn hE i hlt
      have hFl := forest_len E
      have hW := wayR n E ho hn hE (forestP E) forest_lt (by omega) b a hb ha
      have hcw := cycle_w he
      have hws := way_small ho (q := forestP E) (a := b) (b := a) hb
      have hwn : wayW E (forestP E) a b ≠ [] := fun e => by
        obtain ⟨d, h1, h2, h3⟩ := cycle_way ho he
        have := (way_walk ho d b h1 hb).2
        unfold wayW at e
        rw [show (dist (sub E (forestP E)) a b).toNat = d by omega] at e
        rw [e] at this
        simp only [List.length_nil] at this
        omega
      generalize hPK : cyclesK E i = PK at *
      generalize hWW : wayW E (forestP E) a b = W at *
      ((refine ggb0 (F := _∧_∧_) ⟨@Int.ofNat_lt, hlt, hdiv⟩ ?_))
      ((repeat refine AW_seq ?_))
      refine AW_block ?_
      cases hf : inF E i
      · rw [hf, if_neg (by simp)] at hst
        rw [hf] at hI
        have hne : ¬ (nl W).map int = [] := fun e => hwn (by
          have := congrArg List.length e
          rw [List.length_map, nl_len] at this
          exact List.eq_nil_of_length_eq_zero this)
        have hcl : ((nl W).map int).all isCell = true := by simp [List.all_map, isCell, Value.oneCell']
        have hnl := nl_len W
        ((refine gga1 hI ?_))
        ((repeat refine AW_seq ?_); (refine gdzb1 (F := _∧_∧_∧_∧_) ⟨hr2, edC_len, edN_len, g0, g1⟩ hW ?_))
        ((refine wqb (F := _∧_∧_) ⟨hne, hcl, hnl⟩ ?_))
        have hfin : List.take (1 + W.length) (int i :: (nl W).map int) = int i :: (nl W).map int := List.take_of_length_le (by simp [hnl]; omega)
        have hle3 : 1 + W.length ≤ W.length + 1 := by omega
        have hcn : nl (i :: W) = (i : Int) :: nl W := rfl
        rw [hcw, hcn] at hst
        ((refine AW.freeze (1) (by first | rfl | (simp only [setH, List.getElem?_cons_zero, List.getElem?_cons_succ, fzL_app, fzL_mat, fzL_ints, fz_ed, hfin, hle3, hnl, List.length_map]; done)) ?_); simp (disch := omega) only [fzT, fz, fzL, fzL_ints, fzL_mat, fzH, fzB, eq_self, bb, bt, zDs, zD, eqCells, simprocAttr, fzL_app, fzL_mat, fzL_ints, fz_ed, hfin, hle3, hnl, List.length_map])
        ((refine gga0 ?_))
        refine ⟨(i + 1, tt + 1 + 1 + 1, tt + 1 + 1 + 1), hlt, by show E.length - (i + 1) < E.length - i; omega, ?_⟩
        simp only [hst, List.length_append, List.length_cons, List.length_nil, List.map_append, List.map_cons, List.map_nil]
        (simp (disch := omega) only [StLe, tmLe, hpLe_refl, hpLe, bl, bb, bt, zDs, zD, eqCells, simprocAttr])
        exact .inr rfl
      · rw [hf, if_pos rfl] at hst
        rw [hf] at hI
        ((refine gga1 hI ?_))
        refine ⟨(i + 1, g, tt), hlt, by show E.length - (i + 1) < E.length - i; omega, ?_⟩
        simp only [hst]
        (simp (disch := omega) only [StLe, tmLe, hpLe_refl, hpLe, bl, bb, bt, zDs, zD, eqCells, simprocAttr])
    · have hke : i = E.length := by omega
      subst hke
      ((refine ggb0 (F := _∧_) ⟨@Int.lt_irrefl, hdiv⟩ ?_))
      exact ⟨(g, tt), trivial, by (simp (disch := omega) only [StLe, tmLe, hpLe_refl, hpLe, bl, bb, bt, zDs, zD, eqCells, simprocAttr])⟩
  rintro ⟨g, tt⟩ -
  ((refine gga0 ?_))
  ((repeat refine AW_seq ?_); (refine wta ?_); simp (disch := omega) only [retQ, resD, oneD, bb, bt, zDs, zD, eqCells, simprocAttr, Try.results30])
  exact rsv_mat rfl rfl 0
end Go.Proofs.Ytalhegbjlfkipaa.T
