import Derived.Test.YtalhegbjlfkipaaGWB
import Derived.Test.YtalhegbjlfkipaaWU
set_option linter.all false
namespace Go.Proofs.Ytalhegbjlfkipaa.T
open Go Go.RowKit Gr
set_option linter.unusedSimpArgs false

/-! Graphs: small functions. -/
def nl (l : List Nat) : List Int := l.map fun k : Nat => (k : Int)
theorem nl_len (l : List Nat) : (nl l).length = l.length := by simp [nl]
theorem nl_app (l m : List Nat) : nl (l ++ m) = nl l ++ nl m := by simp [nl]
theorem nl_one (k : Nat) : nl [k] = [(k : Int)] := rfl
theorem nl_get {l : List Nat} {i k : Nat} (h : l[i]? = some k) : (nl l)[i]? = some (k : Int) := by simp [nl, h]
theorem nl_mem {l : List Nat} {k : Nat} : (nl l).contains (k : Int) = l.contains k := by
  rw [Bool.eq_iff_iff, List.contains_iff_mem, List.contains_iff_mem]
  simp only [nl, List.mem_map]
  constructor
  · rintro ⟨a, ha, e⟩
    have : a = k := by omega
    exact this ▸ ha
  · exact fun h => ⟨k, h, rfl⟩
theorem nl_inj {l m : List Nat} : nl l = nl m ↔ l = m := by
  constructor
  · intro h
    have := congrArg (List.map Int.toNat) h
    simpa [nl, Function.comp_def] using this
  · rintro rfl; rfl
theorem plainL_ints (l : List Int) : plainL (l.map int) = true := by
  induction l with
  | nil => rfl
  | cons x l ih => simp only [List.map_cons, plainL, plainD, ih, Bool.and_self]
theorem rs_int (R : D → D) (H : Hp) (l : List Int) : (l.map int).map (rs R H) = l.map int := by
  rw [List.map_map]
  exact List.map_congr_left fun x _ => rfl
theorem rsv_ints {H : Hp} {b g n : Nat} {ty : TypeId} {l : List Int} (hb : H[b]? = some (some ⟨ty, g, l.map int⟩)) (hn : n = l.length) (k : Nat) : rsv H (k + 2) (.own 1 b g 0 n) = ints l := by
  subst hn
  simp only [rsv, rs, hb, if_true, rsL_eq_map]
  rw [List.drop_zero, Nat.mul_one, List.take_of_length_le (by simp)]
  have : ∀ j, (l.map int).map (rsv H (j + 1)) = l.map int := fun j => by
    simp only [rsv]; rw [← rs_int (rsv H j) H l]; simp [Function.comp_def, rs]
  simp
  refine fun a _ => ?_
  cases k <;> simp [rsv, rs]
theorem otherG (x y a : Int) (hx : 0 ≤ x ∧ x ≤ 1000000) (hy : 0 ≤ y ∧ y ≤ 1000000) (ha : 0 ≤ a ∧ a ≤ 1000000) : PRet Try.prog 40 [.agg [int x, int y], int a] (int (x + y - a)) := by
  refine PRet.intro 1 fun t => ACall.enter tab_ok Try.func40 rfl rfl Try.ntmps40 (by simp) ?_
  simp only [enterTM]
  ((refine gga0 ?_))
  ((repeat refine AW_seq ?_); (refine wta ?_); simp (disch := omega) only [retQ, resD, oneD, rsv, rs, rsL, rsL_eq_map, List.map_map, bb, bt, zDs, zD, eqCells, simprocAttr, Try.results40])
theorem otherR (x y a : Int) : PRet Try.prog 60 [.agg [int x, int y], int a] (int (if x = a then y else if y = a then x else -1)) := by
  refine PRet.intro 1 fun t => ACall.enter tab_ok Try.func60 rfl rfl Try.ntmps60 (by simp) ?_
  simp only [enterTM]
  by_cases h1 : x = a
  · have e1 : (x == a) = true := by simp [h1]
    ((refine ggb0 e1 ?_))
    ((repeat refine AW_seq ?_); (refine wta ?_); simp (disch := omega) only [retQ, resD, oneD, rsv, rs, rsL, rsL_eq_map, List.map_map, bb, bt, zDs, zD, eqCells, simprocAttr, Try.results60])
  · have e1 : (x == a) = false := by simpa using h1
    by_cases h2 : y = a
    · have e2 : (y == a) = true := by simp [h2]
      ((refine ggb0 (F := _∧_) ⟨e1, e2⟩ ?_))
      ((repeat refine AW_seq ?_); (refine wta ?_); simp (disch := omega) only [retQ, resD, oneD, rsv, rs, rsL, rsL_eq_map, List.map_map, bb, bt, zDs, zD, eqCells, simprocAttr, Try.results60])
    · have e2 : (y == a) = false := by simpa using h2
      ((refine ggb0 (F := _∧_) ⟨e1, e2⟩ ?_))
      ((repeat refine AW_seq ?_); (refine wta ?_); simp (disch := omega) only [retQ, resD, oneD, rsv, rs, rsL, rsL_eq_map, List.map_map, bb, bt, zDs, zD, eqCells, simprocAttr, Try.results60])
/-- The places of the elements that are as asked. -/
def idsP (l : List Bool) (w : Bool) (k : Nat) : List Nat := (List.range k).filter fun i => l.getD i false == w
theorem idsP_step (l : List Bool) (w : Bool) {k : Nat} {b : Bool} (h : l[k]? = some b) : idsP l w (k + 1) = if b == w then idsP l w k ++ [k] else idsP l w k := by
  unfold idsP
  rw [List.range_succ, List.filter_append]
  have : l.getD k false = b := by simp [List.getD_eq_getElem?_getD, h]
  simp only [List.filter_cons, List.filter_nil, this]
  cases (b == w) <;> simp
theorem indicesB (l : List Bool) (w : Bool) (hl : l.length ≤ 1000000) : PRet Try.prog 41 [.sl 1 (l.map bool) false, bool w] (ints (nl (idsP l w l.length))) := by
  refine PRet.intro 2 fun t => ACall.enter tab_ok Try.func41 rfl rfl Try.ntmps41 (by simp) ?_
  simp only [enterTM]
  have hz0 : idsP l w 0 = [] := rfl
  ((refine wqa ?_))
  ((refine wqa ?_))
  ((repeat refine AW_seq ?_))
  refine AW.begin 5 1 3 rfl (by decide) ?_
  simp only [putTM, List.length_cons, List.length_nil, Nat.reduceEqDiff, ↓reduceIte, List.cons_append, List.nil_append]
  ((refine wqa ?_))
  ((repeat refine AW_seq ?_))
  refine AW_mid (fun x : Nat × Nat => ⟨[(5, .own 1 0 x.1 0 (idsP l w l.length).length)], [some ⟨3, x.1, (nl (idsP l w l.length)).map int⟩], x.2⟩) (fun _ => True) ?_ ?_
  · refine AW_block ?_
    refine AW_loop_w (fun x : Nat × Nat × Nat => ⟨[(1, bool w), (8, .sl 1 (l.map bool) false), (9, int l.length), (10, int x.1), (5, .own 1 0 x.2.1 0 (idsP l w x.1).length)], [some ⟨3, x.2.1, (nl (idsP l w x.1)).map int⟩], x.2.2⟩) (fun x => l.length - x.1) (fun x => x.1 ≤ l.length) (0, t + 1, t + 1) (Nat.zero_le _) (by (simp (disch := omega) only [StLe, tmLe, hpLe_refl, hpLe, bl, bb, bt, zDs, zD, eqCells, simprocAttr, hz0, nl, List.map_nil, List.length_nil])) ?_
    rintro ⟨k, g, tt⟩ hk
    simp only at hk
    by_cases hlt : k < l.length
    · obtain ⟨b, hb⟩ : ∃ y, l[k]? = some y := ⟨_, List.getElem?_eq_getElem hlt⟩
      have hst := idsP_step l w hb
      have hle : (idsP l w k).length ≤ k := by unfold idsP; exact Nat.le_trans (List.length_filter_le _ _) (by simp)
      have hnl := nl_len (idsP l w k)
      have hpu : nl (idsP l w k ++ [k]) = nl (idsP l w k) ++ [(k : Int)] := by rw [nl_app, nl_one]
      generalize idsP l w k = L at *
      ((refine ggb0 (F := _∧_) ⟨@Int.ofNat_lt, hlt⟩ ?_))
      ((repeat refine AW_seq ?_))
      refine AW_block ?_
      cases hbw : (b == w)
      · rw [hbw, if_neg (by simp)] at hst
        ((refine ggb0 (F := _∧_∧_) ⟨hlt, hb, hbw⟩ ?_))
        refine ⟨(k + 1, g, tt), hlt, by show l.length - (k + 1) < l.length - k; omega, ?_⟩
        simp only [hst]
        (simp (disch := omega) only [StLe, tmLe, hpLe_refl, hpLe, bl, bb, bt, zDs, zD, eqCells, simprocAttr])
      · rw [hbw, if_pos rfl] at hst
        ((refine ggb0 (F := _∧_∧_∧_) ⟨hlt, hb, hbw, hnl⟩ ?_))
        refine ⟨(k + 1, tt + 1, tt + 1), hlt, by show l.length - (k + 1) < l.length - k; omega, ?_⟩
        simp only [hst, hpu, List.length_append, List.length_cons, List.length_nil, List.map_append, List.map_cons, List.map_nil]
        (simp (disch := omega) only [StLe, tmLe, hpLe_refl, hpLe, bl, bb, bt, zDs, zD, eqCells, simprocAttr])
    · have hke : k = l.length := by omega
      subst hke
      ((refine ggb0 @Int.lt_irrefl ?_))
      exact ⟨(g, tt), trivial, by (simp (disch := omega) only [StLe, tmLe, hpLe_refl, hpLe, bl, bb, bt, zDs, zD, eqCells, simprocAttr])⟩
  rintro ⟨g, tt⟩ -
  generalize idsP l w l.length = L
  ((refine gga0 ?_))
  ((repeat refine AW_seq ?_); (refine wta ?_); simp (disch := omega) only [retQ, resD, oneD, bb, bt, zDs, zD, eqCells, simprocAttr, Try.results41])
  exact rsv_ints rfl (nl_len L).symm 0
theorem allR (l : List (Int × Int)) (hl : l.length ≤ 1000000) : PRet Try.prog 45 [eds l] (ints (nl (List.range l.length))) := by
  refine PRet.intro 2 fun t => ACall.enter tab_ok Try.func45 rfl rfl Try.ntmps45 (by simp) ?_
  simp only [enterTM]
  ((refine wqa ?_))
  ((refine wqa ?_))
  ((repeat refine AW_seq ?_))
  refine AW.begin 3 1 3 rfl (by decide) ?_
  simp only [putTM, List.length_cons, List.length_nil, Nat.reduceEqDiff, ↓reduceIte, List.cons_append, List.nil_append]
  ((refine wqa ?_))
  ((repeat refine AW_seq ?_))
  refine AW_mid (fun x : Nat × Nat => ⟨[(3, .own 1 0 x.1 0 l.length)], [some ⟨3, x.1, (nl (List.range l.length)).map int⟩], x.2⟩) (fun _ => True) ?_ ?_
  · refine AW_block ?_
    refine AW_loop_w (fun x : Nat × Nat × Nat => ⟨[(0, eds l), (3, .own 1 0 x.2.1 0 x.1), (4, int x.1)], [some ⟨3, x.2.1, (nl (List.range x.1)).map int⟩], x.2.2⟩) (fun x => l.length - x.1) (fun x => x.1 ≤ l.length) (0, t + 1, t + 1) (Nat.zero_le _) (by (simp (disch := omega) only [StLe, tmLe, hpLe_refl, hpLe, bl, bb, bt, zDs, zD, eqCells, simprocAttr, List.range_zero, nl, List.map_nil, List.length_nil])) ?_
    rintro ⟨k, g, tt⟩ hk
    simp only at hk
    by_cases hlt : k < l.length
    · have hnl : (nl (List.range k)).length = k := by simp [nl_len]
      have hpu : nl (List.range (k + 1)) = nl (List.range k) ++ [(k : Int)] := by rw [List.range_succ, nl_app, nl_one]
      generalize nl (List.range k) = L at *
      ((refine ggb0 (F := _∧_∧_) ⟨@Int.ofNat_lt, hlt, edC_div⟩ ?_))
      ((repeat refine AW_seq ?_))
      refine AW_block ?_
      ((refine ggb0 (F := _∧_) ⟨hlt, hnl⟩ ?_))
      refine ⟨(k + 1, tt + 1, tt + 1), hlt, by show l.length - (k + 1) < l.length - k; omega, ?_⟩
      simp only [hpu, List.length_append, List.length_cons, List.length_nil, List.map_append, List.map_cons, List.map_nil]
      (simp (disch := omega) only [StLe, tmLe, hpLe_refl, hpLe, bl, bb, bt, zDs, zD, eqCells, simprocAttr])
    · have hke : k = l.length := by omega
      subst hke
      ((refine ggb0 (F := _∧_) ⟨@Int.lt_irrefl, edC_div⟩ ?_))
      exact ⟨(g, tt), trivial, by (simp (disch := omega) only [StLe, tmLe, hpLe_refl, hpLe, bl, bb, bt, zDs, zD, eqCells, simprocAttr])⟩
  rintro ⟨g, tt⟩ -
  have hnl : (nl (List.range l.length)).length = l.length := by simp [nl_len]
  ((refine gga0 ?_))
  ((repeat refine AW_seq ?_); (refine wta ?_); simp (disch := omega) only [retQ, resD, oneD, bb, bt, zDs, zD, eqCells, simprocAttr, Try.results45])
  exact rsv_ints rfl hnl.symm 0
/-- All are numbers of edges. -/
def indsP (n : Nat) (q : List Int) : Bool := q.all fun x => decide (0 ≤ x) && decide (x < n)
theorem indsR (l : List (Int × Int)) (q : List Int) (hl : l.length ≤ 1000000) (hq : q.length ≤ 1000000) : PRet Try.prog 31 [eds l, ints q] (bool (indsP l.length q)) := by
  refine PRet.intro 1 fun t => ACall.enter tab_ok Try.func31 rfl rfl Try.ntmps31 (by simp) ?_
  simp only [enterTM]
  ((refine wqa ?_))
  ((refine wqa ?_))
  ((repeat refine AW_seq ?_))
  refine AW_mid (fun x : Nat => ⟨[], [], x⟩) (fun _ => indsP l.length q = true) ?_ ?_
  · refine AW_block ?_
    refine AW_loop_w (fun k : Nat => ⟨[(0, eds l), (1, ints q), (5, int k)], [], t⟩) (fun k => q.length - k) (fun k => k ≤ q.length ∧ indsP l.length q = indsP l.length (q.drop k)) 0 ⟨Nat.zero_le _, rfl⟩ (by (simp (disch := omega) only [StLe, tmLe, hpLe_refl, hpLe, bl, bb, bt, zDs, zD, eqCells, simprocAttr])) ?_
    rintro k ⟨hk, he⟩
    by_cases hlt : k < q.length
    · obtain ⟨x, hx⟩ : ∃ y, q[k]? = some y := ⟨_, List.getElem?_eq_getElem hlt⟩
      have hd : q.drop k = x :: q.drop (k + 1) := by
        obtain ⟨h1, h2⟩ := List.getElem?_eq_some_iff.1 hx
        rw [List.drop_eq_getElem_cons h1, h2]
      rw [hd] at he
      simp only [indsP, List.all_cons] at he
      ((refine ggb0 (F := _∧_) ⟨@Int.ofNat_lt, hlt⟩ ?_))
      ((repeat refine AW_seq ?_))
      refine AW_block ?_
      by_cases h1 : x < 0
      · ((refine ggb0 (F := _∧_∧_) ⟨hlt, hx, h1⟩ ?_))
        ((repeat refine AW_seq ?_); (refine wta ?_); simp (disch := omega) only [retQ, resD, oneD, rsv, rs, rsL, rsL_eq_map, List.map_map, bb, bt, zDs, zD, eqCells, simprocAttr, Try.results31])
        have : ¬ 0 ≤ x := by omega
        simp only [indsP, he, this, decide_false, Bool.false_and]
      · by_cases h2 : (l.length : Int) ≤ x
        · ((refine ggb0 (F := _∧_∧_∧_∧_) ⟨hlt, hx, h1, h2, edC_div⟩ ?_))
          ((repeat refine AW_seq ?_); (refine wta ?_); simp (disch := omega) only [retQ, resD, oneD, rsv, rs, rsL, rsL_eq_map, List.map_map, bb, bt, zDs, zD, eqCells, simprocAttr, Try.results31])
          have : ¬ x < l.length := by omega
          simp only [indsP, he, this, decide_false, Bool.false_and, Bool.and_false]
        · ((refine ggb0 (F := _∧_∧_∧_∧_) ⟨hlt, hx, h1, h2, edC_div⟩ ?_))
          have a1 : 0 ≤ x := by omega
          have a2 : x < l.length := by omega
          refine ⟨k + 1, ⟨hlt, by simp only [indsP, he, a1, a2, decide_true, Bool.true_and]⟩, by show q.length - (k + 1) < q.length - k; omega, ?_⟩
          (simp (disch := omega) only [StLe, tmLe, hpLe_refl, hpLe, bl, bb, bt, zDs, zD, eqCells, simprocAttr])
    · ((refine ggb0 (F := _∧_) ⟨@Int.ofNat_lt, hlt⟩ ?_))
      refine ⟨t, ?_, by (simp (disch := omega) only [StLe, tmLe, hpLe_refl, hpLe, bl, bb, bt, zDs, zD, eqCells, simprocAttr])⟩
      rw [he, List.drop_eq_nil_of_le (by omega)]; rfl
  · rintro tt hr
    ((refine gga0 ?_))
    ((repeat refine AW_seq ?_); (refine wta ?_); simp (disch := omega) only [retQ, resD, oneD, rsv, rs, rsL, rsL_eq_map, List.map_map, bb, bt, zDs, zD, eqCells, simprocAttr, Try.results31])
    rw [hr]
/-- Small enough for the statements that compare with the reference. -/
def largeP (n : Int) (m : Nat) : Bool := (decide (30 < n) && decide (n ≤ 1000)) || (decide (40 < m) && decide (m ≤ 4000)) || decide (4010 < m)
set_option maxHeartbeats 4000000 in
theorem large (n : Int) (l : List (Int × Int)) : PRet Try.prog 10 [int n, eds l] (bool (largeP n l.length)) := by
  refine PRet.intro 1 fun t => ACall.enter tab_ok Try.func10 rfl rfl Try.ntmps10 (by simp) ?_
  simp only [enterTM]
  have c1 : decide ((40 : Int) < (l.length : Int)) = decide (40 < l.length) := by rw [decide_eq_decide]; omega
  have c2 : decide ((l.length : Int) ≤ 4000) = decide (l.length ≤ 4000) := by rw [decide_eq_decide]; omega
  have c3 : decide ((4010 : Int) < (l.length : Int)) = decide (4010 < l.length) := by rw [decide_eq_decide]; omega
  unfold largeP
  generalize decide (40 < l.length) = e3 at *
  generalize decide (l.length ≤ 4000) = e4 at *
  generalize decide (4010 < l.length) = e5 at *
  cases e1 : decide (30 < n)
  · cases e3
    · cases e5
      · ((((refine ggb0 (F := _∧_∧_∧_) ⟨e1, c1, c3, edC_div⟩ ?_))); (((repeat refine AW_seq ?_); (refine wta ?_); simp (disch := omega) only [retQ, resD, oneD, rsv, rs, rsL, rsL_eq_map, List.map_map, bb, bt, zDs, zD, eqCells, simprocAttr, Try.results10])); (try simp))
      · ((((refine ggb0 (F := _∧_∧_∧_) ⟨e1, c1, c3, edC_div⟩ ?_))); (((repeat refine AW_seq ?_); (refine wta ?_); simp (disch := omega) only [retQ, resD, oneD, rsv, rs, rsL, rsL_eq_map, List.map_map, bb, bt, zDs, zD, eqCells, simprocAttr, Try.results10])); (try simp))
    · cases e4
      · cases e5
        · ((((refine ggb0 (F := _∧_∧_∧_∧_) ⟨e1, c1, c2, c3, edC_div⟩ ?_))); (((repeat refine AW_seq ?_); (refine wta ?_); simp (disch := omega) only [retQ, resD, oneD, rsv, rs, rsL, rsL_eq_map, List.map_map, bb, bt, zDs, zD, eqCells, simprocAttr, Try.results10])); (try simp))
        · ((((refine ggb0 (F := _∧_∧_∧_∧_) ⟨e1, c1, c2, c3, edC_div⟩ ?_))); (((repeat refine AW_seq ?_); (refine wta ?_); simp (disch := omega) only [retQ, resD, oneD, rsv, rs, rsL, rsL_eq_map, List.map_map, bb, bt, zDs, zD, eqCells, simprocAttr, Try.results10])); (try simp))
      · ((((refine ggb0 (F := _∧_∧_∧_) ⟨e1, c1, c2, edC_div⟩ ?_))); (((repeat refine AW_seq ?_); (refine wta ?_); simp (disch := omega) only [retQ, resD, oneD, rsv, rs, rsL, rsL_eq_map, List.map_map, bb, bt, zDs, zD, eqCells, simprocAttr, Try.results10])); (try simp))
  · cases e2 : decide (n ≤ 1000)
    · cases e3
      · cases e5
        · ((((refine ggb0 (F := _∧_∧_∧_∧_) ⟨e1, e2, c1, c3, edC_div⟩ ?_))); (((repeat refine AW_seq ?_); (refine wta ?_); simp (disch := omega) only [retQ, resD, oneD, rsv, rs, rsL, rsL_eq_map, List.map_map, bb, bt, zDs, zD, eqCells, simprocAttr, Try.results10])); (try simp))
        · ((((refine ggb0 (F := _∧_∧_∧_∧_) ⟨e1, e2, c1, c3, edC_div⟩ ?_))); (((repeat refine AW_seq ?_); (refine wta ?_); simp (disch := omega) only [retQ, resD, oneD, rsv, rs, rsL, rsL_eq_map, List.map_map, bb, bt, zDs, zD, eqCells, simprocAttr, Try.results10])); (try simp))
      · cases e4
        · cases e5
          · ((((refine ggb0 (F := _∧_∧_∧_∧_∧_) ⟨e1, e2, c1, c2, c3, edC_div⟩ ?_))); (((repeat refine AW_seq ?_); (refine wta ?_); simp (disch := omega) only [retQ, resD, oneD, rsv, rs, rsL, rsL_eq_map, List.map_map, bb, bt, zDs, zD, eqCells, simprocAttr, Try.results10])); (try simp))
          · ((((refine ggb0 (F := _∧_∧_∧_∧_∧_) ⟨e1, e2, c1, c2, c3, edC_div⟩ ?_))); (((repeat refine AW_seq ?_); (refine wta ?_); simp (disch := omega) only [retQ, resD, oneD, rsv, rs, rsL, rsL_eq_map, List.map_map, bb, bt, zDs, zD, eqCells, simprocAttr, Try.results10])); (try simp))
        · ((((refine ggb0 (F := _∧_∧_∧_∧_) ⟨e1, e2, c1, c2, edC_div⟩ ?_))); (((repeat refine AW_seq ?_); (refine wta ?_); simp (disch := omega) only [retQ, resD, oneD, rsv, rs, rsL, rsL_eq_map, List.map_map, bb, bt, zDs, zD, eqCells, simprocAttr, Try.results10])); (try simp))
    · ((((refine ggb0 (F := _∧_∧_) ⟨e1, e2, edC_div⟩ ?_))); (((repeat refine AW_seq ?_); (refine wta ?_); simp (disch := omega) only [retQ, resD, oneD, rsv, rs, rsL, rsL_eq_map, List.map_map, bb, bt, zDs, zD, eqCells, simprocAttr, Try.results10])); (try simp))
set_option maxHeartbeats 1000000 in
theorem right (n : Int) (l : List (Int × Int)) (hl : l.length ≤ 1000000) : PRet Try.prog 23 [int n, eds l] (bool ((decide (n ≤ 30) && decide (l.length ≤ 40)) && validG n l)) := by
  refine PRet.intro 1 fun t => ACall.enter tab_ok Try.func23 rfl rfl Try.ntmps23 (by simp) ?_
  simp only [enterTM]
  have hV := refValid n l hl
  have c1 : decide ((l.length : Int) ≤ 40) = decide (l.length ≤ 40) := by rw [decide_eq_decide]; omega
  generalize decide (l.length ≤ 40) = e3 at *
  generalize validG n l = v at *
  cases e1 : decide (n ≤ 30) <;> cases e3 <;> ((((refine ggb1 (F := _∧_∧_) ⟨e1, c1, edC_div⟩ hV ?_))); (((repeat refine AW_seq ?_); (refine wta ?_); simp (disch := omega) only [retQ, resD, oneD, rsv, rs, rsL, rsL_eq_map, List.map_map, bb, bt, zDs, zD, eqCells, simprocAttr, Try.results23])); try rfl)
end Go.Proofs.Ytalhegbjlfkipaa.T
