import Derived.Test.YtalhegbjlfkipaaGWR
set_option linter.all false
namespace Go.Proofs.Ytalhegbjlfkipaa.T
open Go Go.RowKit Gr
set_option linter.unusedSimpArgs false

/-! Graphs: Cycle of the program. -/
def mbC : List Int → List D
  | [] => []
  | x :: l => int x :: bool true :: mbC l
theorem mfind_mb : ∀ (l : List Int) (x : Int), mfind (.int .i64 x) (mbC l) = some (if l.contains x then some (.bool true) else none)
  | [], x => rfl
  | y :: l, x => by
    have ih := mfind_mb l x
    rw [List.contains_cons]
    cases h : (x == y)
    · simp only [mbC, mfind, keyEq, h, if_true, Bool.false_or]
      exact ih
    · simp only [mbC, mfind, keyEq, h, if_true, Bool.true_or]
theorem mput_no' : ∀ (l : List Int) (x : Int), l.contains x = false → mput (.int .i64 x) (.bool true) (mbC l) = mbC (l ++ [x])
  | [], x, _ => rfl
  | y :: l, x, h => by
    rw [List.contains_cons, Bool.or_eq_false_iff] at h
    have ih := mput_no' l x h.2
    simp only [mbC, mput, keyEq, h.1, if_true, List.cons_append, Option.some.injEq, Bool.false_eq_true, if_false]
    rw [ih]
theorem mput_yes' : ∀ (l : List Int) (x : Int), l.contains x = true → mput (.int .i64 x) (.bool true) (mbC l) = mbC l
  | [], x, h => by simp at h
  | y :: l, x, h => by
    rw [List.contains_cons] at h
    cases e : (x == y)
    · rw [e, Bool.false_or] at h
      have ih := mput_yes' l x h
      simp only [mbC, mput, keyEq, e, if_true, Option.some.injEq, Bool.false_eq_true, if_false]
      rw [ih]
    · have : x = y := by simpa using e
      subst this
      simp only [mbC, mput, keyEq, e, if_true]
theorem contains_nl (l : List Nat) (x : Nat) : (nl l).contains (x : Int) = l.contains x := nl_mem
set_option maxHeartbeats 1000000 in
theorem roundG (n : Nat) (E : List (Nat × Nat)) (ho : Ok n E) (hn : n ≤ 1000) (hE : E.length ≤ 4000) (l : List Nat) (hl : ∀ k ∈ l, k < E.length) (hll : l.length ≤ 1000) (fr : Nat) (hfr : fr < n) :
    PRet Try.prog 55 [eds (edN E), ints (nl l), int fr] (bool (roundP E fr l [] fr)) := by
  refine PRet.intro 1 fun t => ACall.enter tab_ok Try.func55 rfl rfl Try.ntmps55 (by simp) ?_
  simp only [enterTM]
  have hlnl := nl_len l
  ((refine wqa ?_))
  ((refine wqa ?_))
  ((refine wqa ?_))
  ((refine wqb hlnl ?_))
  ((repeat refine AW_seq ?_))
  refine AW_mid (fun x : Nat × Nat => ⟨[(2, int fr), (8, int x.1)], [], x.2⟩) (fun x => roundP E fr l [] fr = (x.1 == fr)) ?_ ?_
  · refine AW_block ?_
    refine AW_loop_w (fun x : (Nat × List Nat × Nat) × Nat => ⟨[(0, eds (edN E)), (2, int fr), (7, .mp 0 (t + 1)), (8, int x.1.2.2), (14, ints (nl l)), (15, int l.length), (16, int x.1.1)], [some ⟨75, t + 1, mbC (nl x.1.2.1)⟩], x.2⟩) (fun x => l.length - x.1.1)
      (fun x => x.1.1 ≤ l.length ∧ x.1.2.2 < n ∧ roundP E fr l [] fr = roundP E fr (l.drop x.1.1) x.1.2.1 x.1.2.2) ((0, [], fr), t + 1) ⟨Nat.zero_le _, hfr, rfl⟩ (by (simp (disch := omega) only [StLe, tmLe, hpLe_refl, hpLe, bl, bb, bt, zDs, zD, eqCells, simprocAttr, mbC, nl, List.map_nil])) ?_
    rintro ⟨⟨k, seen, at_⟩, tt⟩ ⟨hk, hat, hres⟩
    simp only at hk hat hres
    by_cases hlt : k < l.length
    · obtain ⟨i, hi⟩ : ∃ y, l[k]? = some y := ⟨_, List.getElem?_eq_getElem hlt⟩
      have hiE := hl i (List.mem_of_getElem? hi)
      obtain ⟨⟨u, v⟩, he⟩ : ∃ y, E[i]? = some y := ⟨_, List.getElem?_eq_getElem hiE⟩
      obtain ⟨hun, hvn, huv⟩ := ho.get he
      have hdk : l.drop k = i :: l.drop (k + 1) := by
        obtain ⟨h1, h2⟩ := List.getElem?_eq_some_iff.1 hi
        rw [List.drop_eq_getElem_cons h1, h2]
      have hen := edN_get he
      have hqn := nl_get hi
      have hr2 : i * 2 < E.length * 2 := by omega
      have hr3 : i * 2 + 2 ≤ E.length * 2 := by omega
      have hrd := edC_read _ _ _ hen
      simp only at hrd
      have hf := mfind_mb (nl seen) at_
      rw [contains_nl] at hf
      have b1 := bneN u at_
      have b2 := bneN v at_
      rw [hdk] at hres
      ((refine ggb0 (F := _∧_) ⟨@Int.ofNat_lt, hlt⟩ ?_))
      ((repeat refine AW_seq ?_))
      refine AW_block ?_
      ((refine wqb (F := _∧_∧_) ⟨hlt, hqn, hlnl⟩ ?_))
      ((refine wqb (F := _∧_∧_∧_∧_) ⟨hr2, hr3, edC_len, edN_len, hrd⟩ ?_))
      cases hc : seen.contains at_
      rotate_left 1
      · rw [hc, if_pos rfl] at hf
        ((refine ggb0 hf ?_))
        ((repeat refine AW_seq ?_); (refine wta ?_); simp (disch := omega) only [retQ, resD, oneD, rsv, rs, rsL, rsL_eq_map, List.map_map, bb, bt, zDs, zD, eqCells, simprocAttr, Try.results55])
        rw [hres, round_seen (by simp) (by simpa using hc)]
      rw [hc, if_neg (by simp)] at hf
      have hnm : at_ ∉ seen := by simpa using hc
      have hp := mput_no' (nl seen) at_ (by rw [contains_nl]; exact hc)
      have happ : nl seen ++ [(at_ : Int)] = nl (seen ++ [at_]) := by rw [nl_app, nl_one]
      rw [happ] at hp
      have fin : ∀ y, oth E i at_ = some y → roundP E fr l [] fr = roundP E fr (l.drop (k + 1)) (seen ++ [at_]) y := fun y hy => by
        rw [hres]
        conv => lhs; unfold roundP
        rw [hy]
        simp only [hc, Bool.not_false, Bool.true_and]
        exact round_congr _ _ _ _ _ _ fun x => by simp [or_comm]
      have hO := fun y (hy : oth E i at_ = some y) => by
        have := otherG (u : Int) (v : Int) (at_ : Int) (by omega) (by omega) (by omega)
        rw [oth_sum ho he hy] at this
        exact this
      by_cases h1 : u = at_
      · have e1 : ((u : Int) != (at_ : Int)) = false := by rw [b1]; simp [h1]
        have hy : oth E i at_ = some v := by unfold oth; rw [he]; simp [h1]
        have hO1 := hO v hy
        ((refine ggb1 (F := _∧_∧_) ⟨hf, e1, hp⟩ hO1 ?_))
        refine ⟨((k + 1, seen ++ [at_], v), tt + 1), ⟨hlt, hvn, fin v hy⟩, by show l.length - (k + 1) < l.length - k; omega, ?_⟩
        (simp (disch := omega) only [StLe, tmLe, hpLe_refl, hpLe, bl, bb, bt, zDs, zD, eqCells, simprocAttr])
      · have e1 : ((u : Int) != (at_ : Int)) = true := by rw [b1]; simpa using h1
        by_cases h2 : v = at_
        · have e2 : ((v : Int) != (at_ : Int)) = false := by rw [b2]; simp [h2]
          have hy : oth E i at_ = some u := by unfold oth; rw [he]; simp [h1, h2]
          have hO1 := hO u hy
          ((refine ggb1 (F := _∧_∧_∧_) ⟨hf, e1, e2, hp⟩ hO1 ?_))
          refine ⟨((k + 1, seen ++ [at_], u), tt + 1), ⟨hlt, hun, fin u hy⟩, by show l.length - (k + 1) < l.length - k; omega, ?_⟩
          (simp (disch := omega) only [StLe, tmLe, hpLe_refl, hpLe, bl, bb, bt, zDs, zD, eqCells, simprocAttr])
        · have e2 : ((v : Int) != (at_ : Int)) = true := by rw [b2]; simpa using h2
          have hy : oth E i at_ = none := by unfold oth; rw [he]; simp [h1, h2]
          ((refine ggb0 (F := _∧_∧_) ⟨hf, e1, e2⟩ ?_))
          ((repeat refine AW_seq ?_); (refine wta ?_); simp (disch := omega) only [retQ, resD, oneD, rsv, rs, rsL, rsL_eq_map, List.map_map, bb, bt, zDs, zD, eqCells, simprocAttr, Try.results55])
          rw [hres]
          unfold roundP
          rw [hy]
    · have hke : k = l.length := by omega
      subst hke
      ((refine ggb0 @Int.lt_irrefl ?_))
      refine ⟨(at_, tt), ?_, by (simp (disch := omega) only [StLe, tmLe, hpLe_refl, hpLe, bl, bb, bt, zDs, zD, eqCells, simprocAttr])⟩
      rw [hres, List.drop_eq_nil_of_le (Nat.le_refl _)]; rfl
  rintro ⟨at_, tt⟩ hr
  simp only at hr
  have b1 := beqN at_ fr
  ((refine ggb0 b1 ?_))
  ((repeat refine AW_seq ?_); (refine wta ?_); simp (disch := omega) only [retQ, resD, oneD, rsv, rs, rsL, rsL_eq_map, List.map_map, bb, bt, zDs, zD, eqCells, simprocAttr, Try.results55])
  rw [hr]
theorem cycleG_arg (n : Int) (l : List (Int × Int)) (hv : validG n l = false) (hl : l.length ≤ 1000000) (q : List Int) :
    PRet Try.prog 29 [int n, eds l, ints q] (.tup [bool false, int 1]) := by
  refine PRet.intro 2 fun t => ACall.enter tab_ok Try.func29 rfl rfl Try.ntmps29 (by simp) ?_
  simp only [enterTM]
  have hV := valid n l hl
  rw [hv] at hV
  ((refine gga1 hV ?_))
  ((repeat refine AW_seq ?_); (refine wta ?_); simp (disch := omega) only [retQ, resD, oneD, bb, bt, zDs, zD, eqCells, simprocAttr, Try.results29])
  rfl
/-- What Cycle says. -/
def cycS (E : List (Nat × Nat)) (q : List Int) : Bool × Int := if indsP E.length q then (cycP E (q.map Int.toNat), 0) else (false, 2)
theorem inds_nat {m : Nat} {q : List Int} (h : indsP m q = true) : q = nl (q.map Int.toNat) ∧ ∀ k ∈ q.map Int.toNat, k < m := by
  unfold indsP at h
  rw [List.all_eq_true] at h
  constructor
  · unfold nl
    rw [List.map_map]
    refine ((List.map_congr_left fun x hx => ?_).trans (List.map_id _)).symm
    have := h x hx
    simp only [Bool.and_eq_true, decide_eq_true_eq] at this
    simp only [Function.comp_apply, id_eq]
    omega
  · intro k hk
    obtain ⟨x, hx, rfl⟩ := List.mem_map.1 hk
    have := h x hx
    simp only [Bool.and_eq_true, decide_eq_true_eq] at this
    omega
theorem nodup_nl (l : List Nat) : (nl l).Nodup ↔ l.Nodup := by
  unfold nl
  constructor
  · exact fun h => (List.Pairwise.of_map _ (fun a b h => fun e => h (by rw [e])) h)
  · exact fun h => h.map _ fun a b hab e => hab (by omega)
set_option maxHeartbeats 2000000 in
theorem cycleG (n : Nat) (E : List (Nat × Nat)) (ho : Ok n E) (hv : validG n (edN E) = true) (hn : n ≤ 1000) (hE : E.length ≤ 4000) (q : List Int) (hql : q.length ≤ 1000) :
    PRet Try.prog 29 [int n, eds (edN E), ints q] (.tup [bool (cycS E q).1, int (cycS E q).2]) := by
  refine PRet.intro 2 fun t => ACall.enter tab_ok Try.func29 rfl rfl Try.ntmps29 (by simp) ?_
  simp only [enterTM]
  have hV := valid n (edN E) (by rw [edN_len]; omega)
  rw [hv] at hV
  have hdiv : (edC (edN E)).length / 2 = E.length := by rw [edC_div, edN_len]
  ((refine wqa ?_))
  ((repeat refine AW_seq ?_); (refine AW_region_k tab_ok fun KR hKR => ?_)); ((refine wra ?_))
  ((refine wka1 hV ?_))
  ((refine wra ?_)); ((refine wea ?_); (try clear hKR KR))
  ((refine wia ?_))
  ((refine wsa ?_))
  ((refine wqa ?_))
  ((refine wqa ?_))
  ((refine wqa ?_))
  ((repeat refine AW_seq ?_))
  refine AW_mid (fun x : Nat => ⟨[(1, eds (edN E)), (2, ints q), (9, bool (!decide q.Nodup))], [], x⟩) (fun _ => indsP E.length q = true) ?_ ?_
  · refine AW_block ?_
    refine AW_loop_w (fun x : (Nat × List Int) × Nat => ⟨[(1, eds (edN E)), (2, ints q), (8, .mp 0 (t + 1)), (9, bool (!decide (q.take x.1.1).Nodup)), (18, ints q), (19, int q.length), (20, int x.1.1)], [some ⟨75, t + 1, mbC x.1.2⟩], x.2⟩) (fun x => q.length - x.1.1)
      (fun x => x.1.1 ≤ q.length ∧ indsP E.length q = indsP E.length (q.drop x.1.1) ∧ ∀ y, x.1.2.contains y = (q.take x.1.1).contains y) ((0, []), t + 1) ⟨Nat.zero_le _, rfl, fun _ => rfl⟩ (by (simp (disch := omega) only [StLe, tmLe, hpLe_refl, hpLe, bl, bb, bt, zDs, zD, eqCells, simprocAttr, mbC, List.take_zero, List.nodup_nil, decide_true, Bool.not_true])) ?_
    rintro ⟨⟨k, K⟩, tt⟩ ⟨hk, hin, hK⟩
    simp only at hk hin hK
    by_cases hlt : k < q.length
    · obtain ⟨x, hx⟩ : ∃ y, q[k]? = some y := ⟨_, List.getElem?_eq_getElem hlt⟩
      have hd : q.drop k = x :: q.drop (k + 1) := by
        obtain ⟨h1, h2⟩ := List.getElem?_eq_some_iff.1 hx
        rw [List.drop_eq_getElem_cons h1, h2]
      rw [hd] at hin
      simp only [indsP, List.all_cons] at hin
      have hf := mfind_mb K x
      have htk : q.take (k + 1) = q.take k ++ [x] := by rw [List.take_add_one, hx]; rfl
      have hnd : decide (q.take (k + 1)).Nodup = (decide (q.take k).Nodup && !K.contains x) := by
        rw [Bool.eq_iff_iff]
        simp only [decide_eq_true_eq, Bool.and_eq_true, Bool.not_eq_true']
        rw [htk, List.nodup_append, hK x]
        constructor
        · rintro ⟨h1, _, h3⟩
          refine ⟨h1, ?_⟩
          rw [List.contains_eq_mem, decide_eq_false_iff_not]
          exact fun hm => h3 x hm x (by simp) rfl
        · rintro ⟨h1, h2⟩
          rw [List.contains_eq_mem, decide_eq_false_iff_not] at h2
          exact ⟨h1, by simp, fun a ha b hb => by simp at hb; subst hb; exact fun e => h2 (e ▸ ha)⟩
      ((refine ggb0 (F := _∧_) ⟨@Int.ofNat_lt, hlt⟩ ?_))
      ((repeat refine AW_seq ?_))
      refine AW_block ?_
      ((refine wqb (F := _∧_) ⟨hlt, hx⟩ ?_))
      by_cases h1 : x < 0
      · ((refine ggb0 h1 ?_))
        ((repeat refine AW_seq ?_); (refine wta ?_); simp (disch := omega) only [retQ, resD, oneD, bb, bt, zDs, zD, eqCells, simprocAttr, Try.results29])
        have : ¬ 0 ≤ x := by omega
        have h0 : indsP E.length q = false := by simp only [indsP, hin, this, decide_false, Bool.false_and]
        unfold cycS
        rw [h0]; rfl
      by_cases h2 : (E.length : Int) ≤ x
      · ((refine ggb0 (F := _∧_∧_) ⟨h1, h2, hdiv⟩ ?_))
        ((repeat refine AW_seq ?_); (refine wta ?_); simp (disch := omega) only [retQ, resD, oneD, bb, bt, zDs, zD, eqCells, simprocAttr, Try.results29])
        have : ¬ x < E.length := by omega
        have h0 : indsP E.length q = false := by simp only [indsP, hin, this, decide_false, Bool.false_and, Bool.and_false]
        unfold cycS
        rw [h0]; rfl
      have a1 : 0 ≤ x := by omega
      have a2 : x < E.length := by omega
      have hin2 : indsP E.length q = indsP E.length (q.drop (k + 1)) := by simp only [indsP, hin, a1, a2, decide_true, Bool.true_and]
      cases hc : K.contains x
      · rw [hc, if_neg (by simp)] at hf
        have hp := mput_no' K x hc
        rw [hc, Bool.not_false, Bool.and_true] at hnd
        have hK2 : ∀ y, (K ++ [x]).contains y = (q.take (k + 1)).contains y := fun y => by
          rw [htk, Bool.eq_iff_iff]
          have := hK y
          rw [Bool.eq_iff_iff, List.contains_iff_mem, List.contains_iff_mem] at this
          simp only [List.contains_iff_mem, List.mem_append, this]
        cases hdn : decide (q.take k).Nodup
        · rw [hdn] at hnd
          ((refine ggb0 (F := _∧_∧_∧_∧_∧_) ⟨h1, h2, hdiv, hf, hp, hdn⟩ ?_))
          refine ⟨((k + 1, K ++ [x]), tt), ⟨hlt, hin2, hK2⟩, by show q.length - (k + 1) < q.length - k; omega, ?_⟩
          simp only [hnd, Bool.not_false]
          (simp (disch := omega) only [StLe, tmLe, hpLe_refl, hpLe, bl, bb, bt, zDs, zD, eqCells, simprocAttr])
        · rw [hdn] at hnd
          ((refine ggb0 (F := _∧_∧_∧_∧_∧_) ⟨h1, h2, hdiv, hf, hp, hdn⟩ ?_))
          refine ⟨((k + 1, K ++ [x]), tt), ⟨hlt, hin2, hK2⟩, by show q.length - (k + 1) < q.length - k; omega, ?_⟩
          simp only [hnd, Bool.not_true]
          (simp (disch := omega) only [StLe, tmLe, hpLe_refl, hpLe, bl, bb, bt, zDs, zD, eqCells, simprocAttr])
      · rw [hc, if_pos rfl] at hf
        have hp := mput_yes' K x hc
        rw [hc, Bool.not_true, Bool.and_false] at hnd
        have hK2 : ∀ y, K.contains y = (q.take (k + 1)).contains y := fun y => by
          rw [htk, Bool.eq_iff_iff]
          have h3 := hK y
          have h4 := hK x
          rw [hc] at h4
          have h4 : x ∈ q.take k := by simpa using h4.symm
          rw [Bool.eq_iff_iff, List.contains_iff_mem, List.contains_iff_mem] at h3
          simp only [List.contains_iff_mem, List.mem_append, List.mem_singleton, h3]
          exact ⟨.inl, fun h => h.elim id fun e => e ▸ h4⟩
        cases hdn : decide (q.take k).Nodup
        · ((refine ggb0 (F := _∧_∧_∧_∧_∧_) ⟨h1, h2, hdiv, hf, hp, hdn⟩ ?_))
          refine ⟨((k + 1, K), tt), ⟨hlt, hin2, hK2⟩, by show q.length - (k + 1) < q.length - k; omega, ?_⟩
          simp only [hnd, Bool.not_false]
          (simp (disch := omega) only [StLe, tmLe, hpLe_refl, hpLe, bl, bb, bt, zDs, zD, eqCells, simprocAttr])
        · ((refine ggb0 (F := _∧_∧_∧_∧_∧_) ⟨h1, h2, hdiv, hf, hp, hdn⟩ ?_))
          refine ⟨((k + 1, K), tt), ⟨hlt, hin2, hK2⟩, by show q.length - (k + 1) < q.length - k; omega, ?_⟩
          simp only [hnd, Bool.not_false]
          (simp (disch := omega) only [StLe, tmLe, hpLe_refl, hpLe, bl, bb, bt, zDs, zD, eqCells, simprocAttr])
    · have hke : k = q.length := by omega
      subst hke
      ((refine ggb0 @Int.lt_irrefl ?_))
      rw [List.take_length]
      refine ⟨tt, ?_, by (simp (disch := omega) only [StLe, tmLe, hpLe_refl, hpLe, bl, bb, bt, zDs, zD, eqCells, simprocAttr])⟩
      rw [hin, List.drop_eq_nil_of_le (Nat.le_refl _)]; rfl
  rintro tt hin
  obtain ⟨hq, hqE⟩ := inds_nat hin
  have hcs : cycS E q = (cycP E (q.map Int.toNat), 0) := by unfold cycS; rw [if_pos hin]
  rw [hcs]
  have hnd : decide q.Nodup = decide (q.map Int.toNat).Nodup := by
    rw [decide_eq_decide]
    conv => lhs; rw [hq]
    exact nodup_nl _
  have hlen : (q.map Int.toNat).length = q.length := by simp
  generalize q.map Int.toNat = l at *
  subst hq
  clear hcs
  rw [nl_len] at hlen
  have hlnl := nl_len l
  rw [hnd]
  cases hd : decide l.Nodup
  · ((refine gga0 ?_))
    ((repeat refine AW_seq ?_); (refine wta ?_); simp (disch := omega) only [retQ, resD, oneD, bb, bt, zDs, zD, eqCells, simprocAttr, Try.results29])
    have : cycP E l = false := by unfold cycP; rw [hd, Bool.and_false, Bool.false_and]
    rw [this]; rfl
  by_cases h2 : (l.length : Int) < 2
  · ((refine ggb0 (F := _∧_) ⟨hlnl, h2⟩ ?_))
    ((repeat refine AW_seq ?_); (refine wta ?_); simp (disch := omega) only [retQ, resD, oneD, bb, bt, zDs, zD, eqCells, simprocAttr, Try.results29])
    have h3 : ¬ 2 ≤ l.length := by omega
    have : cycP E l = false := by unfold cycP; rw [decide_eq_false h3, Bool.false_and, Bool.false_and]
    rw [this]; rfl
  have h2' : 2 ≤ l.length := by omega
  obtain ⟨i, l', rfl⟩ : ∃ i l', l = i :: l' := by
    cases l with
    | nil => simp at h2'
    | cons i l' => exact ⟨i, l', rfl⟩
  have hiE := hqE i (by simp)
  obtain ⟨⟨u, v⟩, he⟩ : ∃ y, E[i]? = some y := ⟨_, List.getElem?_eq_getElem hiE⟩
  obtain ⟨hun, hvn, huv⟩ := ho.get he
  have hen := edN_get he
  have hrd := edC_read _ _ _ hen
  simp only at hrd
  have hqn : (nl (i :: l'))[0]? = some (i : Int) := rfl
  have hr2 : i * 2 < E.length * 2 := by omega
  have hr3 : i * 2 + 2 ≤ E.length * 2 := by omega
  have hlp : 0 < (i :: l').length := by simp
  rw [nl_len] at hql
  have R1 := roundG n E ho hn hE (i :: l') hqE hql u hun
  have R2 := roundG n E ho hn hE (i :: l') hqE hql v hvn
  have hc : cycP E (i :: l') = (roundP E u (i :: l') [] u || roundP E v (i :: l') [] v) := by
    unfold cycP
    rw [decide_eq_true h2', hd, Bool.true_and, Bool.true_and]
    simp only [he]
  rw [hc]
  generalize roundP E u (i :: l') [] u = b1 at *
  generalize roundP E v (i :: l') [] v = b2 at *
  generalize i :: l' = l at *
  cases b1
  · ((refine ggb2 (F := _∧_∧_∧_∧_∧_∧_∧_∧_) ⟨hlnl, h2, hqn, hlp, hr2, hr3, edC_len, edN_len, hrd⟩ R1 R2 ?_))
    ((repeat refine AW_seq ?_); (refine wta ?_); simp (disch := omega) only [retQ, resD, oneD, bb, bt, zDs, zD, eqCells, simprocAttr, Try.results29])
    rfl
  · ((refine ggb2 (F := _∧_∧_∧_∧_∧_∧_∧_∧_) ⟨hlnl, h2, hqn, hlp, hr2, hr3, edC_len, edN_len, hrd⟩ R1 R2 ?_))
    ((repeat refine AW_seq ?_); (refine wta ?_); simp (disch := omega) only [retQ, resD, oneD, bb, bt, zDs, zD, eqCells, simprocAttr, Try.results29])
    rfl
end Go.Proofs.Ytalhegbjlfkipaa.T
