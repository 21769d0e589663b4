import Derived.Test.YtalhegbjlfkipaaGWH
set_option linter.all false
namespace Go.Proofs.Ytalhegbjlfkipaa.T
open Go Go.RowKit Gr
set_option linter.unusedSimpArgs false

/-! Graphs: the reference's Round, Cycle, Path. -/
theorem round_congr (E : List (Nat × Nat)) (fr : Nat) : ∀ (l s s' : List Nat) (a : Nat), (∀ x, x ∈ s ↔ x ∈ s') → roundP E fr l s a = roundP E fr l s' a
  | [], s, s', a, h => rfl
  | i :: l, s, s', a, h => by
    unfold roundP
    cases oth E i a with
    | none => rfl
    | some y =>
      simp only
      rw [round_congr E fr l (a :: s) (a :: s') y (fun x => by simp [h x])]
      have : s.contains a = s'.contains a := by rw [Bool.eq_iff_iff, List.contains_iff_mem, List.contains_iff_mem]; exact h a
      rw [this]
theorem round_seen {E : List (Nat × Nat)} {fr : Nat} {l s : List Nat} {a : Nat} (hl : l ≠ []) (h : a ∈ s) : roundP E fr l s a = false := by
  cases l with
  | nil => exact absurd rfl hl
  | cons i l =>
    unfold roundP
    cases oth E i a with
    | none => rfl
    | some y => simp [h]
set_option maxHeartbeats 2000000 in
theorem roundR (n : Nat) (E : List (Nat × Nat)) (ho : Ok n E) (hn : n ≤ 1000) (hE : E.length ≤ 4000) (l : List Nat) (hl : ∀ k ∈ l, k < E.length) (hll : l.length ≤ 1000) (hl0 : l ≠ []) (fr : Nat) :
    PRet Try.prog 56 [eds (edN E), ints (nl l), int fr] (bool (decide l.Nodup && roundP E fr l [] fr)) := by
  refine PRet.intro 1 fun t => ACall.enter tab_ok Try.func56 rfl rfl Try.ntmps56 (by simp) ?_
  simp only [enterTM]
  have hlnl := nl_len l
  have hlpos : 0 < l.length := List.length_pos_iff.2 hl0
  ((refine wqa ?_))
  ((repeat refine AW_seq ?_); (refine AW_region_k tab_ok fun KR hKR => ?_)); (((first | refine awOps_n rfl fun KK hKK => ?_ | refine awOps_g rfl rfl fun KK hKK => ?_ | refine awOps_gc rfl fun KK hKK => ?_); simp (disch := omega) only [bb, bt, zDs, zD, eqCells, simprocAttr]; refine hKK _ ?_; clear hKK KK))
  refine awOps_lit (cs := [int fr]) tab_ok (by decide) rfl rfl rfl ⟨by decide, by decide⟩ (by decide) (by rfl) fun KK hKK => ?_
  simp only [St.put, putTM, ↓reduceIte, Nat.reduceEqDiff, List.length_nil, List.nil_append]
  refine hKK _ ?_
  clear hKK KK
  ((refine wra ?_))
  ((refine wea ?_); (try clear hKR KR))
  ((refine wqa ?_))
  ((refine wqa ?_))
  ((repeat refine AW_seq ?_))
  refine AW_mid (fun x : Nat => ⟨[], [], x⟩) (fun _ => False) ?_ (fun _ h => h.elim)
  refine AW_block ?_
  refine AW_loop_w (fun x : (Nat × Nat × List Nat) × Nat × Nat => ⟨[(0, eds (edN E)), (1, ints (nl l)), (2, int fr), (7, .own 1 0 x.2.1 0 (x.1.2.2.length + 1)), (8, int x.1.2.1), (9, int x.1.1)], [some ⟨3, x.2.1, nD (x.1.2.2 ++ [x.1.2.1])⟩], x.2.2⟩) (fun x => l.length - x.1.1)
    (fun x => x.1.1 < l.length ∧ x.1.2.2.length = x.1.1 ∧ x.1.2.1 ∉ x.1.2.2 ∧ (l.take x.1.1).Nodup ∧ roundP E fr l [] fr = roundP E fr (l.drop x.1.1) x.1.2.2 x.1.2.1) ((0, fr, []), t + 1, t + 1) ⟨hlpos, rfl, by simp, by simp, rfl⟩ (by (simp (disch := omega) only [StLe, tmLe, hpLe_refl, hpLe, bl, bb, bt, zDs, zD, eqCells, simprocAttr, nD, nl, List.nil_append, List.map_cons, List.map_nil, List.length_nil])) ?_
  rintro ⟨⟨k, at_, ps⟩, g, tt⟩ ⟨hlt, hpl, hns, hnd, hres⟩
  simp only at hlt hpl hns hnd hres
  obtain ⟨i, hi⟩ : ∃ y, l[k]? = some y := ⟨_, List.getElem?_eq_getElem hlt⟩
  have hiE := hl i (List.mem_of_getElem? hi)
  obtain ⟨⟨u, v⟩, he⟩ : ∃ y, E[i]? = some y := ⟨_, List.getElem?_eq_getElem hiE⟩
  have hdk : l.drop k = i :: l.drop (k + 1) := by
    obtain ⟨h1, h2⟩ := List.getElem?_eq_some_iff.1 hi
    rw [List.drop_eq_getElem_cons h1, h2]
  have hen := edN_get he
  have hqn := nl_get hi
  have hr2 : i * 2 < E.length * 2 := by omega
  have hr3 : i * 2 + 2 ≤ E.length * 2 := by omega
  have hrd := edC_read _ _ _ hen
  simp only at hrd
  have hO := otherR (u : Int) (v : Int) (at_ : Int)
  rw [othR he] at hO
  ((refine ggb0 (F := _∧_∧_) ⟨@Int.ofNat_lt, hlt, hlnl⟩ ?_))
  ((repeat refine AW_seq ?_))
  refine AW_block ?_
  ((refine wqa ?_))
  ((repeat refine AW_seq ?_))
  refine AW_mid (fun z : Nat => ⟨[(0, eds (edN E)), (1, ints (nl l)), (2, int fr), (7, .own 1 0 g 0 (ps.length + 1)), (8, int at_), (9, int k)], [some ⟨3, g, nD (ps ++ [at_])⟩], z⟩) (fun _ => i ∉ l.take k) ?_ ?_
  · refine AW_block ?_
    refine AW_loop_w (fun z : Nat × Nat => ⟨[(0, eds (edN E)), (1, ints (nl l)), (2, int fr), (7, .own 1 0 g 0 (ps.length + 1)), (8, int at_), (9, int k), (10, int z.1)], [some ⟨3, g, nD (ps ++ [at_])⟩], z.2⟩) (fun z => k - z.1) (fun z => z.1 ≤ k ∧ i ∉ l.take z.1) (0, tt) ⟨Nat.zero_le _, by simp⟩ (by (simp (disch := omega) only [StLe, tmLe, hpLe_refl, hpLe, bl, bb, bt, zDs, zD, eqCells, simprocAttr])) ?_
    rintro ⟨j, t2⟩ ⟨hj, hji⟩
    simp only at hj hji
    by_cases hjk : j < k
    · have hjl : j < l.length := by omega
      obtain ⟨e, hje⟩ : ∃ y, l[j]? = some y := ⟨_, List.getElem?_eq_getElem hjl⟩
      have hqe := nl_get hje
      have hbe := beqN e i
      ((refine ggb0 (F := _∧_) ⟨@Int.ofNat_lt, hjk⟩ ?_))
      ((repeat refine AW_seq ?_))
      refine AW_block ?_
      ((repeat refine AW_seq ?_); (refine gdzb (F := _∧_∧_∧_∧_) ⟨hjl, hlt, hqe, hqn, hlnl⟩ ?_))
      by_cases hei : e = i
      · have e1 : ((e : Int) == (i : Int)) = true := by rw [hbe]; simp [hei]
        ((refine ggb0 e1 ?_))
        ((repeat refine AW_seq ?_); (refine wta ?_); simp (disch := omega) only [retQ, resD, oneD, rsv, rs, rsL, rsL_eq_map, List.map_map, bb, bt, zDs, zD, eqCells, simprocAttr, Try.results56])
        have : ¬ l.Nodup := fun hn => by
          subst hei
          have := (List.getElem?_inj hjl hn).1 (hje.trans hi.symm)
          omega
        rw [decide_eq_false this]; rfl
      · have e1 : ((e : Int) == (i : Int)) = false := by rw [hbe]; simpa using hei
        ((refine ggb0 e1 ?_))
        refine ⟨(j + 1, t2 + 1), ⟨hjk, ?_⟩, by show k - (j + 1) < k - j; omega, ?_⟩
        · simp only
          rw [List.take_add_one, hje]
          simp only [Option.toList_some, List.mem_append, List.mem_singleton, not_or]
          exact ⟨hji, fun h => hei h.symm⟩
        · (simp (disch := omega) only [StLe, tmLe, hpLe_refl, hpLe, bl, bb, bt, zDs, zD, eqCells, simprocAttr])
    · have hje : j = k := by omega
      subst hje
      ((refine ggb0 @Int.lt_irrefl ?_))
      exact ⟨t2, hji, by (simp (disch := omega) only [StLe, tmLe, hpLe_refl, hpLe, bl, bb, bt, zDs, zD, eqCells, simprocAttr])⟩
  rintro t2 hik
  have hnd2 : (l.take (k + 1)).Nodup := by
    rw [List.take_add_one, hi]
    simp only [Option.toList_some]
    rw [List.nodup_append]
    exact ⟨hnd, by simp, fun a ha b hb => by simp at hb; subst hb; exact fun e => hik (e ▸ ha)⟩
  cases hot : oth E i at_ with
  | none =>
    rw [hot] at hO
    simp only at hO
    have hr : roundP E fr l [] fr = false := by rw [hres, hdk]; unfold roundP; rw [hot]
    ((refine ggb1 (F := _∧_∧_∧_∧_∧_∧_∧_) ⟨hlt, hqn, hlnl, hr2, hr3, edC_len, edN_len, hrd⟩ hO ?_))
    ((repeat refine AW_seq ?_); (refine wta ?_); simp (disch := omega) only [retQ, resD, oneD, rsv, rs, rsL, rsL_eq_map, List.map_map, bb, bt, zDs, zD, eqCells, simprocAttr, Try.results56])
    rw [hr, Bool.and_false]
  | some y =>
    rw [hot] at hO
    simp only at hO
    have hy0 : ¬ ((y : Int) < 0) := by omega
    have hrn : roundP E fr l [] fr = roundP E fr (l.drop (k + 1)) (at_ :: ps) y := by
      rw [hres, hdk]
      conv => lhs; unfold roundP
      rw [hot]
      simp [hns]
    by_cases hlast : k + 1 = l.length
    · have e1 : ((k : Int) == (l.length : Int) - 1) = true := by simp; omega
      have hb := beqN y fr
      ((refine ggb1 (F := _∧_∧_∧_∧_∧_∧_∧_∧_∧_∧_) ⟨hlt, hqn, hlnl, hr2, hr3, edC_len, edN_len, hrd, hy0, e1, hb⟩ hO ?_))
      ((repeat refine AW_seq ?_); (refine wta ?_); simp (disch := omega) only [retQ, resD, oneD, rsv, rs, rsL, rsL_eq_map, List.map_map, bb, bt, zDs, zD, eqCells, simprocAttr, Try.results56])
      rw [hrn, List.drop_eq_nil_of_le (by omega)]
      rw [hlast, List.take_length] at hnd2
      rw [decide_eq_true hnd2]
      rfl
    have e1 : ((k : Int) == (l.length : Int) - 1) = false := by simp; omega
    ((refine ggb1 (F := _∧_∧_∧_∧_∧_∧_∧_∧_∧_) ⟨hlt, hqn, hlnl, hr2, hr3, edC_len, edN_len, hrd, hy0, e1⟩ hO ?_))
    have hsl : (ps ++ [at_]).length = ps.length + 1 := by simp
    have hsn := nD_len (ps ++ [at_])
    refine AW_mid (fun z : Nat => ⟨[(0, eds (edN E)), (1, ints (nl l)), (2, int fr), (7, .own 1 0 g 0 (ps.length + 1)), (8, int y), (9, int k)], [some ⟨3, g, nD (ps ++ [at_])⟩], z⟩) (fun _ => y ∉ ps ++ [at_]) ?_ ?_
    · refine AW_block ?_
      refine AW_loop_w (fun z : Nat × Nat => ⟨[(0, eds (edN E)), (1, ints (nl l)), (2, int fr), (7, .own 1 0 g 0 (ps.length + 1)), (8, int y), (9, int k), (11, int z.1)], [some ⟨3, g, nD (ps ++ [at_])⟩], z.2⟩) (fun z => ps.length + 1 - z.1) (fun z => z.1 ≤ ps.length + 1 ∧ y ∉ (ps ++ [at_]).take z.1) (0, t2) ⟨Nat.zero_le _, by simp⟩ (by (simp (disch := omega) only [StLe, tmLe, hpLe_refl, hpLe, bl, bb, bt, zDs, zD, eqCells, simprocAttr])) ?_
      rintro ⟨j, t3⟩ ⟨hj, hjy⟩
      simp only at hj hjy
      by_cases hjk : j < ps.length + 1
      · obtain ⟨e, hje⟩ : ∃ z, (ps ++ [at_])[j]? = some z := ⟨_, List.getElem?_eq_getElem (by omega)⟩
        have hqe := nD_get hje
        have hbe := beqN e y
        ((refine ggb0 (F := _∧_) ⟨@Int.ofNat_lt, hjk⟩ ?_))
        ((repeat refine AW_seq ?_))
        refine AW_block ?_
        by_cases hey : e = y
        · have e2 : ((e : Int) == (y : Int)) = true := by rw [hbe]; simp [hey]
          ((refine ggb0 (F := _∧_∧_∧_∧_) ⟨hjk, hqe, hsn, hsl, e2⟩ ?_))
          ((repeat refine AW_seq ?_); (refine wta ?_); simp (disch := omega) only [retQ, resD, oneD, rsv, rs, rsL, rsL_eq_map, List.map_map, bb, bt, zDs, zD, eqCells, simprocAttr, Try.results56])
          have hm : y ∈ at_ :: ps := by
            have := List.mem_of_getElem? hje
            rw [hey] at this
            simp only [List.mem_append, List.mem_singleton] at this
            simp only [List.mem_cons]
            exact this.symm
          have hne : l.drop (k + 1) ≠ [] := fun e => by
            have := congrArg List.length e
            rw [List.length_drop, List.length_nil] at this
            omega
          rw [hrn, round_seen hne hm, Bool.and_false]
        · have e2 : ((e : Int) == (y : Int)) = false := by rw [hbe]; simpa using hey
          ((refine ggb0 (F := _∧_∧_∧_∧_) ⟨hjk, hqe, hsn, hsl, e2⟩ ?_))
          refine ⟨(j + 1, t3), ⟨hjk, ?_⟩, by show ps.length + 1 - (j + 1) < ps.length + 1 - j; omega, ?_⟩
          · simp only
            rw [List.take_add_one, hje]
            simp only [Option.toList_some, List.mem_append, List.mem_singleton, not_or]
            exact ⟨hjy, fun h => hey h.symm⟩
          · (simp (disch := omega) only [StLe, tmLe, hpLe_refl, hpLe, bl, bb, bt, zDs, zD, eqCells, simprocAttr])
      · have hje : j = ps.length + 1 := by omega
        subst hje
        ((refine ggb0 @Int.lt_irrefl ?_))
        refine ⟨t3, ?_, by (simp (disch := omega) only [StLe, tmLe, hpLe_refl, hpLe, bl, bb, bt, zDs, zD, eqCells, simprocAttr])⟩
        rwa [List.take_of_length_le (by omega)] at hjy
    rintro t3 hys
    have hap := nD_app (ps ++ [at_]) y
    ((refine ggb0 (F := _∧_) ⟨hsn, hsl⟩ ?_))
    refine ⟨((k + 1, y, ps ++ [at_]), t3 + 1, t3 + 1), ⟨by show k + 1 < l.length; omega, by show (ps ++ [at_]).length = k + 1; omega, hys, hnd2, ?_⟩, by show l.length - (k + 1) < l.length - k; omega, ?_⟩
    · rw [hrn]
      exact round_congr _ _ _ _ _ _ fun x => by simp [or_comm]
    · simp only [← hap, hsl]
      (simp (disch := omega) only [StLe, tmLe, hpLe_refl, hpLe, bl, bb, bt, zDs, zD, eqCells, simprocAttr])
end Go.Proofs.Ytalhegbjlfkipaa.T
