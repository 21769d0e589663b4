import Derived.Test.YtalhegbjlfkipaaGWA
set_option linter.all false
namespace Go.Proofs.Ytalhegbjlfkipaa.T
open Go Go.RowKit
set_option linter.unusedSimpArgs false

/-! Graphs: the reference's Valid; sizes; lists of numbers. -/
theorem badE_of (n a b : Int) : badE n (a, b) = (decide (a < 0) || decide (n ≤ a) || decide (b < 0) || decide (n ≤ b) || a == b) := by
  rw [Bool.eq_iff_iff]
  simp only [badE, Bool.or_eq_true, decide_eq_true_eq, beq_iff_eq]
  constructor
  · rintro ((h | h) | h)
    · exact .inr h
    · split at h <;> omega
    · split at h <;> omega
  · rintro ((((h | h) | h) | h) | h)
    · by_cases e : b < a
      · exact .inl (.inr (by rw [if_pos e]; omega))
      · exact .inl (.inr (by rw [if_neg e]; omega))
    · by_cases e : a < b
      · exact .inr (by rw [if_pos e]; omega)
      · exact .inr (by rw [if_neg e]; omega)
    · by_cases e : b < a
      · exact .inl (.inr (by rw [if_pos e]; omega))
      · exact .inl (.inr (by rw [if_neg e]; omega))
    · by_cases e : a < b
      · exact .inr (by rw [if_pos e]; omega)
      · exact .inr (by rw [if_neg e]; omega)
    · exact .inl (.inl h)
set_option maxHeartbeats 1000000 in
theorem refValid (n : Int) (l : List (Int × Int)) (hl : l.length ≤ 1000000) : PRet Try.prog 15 [int n, eds l] (bool (validG n l)) := by
  refine PRet.intro 1 fun t => ACall.enter tab_ok Try.func15 rfl rfl Try.ntmps15 (by simp) ?_
  simp only [enterTM]
  ((refine wqa ?_))
  by_cases h1 : n < 0
  · ((refine ggb0 h1 ?_))
    ((repeat refine AW_seq ?_); (refine wta ?_); simp (disch := omega) only [retQ, resD, oneD, rsv, rs, rsL, rsL_eq_map, List.map_map, bb, bt, zDs, zD, eqCells, simprocAttr, Try.results15])
    have : ¬ 0 ≤ n := by omega
    simp only [validG, this, decide_false, Bool.false_and]
  by_cases h2 : 1000 < n
  · ((refine ggb0 (F := _∧_) ⟨h1, h2⟩ ?_))
    ((repeat refine AW_seq ?_); (refine wta ?_); simp (disch := omega) only [retQ, resD, oneD, rsv, rs, rsL, rsL_eq_map, List.map_map, bb, bt, zDs, zD, eqCells, simprocAttr, Try.results15])
    have : ¬ n ≤ 1000 := by omega
    simp only [validG, this, decide_false, Bool.false_and, Bool.and_false]
  by_cases h3 : (4000 : Int) < l.length
  · ((refine ggb0 (F := _∧_∧_∧_) ⟨h1, h2, h3, edC_div⟩ ?_))
    ((repeat refine AW_seq ?_); (refine wta ?_); simp (disch := omega) only [retQ, resD, oneD, rsv, rs, rsL, rsL_eq_map, List.map_map, bb, bt, zDs, zD, eqCells, simprocAttr, Try.results15])
    have : ¬ l.length ≤ 4000 := by omega
    simp only [validG, this, decide_false, Bool.false_and, Bool.and_false]
  have hv : validG n l = !l.any (badE n) := by
    have a1 : 0 ≤ n := by omega
    have a2 : n ≤ 1000 := by omega
    have a3 : l.length ≤ 4000 := by omega
    simp only [validG, a1, a2, a3, decide_true, Bool.true_and]
  ((refine wqb (F := _∧_∧_∧_) ⟨h1, h2, h3, edC_div⟩ ?_))
  ((refine wia ?_))
  ((refine wsa ?_))
  ((refine wqa ?_))
  ((repeat refine AW_seq ?_))
  refine AW_mid (fun x : Nat => ⟨[], [], x⟩) (fun _ => validG n l = true) ?_ ?_
  · refine AW_block ?_
    refine AW_loop_w (fun x : Nat × Nat => ⟨[(0, int n), (1, eds l), (5, int x.1)], [], x.2⟩) (fun x => l.length - x.1) (fun x => x.1 ≤ l.length ∧ l.any (badE n) = (l.drop x.1).any (badE n)) (0, t) ⟨Nat.zero_le _, rfl⟩ (by (simp (disch := omega) only [StLe, tmLe, hpLe_refl, hpLe, bl, bb, bt, zDs, zD, eqCells, simprocAttr])) ?_
    rintro ⟨k, tt⟩ ⟨hk, he⟩
    simp only at hk he
    by_cases hlt : k < l.length
    · obtain ⟨⟨a, b⟩, hx⟩ : ∃ y, l[k]? = some y := ⟨_, List.getElem?_eq_getElem hlt⟩
      have hd : l.drop k = (a, b) :: l.drop (k + 1) := by
        obtain ⟨h1, h2⟩ := List.getElem?_eq_some_iff.1 hx
        rw [List.drop_eq_getElem_cons h1, h2]
      rw [hd, List.any_cons, badE_of] at he
      have hr2 : k * 2 < l.length * 2 := by omega
      have g0 := edC_0 hx
      have g1 := edC_1 hx
      simp only at g0 g1
      ((refine ggb0 (F := _∧_∧_) ⟨@Int.ofNat_lt, hlt, edC_div⟩ ?_))
      ((repeat refine AW_seq ?_))
      refine AW_block ?_
      ((repeat refine AW_seq ?_); (refine gdzb (F := _∧_∧_∧_∧_∧_) ⟨@Int.ofNat_lt, hlt, hr2, edC_len, g0, g1⟩ ?_))
      have fin : (decide (a < 0) || decide (n ≤ a) || decide (b < 0) || decide (n ≤ b) || a == b) = true → validG n l = false := fun e => by
        rw [hv, he, e]; rfl
      cases e1 : decide (a < 0)
      · cases e2 : decide (n ≤ a)
        · cases e3 : decide (b < 0)
          · cases e4 : decide (n ≤ b)
            · cases e5 : (a == b)
              · ((refine ggb0 (F := _∧_∧_∧_∧_) ⟨e1, e2, e3, e4, e5⟩ ?_))
                refine ⟨(k + 1, tt + 1), ⟨hlt, by rw [he, e1, e2, e3, e4, e5]; rfl⟩, by show l.length - (k + 1) < l.length - k; omega, ?_⟩
                (simp (disch := omega) only [StLe, tmLe, hpLe_refl, hpLe, bl, bb, bt, zDs, zD, eqCells, simprocAttr])
              · ((refine ggb0 (F := _∧_∧_∧_∧_) ⟨e1, e2, e3, e4, e5⟩ ?_))
                ((repeat refine AW_seq ?_); (refine wta ?_); simp (disch := omega) only [retQ, resD, oneD, rsv, rs, rsL, rsL_eq_map, List.map_map, bb, bt, zDs, zD, eqCells, simprocAttr, Try.results15])
                rw [fin (by rw [e1, e2, e3, e4, e5]; rfl)]
            · ((refine ggb0 (F := _∧_∧_∧_) ⟨e1, e2, e3, e4⟩ ?_))
              ((repeat refine AW_seq ?_); (refine wta ?_); simp (disch := omega) only [retQ, resD, oneD, rsv, rs, rsL, rsL_eq_map, List.map_map, bb, bt, zDs, zD, eqCells, simprocAttr, Try.results15])
              rw [fin (by rw [e1, e2, e3, e4]; simp)]
          · ((refine ggb0 (F := _∧_∧_) ⟨e1, e2, e3⟩ ?_))
            ((repeat refine AW_seq ?_); (refine wta ?_); simp (disch := omega) only [retQ, resD, oneD, rsv, rs, rsL, rsL_eq_map, List.map_map, bb, bt, zDs, zD, eqCells, simprocAttr, Try.results15])
            rw [fin (by rw [e1, e2, e3]; simp)]
        · ((refine ggb0 (F := _∧_) ⟨e1, e2⟩ ?_))
          ((repeat refine AW_seq ?_); (refine wta ?_); simp (disch := omega) only [retQ, resD, oneD, rsv, rs, rsL, rsL_eq_map, List.map_map, bb, bt, zDs, zD, eqCells, simprocAttr, Try.results15])
          rw [fin (by rw [e1, e2]; simp)]
      · ((refine ggb0 e1 ?_))
        ((repeat refine AW_seq ?_); (refine wta ?_); simp (disch := omega) only [retQ, resD, oneD, rsv, rs, rsL, rsL_eq_map, List.map_map, bb, bt, zDs, zD, eqCells, simprocAttr, Try.results15])
        rw [fin (by rw [e1]; simp)]
    · ((refine ggb0 (F := _∧_∧_) ⟨@Int.ofNat_lt, hlt, edC_div⟩ ?_))
      refine ⟨tt, ?_, by (simp (disch := omega) only [StLe, tmLe, hpLe_refl, hpLe, bl, bb, bt, zDs, zD, eqCells, simprocAttr])⟩
      rw [hv, he, List.drop_eq_nil_of_le (by omega)]; rfl
  · rintro tt hr
    ((refine gga0 ?_))
    ((repeat refine AW_seq ?_); (refine wta ?_); simp (disch := omega) only [retQ, resD, oneD, rsv, rs, rsL, rsL_eq_map, List.map_map, bb, bt, zDs, zD, eqCells, simprocAttr, Try.results15])
    rw [hr]
/-- The first place of a number, or -1. -/
def idxN (x : Int) : List Int → Nat → Int
  | [], _ => -1
  | y :: r, k => if x = y then k else idxN x r (k + 1)
theorem idxN_mem (x : Int) : ∀ (l : List Int) (k : Nat), decide (0 ≤ idxN x l k) = l.contains x
  | [], k => by simp [idxN]
  | y :: r, k => by
    have := idxN_mem x r (k + 1)
    rw [List.contains_cons, ← this]
    by_cases h : x = y
    · subst h; simp [idxN]
    · simp [idxN, h]
theorem indexInts (l : List Int) (x : Int) (hl : l.length ≤ 1000000) : PRet Try.prog 53 [ints l, int x] (int (idxN x l 0)) := by
  refine PRet.intro 1 fun t => ACall.enter tab_ok Try.func53 rfl rfl Try.ntmps53 (by simp) ?_
  simp only [enterTM]
  ((refine wqa ?_))
  ((refine wqa ?_))
  ((repeat refine AW_seq ?_))
  refine AW_block ?_
  refine AW_loop_w (fun k : Nat => ⟨[(0, ints l), (1, int x), (7, int l.length), (8, int k)], [], t⟩) (fun k => l.length - k) (fun k => k ≤ l.length ∧ idxN x l 0 = idxN x (l.drop k) k) 0 ⟨Nat.zero_le _, rfl⟩ (by (simp (disch := omega) only [StLe, tmLe, hpLe_refl, hpLe, bl, bb, bt, zDs, zD, eqCells, simprocAttr])) fun k ⟨hk, hi⟩ => ?_
  by_cases hlt : k < l.length
  · obtain ⟨y, hy⟩ : ∃ y, l[k]? = some y := ⟨_, List.getElem?_eq_getElem hlt⟩
    have hd : l.drop k = y :: l.drop (k + 1) := by
      obtain ⟨h1, h2⟩ := List.getElem?_eq_some_iff.1 hy
      rw [List.drop_eq_getElem_cons h1, h2]
    rw [hd] at hi
    ((refine wqb (F := _∧_) ⟨@Int.ofNat_lt, hlt⟩ ?_))
    ((refine wia ?_))
    ((refine wsa ?_))
    ((repeat refine AW_seq ?_))
    refine AW_block ?_
    ((refine wqa ?_))
    by_cases hxy : x = y
    · have e1 : (x == y) = true := by simp [hxy]
      ((refine ggb0 (F := _∧_∧_) ⟨hlt, hy, e1⟩ ?_))
      ((repeat refine AW_seq ?_); (refine wta ?_); simp (disch := omega) only [retQ, resD, oneD, rsv, rs, rsL, rsL_eq_map, List.map_map, bb, bt, zDs, zD, eqCells, simprocAttr, Try.results53, hi])
      simp only [idxN, hxy, if_true]
    · have e1 : (x == y) = false := by simpa using hxy
      ((refine ggb0 (F := _∧_∧_) ⟨hlt, hy, e1⟩ ?_))
      refine ⟨k + 1, ⟨hlt, by rw [hi]; simp only [idxN]; rw [if_neg hxy]⟩, by omega, ?_⟩
      (simp (disch := omega) only [StLe, tmLe, hpLe_refl, hpLe, bl, bb, bt, zDs, zD, eqCells, simprocAttr])
  · ((refine ggb0 (F := _∧_) ⟨@Int.ofNat_lt, hlt⟩ ?_))
    ((repeat refine AW_seq ?_); (refine wta ?_); simp (disch := omega) only [retQ, resD, oneD, rsv, rs, rsL, rsL_eq_map, List.map_map, bb, bt, zDs, zD, eqCells, simprocAttr, Try.results53, hi])
    rw [List.drop_eq_nil_of_le (by omega)]; rfl
theorem containsInts (l : List Int) (x : Int) (hl : l.length ≤ 1000000) : PRet Try.prog 26 [ints l, int x] (bool (l.contains x)) := by
  refine PRet.intro 1 fun t => ACall.enter tab_ok Try.func26 rfl rfl Try.ntmps26 (by simp) ?_
  simp only [enterTM]
  ((refine gga1 (indexInts l x hl) ?_))
  ((repeat refine AW_seq ?_); (refine wta ?_); simp (disch := omega) only [retQ, resD, oneD, rsv, rs, rsL, rsL_eq_map, List.map_map, bb, bt, zDs, zD, eqCells, simprocAttr, Try.results26])
  rw [← idxN_mem x l 0]
theorem equalInts (a b : List Int) (ha : a.length ≤ 1000000) (hb : b.length ≤ 1000000) : PRet Try.prog 14 [ints a, ints b] (bool (a == b)) := by
  refine PRet.intro 1 fun t => ACall.enter tab_ok Try.func14 rfl rfl Try.ntmps14 (by simp) ?_
  simp only [enterTM]
  ((refine wqa ?_))
  by_cases hl : a.length = b.length
  rotate_left 1
  · have e1 : ((a.length : Int) != (b.length : Int)) = true := by simpa using fun h => hl (by omega)
    ((refine ggb0 e1 ?_))
    ((repeat refine AW_seq ?_); (refine wta ?_); simp (disch := omega) only [retQ, resD, oneD, rsv, rs, rsL, rsL_eq_map, List.map_map, bb, bt, zDs, zD, eqCells, simprocAttr, Try.results14])
    have : (a == b) = false := by rw [beq_eq_false_iff_ne]; intro h; exact hl (by rw [h])
    rw [this]
  have e1 : ((a.length : Int) != (b.length : Int)) = false := by simp [hl]
  ((refine wqb e1 ?_))
  ((refine wia ?_))
  ((refine wsa ?_))
  ((refine wqa ?_))
  ((repeat refine AW_seq ?_))
  refine AW_mid (fun x : Nat => ⟨[], [], x⟩) (fun _ => (a == b) = true) ?_ ?_
  · refine AW_block ?_
    refine AW_loop_w (fun x : Nat × Nat => ⟨[(0, ints a), (1, ints b), (12, int a.length), (13, int x.1)], [], x.2⟩) (fun x => a.length - x.1) (fun x => x.1 ≤ a.length ∧ (a == b) = (a.drop x.1 == b.drop x.1)) (0, t) ⟨Nat.zero_le _, rfl⟩ (by (simp (disch := omega) only [StLe, tmLe, hpLe_refl, hpLe, bl, bb, bt, zDs, zD, eqCells, simprocAttr])) ?_
    rintro ⟨k, t2⟩ ⟨hk, he⟩
    simp only at hk he
    by_cases hlt : k < a.length
    · have hltb : k < b.length := by omega
      obtain ⟨x, hx⟩ : ∃ y, a[k]? = some y := ⟨_, List.getElem?_eq_getElem hlt⟩
      obtain ⟨y, hy⟩ : ∃ y, b[k]? = some y := ⟨_, List.getElem?_eq_getElem hltb⟩
      have hda : a.drop k = x :: a.drop (k + 1) := by
        obtain ⟨h1, h2⟩ := List.getElem?_eq_some_iff.1 hx
        rw [List.drop_eq_getElem_cons h1, h2]
      have hdb : b.drop k = y :: b.drop (k + 1) := by
        obtain ⟨h1, h2⟩ := List.getElem?_eq_some_iff.1 hy
        rw [List.drop_eq_getElem_cons h1, h2]
      rw [hda, hdb, List.cons_beq_cons] at he
      ((refine wqb (F := _∧_) ⟨@Int.ofNat_lt, hlt⟩ ?_))
      ((refine wia ?_))
      ((refine wsa ?_))
      ((repeat refine AW_seq ?_))
      refine AW_block ?_
      ((refine wqa ?_))
      ((repeat refine AW_seq ?_); (refine AW_drawn_k tab_ok follows_mixed 0 fun KR hKR => ?_); simp only [List.replicate_succ, List.replicate_zero, List.append_nil, List.nil_append, List.cons_append, List.length_cons, List.length_nil, Nat.reduceAdd])
      ((refine wdb (F := _∧_∧_∧_) ⟨hlt, hltb, hx, hy⟩ ?_))
      ((refine awD_nil ?_); simp only [List.reverse_cons, List.reverse_nil, List.nil_append, List.cons_append]; (refine hKR _ _ (by first | rfl | kernel_rfl) ?_); (try clear hKR KR); (repeat (with_reducible first | refine q1 ?_ | refine q2 ?_ | refine q3 ?_ | refine q4 ?_ | refine q5 ?_ | refine q6 ?_ | (refine q7 ?_ ?_; (focus (with_unfolding_all rfl))))))
      by_cases hxy : x = y
      · have e2 : (x != y) = false := by simp [hxy]
        rw [e2]
        ((refine wia ?_))
        ((refine wsa ?_))
        ((refine wqa ?_))
        refine ⟨(k + 1, t2 + 1), ⟨hlt, by rw [he, hxy, beq_self_eq_true, Bool.true_and]⟩, by show a.length - (k + 1) < a.length - k; omega, ?_⟩
        (simp (disch := omega) only [StLe, tmLe, hpLe_refl, hpLe, bl, bb, bt, zDs, zD, eqCells, simprocAttr])
      · have e2 : (x != y) = true := by simpa using hxy
        rw [e2]
        ((refine wia ?_))
        ((refine wqa ?_))
        ((repeat refine AW_seq ?_); (refine wta ?_); simp (disch := omega) only [retQ, resD, oneD, rsv, rs, rsL, rsL_eq_map, List.map_map, bb, bt, zDs, zD, eqCells, simprocAttr, Try.results14])
        rw [he, beq_eq_false_iff_ne.2 hxy]; rfl
    · ((refine wqb (F := _∧_) ⟨@Int.ofNat_lt, hlt⟩ ?_))
      ((refine wia ?_))
      ((refine wxa ?_))
      refine ⟨t2, ?_, by (simp (disch := omega) only [StLe, tmLe, hpLe_refl, hpLe, bl, bb, bt, zDs, zD, eqCells, simprocAttr])⟩
      rw [he, List.drop_eq_nil_of_le (by omega), List.drop_eq_nil_of_le (by omega)]; rfl
  · rintro t2 he
    ((refine wqa ?_))
    ((repeat refine AW_seq ?_); (refine wta ?_); simp (disch := omega) only [retQ, resD, oneD, rsv, rs, rsL, rsL_eq_map, List.map_map, bb, bt, zDs, zD, eqCells, simprocAttr, Try.results14])
    rw [he]
end Go.Proofs.Ytalhegbjlfkipaa.T
