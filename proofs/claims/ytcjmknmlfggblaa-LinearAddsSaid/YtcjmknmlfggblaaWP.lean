import Derived.Test.YtcjmknmlfggblaaTB
import Derived.Test.YtcjmknmlfggblaaWO
set_option linter.all false
namespace Go.Proofs.Ytcjmknmlfggblaa.T
open Go Go.RowKit Lin
set_option linter.unusedSimpArgs false

def rowOk (n : Nat) (r : List Int) : Bool := decide (r.length = n) && withinP r 32
theorem validP_rows {m : List (List Int)} (h1 : 1 ≤ m.length) (h2 : m.length ≤ 6) (h3 : 1 ≤ wid m) (h4 : wid m ≤ 12) : validP m = m.all (rowOk (wid m)) := by
  unfold validP
  rw [decide_eq_true (by omega), Bool.true_and]
  show (decide (1 ≤ wid m ∧ wid m ≤ 12) && _) = _
  rw [decide_eq_true (by omega), Bool.true_and]
  rfl
theorem within_cons (x : Int) (l : List Int) : withinP (x :: l) 32 = (decide (-32 ≤ x ∧ x ≤ 32) && withinP l 32) := by
  unfold withinP
  rw [List.any_cons, Bool.not_or]
  congr 1
  by_cases h1 : x < -32
  · simp [h1]; omega
  · by_cases h2 : 32 < x
    · simp [h2]
    · simp [h1, h2]; omega
set_option maxHeartbeats 1000000 in
theorem refValid (m : List (List Int)) (hm : m.length ≤ 1000000) (hl : ∀ r ∈ m, r.length ≤ 1000000) : PRet Try.prog 22 [mat m] (bool (validP m)) := by
  refine PRet.intro 1 fun t => ACall.enter tab_ok Try.func22 rfl rfl Try.ntmps22 (by simp) ?_
  simp only [enterTM]
  ((refine wqa ?_))
  by_cases h1 : (m.length : Int) < 1
  · ((refine wqb h1 ?_))
    ((refine wia ?_))
    ((refine wqa ?_))
    ((repeat refine AW_seq ?_); (refine wta ?_); simp (disch := omega) only [retQ, resD, oneD, rsv, rs, rsL, rsL_eq_map, List.map_map, bb, bt, zDs, zD, eqCells, simprocAttr, Try.results22])
    have : validP m = false := by unfold validP; rw [decide_eq_false (by omega)]; rfl
    rw [this]
  by_cases h2 : (6 : Int) < m.length
  · ((refine wqb (F := _∧_) ⟨h1, h2⟩ ?_))
    ((refine wia ?_))
    ((refine wqa ?_))
    ((repeat refine AW_seq ?_); (refine wta ?_); simp (disch := omega) only [retQ, resD, oneD, rsv, rs, rsL, rsL_eq_map, List.map_map, bb, bt, zDs, zD, eqCells, simprocAttr, Try.results22])
    have : validP m = false := by unfold validP; rw [decide_eq_false (by omega)]; rfl
    rw [this]
  obtain ⟨r0, m', hm0⟩ : ∃ r0 m', m = r0 :: m' := by
    cases m with
    | nil => simp at h1
    | cons a b => exact ⟨a, b, rfl⟩
  have hwd : wid m = r0.length := by rw [hm0]; rfl
  have hat0 : m[0]? = some r0 := by rw [hm0]; rfl
  have hpos : 0 < m.length := by omega
  by_cases h3 : (wid m : Int) < 1
  · ((refine wqb (F := _∧_∧_∧_∧_∧_) ⟨h1, h2, hat0, hpos, (hwd).symm, h3⟩ ?_))
    ((refine wia ?_))
    ((refine wqa ?_))
    ((repeat refine AW_seq ?_); (refine wta ?_); simp (disch := omega) only [retQ, resD, oneD, rsv, rs, rsL, rsL_eq_map, List.map_map, bb, bt, zDs, zD, eqCells, simprocAttr, Try.results22])
    have : validP m = false := by
      rw [← Bool.not_eq_true, validP_iff]
      omega
    rw [this]
  by_cases h4 : (12 : Int) < wid m
  · ((refine wqb (F := _∧_∧_∧_∧_∧_∧_) ⟨h1, h2, hat0, hpos, (hwd).symm, h3, h4⟩ ?_))
    ((refine wia ?_))
    ((refine wqa ?_))
    ((repeat refine AW_seq ?_); (refine wta ?_); simp (disch := omega) only [retQ, resD, oneD, rsv, rs, rsL, rsL_eq_map, List.map_map, bb, bt, zDs, zD, eqCells, simprocAttr, Try.results22])
    have : validP m = false := by
      rw [← Bool.not_eq_true, validP_iff]
      omega
    rw [this]
  ((refine wqb (F := _∧_∧_∧_∧_∧_∧_) ⟨h1, h2, hat0, hpos, (hwd).symm, h3, h4⟩ ?_))
  ((refine wia ?_))
  ((refine wsa ?_))
  rw [validP_rows (by omega) (by omega) (by omega) (by omega)]
  ((refine wqa ?_))
  ((repeat refine AW_seq ?_))
  refine AW_mid (fun x : Nat => ⟨[], [], x⟩) (fun _ => m.all (rowOk (wid m)) = true) ?_ ?_
  · refine AW_block ?_
    refine AW_loop_w (fun x : Nat × Nat => ⟨[(0, mat m), (3, int x.1)], [], x.2⟩) (fun x => m.length - x.1) (fun x => x.1 ≤ m.length ∧ m.all (rowOk (wid m)) = (m.drop x.1).all (rowOk (wid m))) (0, t) ⟨Nat.zero_le _, rfl⟩ (by (simp (disch := omega) only [StLe, tmLe, hpLe_refl, hpLe, bl, bb, bt, zDs, zD, eqCells, simprocAttr])) ?_
    rintro ⟨k, t2⟩ ⟨hk, he⟩
    simp only at hk he
    by_cases hlt : k < m.length
    · obtain ⟨r, hr⟩ : ∃ y, m[k]? = some y := ⟨_, List.getElem?_eq_getElem hlt⟩
      have hrl := hl r (List.mem_of_getElem? hr)
      have hdr : m.drop k = r :: m.drop (k + 1) := by
        obtain ⟨h1, h2⟩ := List.getElem?_eq_some_iff.1 hr
        rw [List.drop_eq_getElem_cons h1, h2]
      rw [hdr, List.all_cons] at he
      ((refine wqb (F := _∧_) ⟨@Int.ofNat_lt, hlt⟩ ?_))
      ((refine wia ?_))
      ((refine wsa ?_))
      ((repeat refine AW_seq ?_))
      refine AW_block ?_
      ((repeat refine AW_seq ?_); (refine AW_drawn_k tab_ok follows_mixed 0 fun KR hKR => ?_); simp only [List.replicate_succ, List.replicate_zero, List.append_nil, List.nil_append, List.cons_append, List.length_cons, List.length_nil, Nat.reduceAdd])
      ((refine wdb (F := _∧_∧_∧_∧_) ⟨hlt, hr, hat0, hpos, (hwd).symm⟩ ?_))
      ((refine awD_nil ?_); simp only [List.reverse_cons, List.reverse_nil, List.nil_append, List.cons_append]; (refine hKR _ _ (by first | rfl | kernel_rfl) ?_); (try clear hKR KR); (repeat (with_reducible first | refine q1 ?_ | refine q2 ?_ | refine q3 ?_ | refine q4 ?_ | refine q5 ?_ | refine q6 ?_ | (refine q7 ?_ ?_; (focus (with_unfolding_all rfl))))))
      by_cases hrw : r.length = wid m
      rotate_left 1
      · have e2 : ((r.length : Int) != (wid m : Int)) = true := by simpa using fun h => hrw (by omega)
        rw [e2]
        ((refine wia ?_))
        ((refine wqa ?_))
        ((repeat refine AW_seq ?_); (refine wta ?_); simp (disch := omega) only [retQ, resD, oneD, rsv, rs, rsL, rsL_eq_map, List.map_map, bb, bt, zDs, zD, eqCells, simprocAttr, Try.results22])
        rw [he]; unfold rowOk; rw [decide_eq_false hrw]; rfl
      have e2 : ((r.length : Int) != (wid m : Int)) = false := by simp [hrw]
      rw [e2]
      ((refine wia ?_))
      ((refine wsa ?_))
      have hro : rowOk (wid m) r = withinP r 32 := by unfold rowOk; rw [decide_eq_true hrw]; rfl
      rw [hro] at he
      ((refine wqa ?_))
      ((repeat refine AW_seq ?_))
      refine AW_block ?_
      refine AW_loop_w (fun x : Nat × Nat => ⟨[(0, mat m), (3, int k), (4, int x.1)], [], x.2⟩) (fun x => r.length - x.1) (fun x => x.1 ≤ r.length ∧ withinP r 32 = withinP (r.drop x.1) 32) (0, t2 + 1) ⟨Nat.zero_le _, rfl⟩ (by (simp (disch := omega) only [StLe, tmLe, hpLe_refl, hpLe, bl, bb, bt, zDs, zD, eqCells, simprocAttr])) ?_
      rintro ⟨j, t3⟩ ⟨hj, hw⟩
      simp only at hj hw
      by_cases hjl : j < r.length
      · obtain ⟨v, hv⟩ : ∃ y, r[j]? = some y := ⟨_, List.getElem?_eq_getElem hjl⟩
        have hdv : r.drop j = v :: r.drop (j + 1) := by
          obtain ⟨h1, h2⟩ := List.getElem?_eq_some_iff.1 hv
          rw [List.drop_eq_getElem_cons h1, h2]
        rw [hdv, within_cons] at hw
        ((refine wqb (F := _∧_∧_∧_) ⟨hlt, hr, @Int.ofNat_lt, hjl⟩ ?_))
        ((refine wia ?_))
        ((refine wsa ?_))
        ((repeat refine AW_seq ?_))
        refine AW_block ?_
        ((repeat refine AW_seq ?_); (refine AW_region_k tab_ok fun KR hKR => ?_)); ((refine wrb (F := _∧_∧_∧_) ⟨hlt, hr, hjl, hv⟩ ?_))
        ((refine wka1 (refWithin v 32 (by omega)) ?_))
        ((refine wra ?_)); ((refine wea ?_); (try clear hKR KR))
        by_cases hvb : -32 ≤ v ∧ v ≤ 32
        · rw [decide_eq_true hvb] at hw ⊢
          ((refine wia ?_))
          ((refine wsa ?_))
          ((refine wqa ?_))
          refine ⟨(j + 1, t3), ⟨hjl, by rw [hw, Bool.true_and]⟩, by show r.length - (j + 1) < r.length - j; omega, ?_⟩
          (simp (disch := omega) only [StLe, tmLe, hpLe_refl, hpLe, bl, bb, bt, zDs, zD, eqCells, simprocAttr])
        · rw [decide_eq_false hvb] at hw ⊢
          ((refine wia ?_))
          ((refine wqa ?_))
          ((repeat refine AW_seq ?_); (refine wta ?_); simp (disch := omega) only [retQ, resD, oneD, rsv, rs, rsL, rsL_eq_map, List.map_map, bb, bt, zDs, zD, eqCells, simprocAttr, Try.results22])
          rw [he, hw]; rfl
      · ((refine wqb (F := _∧_∧_∧_) ⟨hlt, hr, @Int.ofNat_lt, hjl⟩ ?_))
        ((refine wia ?_))
        ((refine wxa ?_))
        ((refine wqa ?_))
        rw [List.drop_eq_nil_of_le (by omega)] at hw
        refine ⟨(k + 1, t3), ⟨hlt, by rw [he, hw]; rfl⟩, by show m.length - (k + 1) < m.length - k; omega, ?_⟩
        (simp (disch := omega) only [StLe, tmLe, hpLe_refl, hpLe, bl, bb, bt, zDs, zD, eqCells, simprocAttr])
    · ((refine wqb (F := _∧_) ⟨@Int.ofNat_lt, hlt⟩ ?_))
      ((refine wia ?_))
      ((refine wxa ?_))
      refine ⟨t2, ?_, by (simp (disch := omega) only [StLe, tmLe, hpLe_refl, hpLe, bl, bb, bt, zDs, zD, eqCells, simprocAttr])⟩
      rw [he, List.drop_eq_nil_of_le (by omega)]; rfl
  · rintro t2 he
    ((refine wqa ?_))
    ((repeat refine AW_seq ?_); (refine wta ?_); simp (disch := omega) only [retQ, resD, oneD, rsv, rs, rsL, rsL_eq_map, List.map_map, bb, bt, zDs, zD, eqCells, simprocAttr, Try.results22])
    rw [he]
end Go.Proofs.Ytcjmknmlfggblaa.T
