import Derived.Test.YtcjmknmlfggblaaTB
import Derived.Test.YtcjmknmlfggblaaLSA
import Derived.Test.YtcjmknmlfggblaaWQ
import Derived.Test.YtcjmknmlfggblaaWR
set_option linter.all false
namespace Go.Proofs.Ytcjmknmlfggblaa.T
open Go Go.RowKit Lin
set_option linter.unusedSimpArgs false

theorem within_cons2 (x : Int) (l : List Int) {b : Int} (hb : 0 ≤ b) : withinP (x :: l) b = (decide (-b ≤ x ∧ x ≤ b) && withinP l b) := by
  unfold withinP
  rw [List.any_cons, Bool.not_or]
  congr 1
  by_cases h1 : x < -b
  · simp [h1]; omega
  · by_cases h2 : b < x
    · simp [h2]
    · simp [h1, h2]; omega
theorem refRight (r : List Int) (hl : r.length ≤ 1000000) : PRet Try.prog 25 [ints r] (bool (withinP r 67108864)) := by
  refine PRet.intro 1 fun t => ACall.enter tab_ok Try.func25 rfl rfl Try.ntmps25 (by simp) ?_
  simp only [enterTM]
  ((refine gga0 ?_))
  ((repeat refine AW_seq ?_))
  refine AW_mid (fun x : Nat => ⟨[], [], x⟩) (fun _ => withinP r 67108864 = true) ?_ ?_
  · refine AW_block ?_
    refine AW_loop_w (fun x : Nat × Nat => ⟨[(0, ints r), (3, int x.1)], [], x.2⟩) (fun x => r.length - x.1) (fun x => x.1 ≤ r.length ∧ withinP r 67108864 = withinP (r.drop x.1) 67108864) (0, t) ⟨Nat.zero_le _, rfl⟩ (by (simp (disch := omega) only [StLe, tmLe, hpLe_refl, hpLe, bl, bb, bt, zDs, zD, eqCells, simprocAttr])) ?_
    rintro ⟨j, t3⟩ ⟨hj, hw⟩
    simp only at hj hw
    by_cases hjl : j < r.length
    · obtain ⟨v, hv⟩ : ∃ y, r[j]? = some y := ⟨_, List.getElem?_eq_getElem hjl⟩
      have hdv : r.drop j = v :: r.drop (j + 1) := by
        obtain ⟨h1, h2⟩ := List.getElem?_eq_some_iff.1 hv
        rw [List.drop_eq_getElem_cons h1, h2]
      rw [hdv, within_cons2 _ _ (by decide)] at hw
      have hcw := refWithin v 67108864 (by omega)
      ((refine ggb0 (F := _∧_) ⟨@Int.ofNat_lt, hjl⟩ ?_))
      ((repeat refine AW_seq ?_))
      refine AW_block ?_
      by_cases hvb : -67108864 ≤ v ∧ v ≤ 67108864
      · rw [decide_eq_true hvb] at hw hcw
        ((refine ggb1 (F := _∧_) ⟨hjl, hv⟩ hcw ?_))
        refine ⟨(j + 1, t3), ⟨hjl, by rw [hw, Bool.true_and]⟩, by show r.length - (j + 1) < r.length - j; omega, ?_⟩
        (simp (disch := omega) only [StLe, tmLe, hpLe_refl, hpLe, bl, bb, bt, zDs, zD, eqCells, simprocAttr])
      · rw [decide_eq_false hvb] at hw hcw
        ((refine ggb1 (F := _∧_) ⟨hjl, hv⟩ hcw ?_))
        ((repeat refine AW_seq ?_); (refine wta ?_); simp (disch := omega) only [retQ, resD, oneD, rsv, rs, rsL, rsL_eq_map, List.map_map, bb, bt, zDs, zD, eqCells, simprocAttr, Try.results25])
        rw [hw]; rfl
    · ((refine ggb0 (F := _∧_) ⟨@Int.ofNat_lt, hjl⟩ ?_))
      refine ⟨t3, ?_, by (simp (disch := omega) only [StLe, tmLe, hpLe_refl, hpLe, bl, bb, bt, zDs, zD, eqCells, simprocAttr])⟩
      rw [hw, List.drop_eq_nil_of_le (by omega)]; rfl
  · rintro t2 he
    ((refine gga0 ?_))
    ((repeat refine AW_seq ?_); (refine wta ?_); simp (disch := omega) only [retQ, resD, oneD, rsv, rs, rsL, rsL_eq_map, List.map_map, bb, bt, zDs, zD, eqCells, simprocAttr, Try.results25])
    rw [he]
theorem equalFuncFr (a b : List (List (Int × Int))) (ha : a.length ≤ 1000000) (hb : b.length ≤ 1000000) (hal : ∀ x ∈ a, x.length ≤ 1000000) (hbl : ∀ x ∈ b, x.length ≤ 1000000) : PRet Try.prog 23 [frss a, frss b, .fn 18 []] (bool (a == b)) := by
  refine PRet.intro 1 fun t => ACall.enter tab_ok Try.func23 rfl rfl Try.ntmps23 (by simp) ?_
  simp only [enterTM]
  by_cases hl : a.length = b.length
  rotate_left 1
  · have e1 : ((a.length : Int) != (b.length : Int)) = true := by simpa using fun h => hl (by omega)
    ((refine ggb0 e1 ?_))
    ((repeat refine AW_seq ?_); (refine wta ?_); simp (disch := omega) only [retQ, resD, oneD, rsv, rs, rsL, rsL_eq_map, List.map_map, bb, bt, zDs, zD, eqCells, simprocAttr, Try.results23])
    have : (a == b) = false := by rw [beq_eq_false_iff_ne]; intro h; exact hl (by rw [h])
    rw [this]
  have e1 : ((a.length : Int) != (b.length : Int)) = false := by simp [hl]
  ((refine ggb0 e1 ?_))
  ((repeat refine AW_seq ?_))
  refine AW_mid (fun x : Nat => ⟨[], [], x⟩) (fun _ => (a == b) = true) ?_ ?_
  · refine AW_block ?_
    refine AW_loop_w (fun x : Nat × Nat => ⟨[(0, frss a), (1, frss b), (2, .fn 18 []), (15, frss a), (16, int a.length), (17, int x.1)], [], x.2⟩) (fun x => a.length - x.1) (fun x => x.1 ≤ a.length ∧ (a == b) = (a.drop x.1 == b.drop x.1)) (0, t) ⟨Nat.zero_le _, rfl⟩ (by (simp (disch := omega) only [StLe, tmLe, hpLe_refl, hpLe, bl, bb, bt, zDs, zD, eqCells, simprocAttr])) ?_
    rintro ⟨k, t2⟩ ⟨hk, he⟩
    simp only at hk he
    by_cases hlt : k < a.length
    · have hltb : k < b.length := by omega
      obtain ⟨x, hx⟩ : ∃ y, a[k]? = some y := ⟨_, List.getElem?_eq_getElem hlt⟩
      obtain ⟨y, hy⟩ : ∃ y, b[k]? = some y := ⟨_, List.getElem?_eq_getElem hltb⟩
      have hda : a.drop k = x :: a.drop (k + 1) := by
        obtain ⟨h1, h2⟩ := List.getElem?_eq_some_iff.1 hx
        rw [List.drop_eq_getElem_cons h1, h2]
      have hdb : b.drop k = y :: b.drop (k + 1) := by
        obtain ⟨h1, h2⟩ := List.getElem?_eq_some_iff.1 hy
        rw [List.drop_eq_getElem_cons h1, h2]
      rw [hda, hdb, List.cons_beq_cons] at he
      have hce := equalFr x y (hal x (List.mem_of_getElem? hx)) (hbl y (List.mem_of_getElem? hy))
      ((refine ggb0 (F := _∧_) ⟨@Int.ofNat_lt, hlt⟩ ?_))
      ((repeat refine AW_seq ?_))
      refine AW_block ?_
      cases hxy : x == y
      · rw [hxy] at he hce
        ((refine ggb1 (F := _∧_∧_∧_) ⟨hlt, hltb, hx, hy⟩ hce ?_))
        ((repeat refine AW_seq ?_); (refine wta ?_); simp (disch := omega) only [retQ, resD, oneD, rsv, rs, rsL, rsL_eq_map, List.map_map, bb, bt, zDs, zD, eqCells, simprocAttr, Try.results23])
        rw [he]; rfl
      · rw [hxy] at he hce
        ((refine ggb1 (F := _∧_∧_∧_) ⟨hlt, hltb, hx, hy⟩ hce ?_))
        refine ⟨(k + 1, t2), ⟨hlt, by rw [he, Bool.true_and]⟩, by show a.length - (k + 1) < a.length - k; omega, ?_⟩
        (simp (disch := omega) only [StLe, tmLe, hpLe_refl, hpLe, bl, bb, bt, zDs, zD, eqCells, simprocAttr])
    · ((refine ggb0 (F := _∧_) ⟨@Int.ofNat_lt, hlt⟩ ?_))
      refine ⟨t2, ?_, by (simp (disch := omega) only [StLe, tmLe, hpLe_refl, hpLe, bl, bb, bt, zDs, zD, eqCells, simprocAttr])⟩
      rw [he, List.drop_eq_nil_of_le (by omega), List.drop_eq_nil_of_le (by omega)]; rfl
  · rintro t2 he
    ((refine gga0 ?_))
    ((repeat refine AW_seq ?_); (refine wta ?_); simp (disch := omega) only [retQ, resD, oneD, rsv, rs, rsL, rsL_eq_map, List.map_map, bb, bt, zDs, zD, eqCells, simprocAttr, Try.results23])
    rw [he]
end Go.Proofs.Ytcjmknmlfggblaa.T
