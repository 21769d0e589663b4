import Derived.Test.YtcjmknmlfggblaaTB
import Derived.Test.YtcjmknmlfggblaaWP
import Derived.Test.YtcjmknmlfggblaaWG
import Derived.Test.YtcjmknmlfggblaaWY
set_option linter.all false
namespace Go.Proofs.Ytcjmknmlfggblaa.T
open Go Go.RowKit Lin
set_option linter.unusedSimpArgs false

theorem rank_same {m : List (List Int)} {w n : Nat} (hs : Small m w n) : (elimBy mvR m n).pivots.length = rankP m n := by
  unfold rankP
  rw [elim_by, pivots_agree (ups_mover m w) (mvR_mover m w) hs.lens n hs.le]
theorem refElimC (m : List (List Int)) {w n : Nat} (hs : Small m w n) (hw0 : 1 ≤ w) (hw' : w ≤ 1000) : PRet Try.prog 56 [mat m, int n] (FormD (elimBy mvR m n)) :=
  refEliminate m w n hs.rows hs.lens hw0 hw' hs.le (fitBy (mvR_mover m w) hs)
theorem refRank (m : List (List Int)) {w : Nat} (hs : Small m w w) (hw0 : 1 ≤ w) (hw' : w ≤ 1000) (h0 : 0 < m.length) : PRet Try.prog 28 [mat m] (int (rankP m w)) := by
  refine PRet.intro 1 fun t => ACall.enter tab_ok Try.func28 rfl rfl Try.ntmps28 (by simp) ?_
  simp only [enterTM]
  obtain ⟨r, hr⟩ : ∃ y, m[0]? = some y := ⟨_, List.getElem?_eq_getElem h0⟩
  have hrl := hs.lens r (List.mem_of_getElem? hr)
  have hc := refElimC m hs hw0 hw'
  rw [← rank_same hs]
  ((refine wqa ?_))
  ((repeat refine AW_seq ?_); (refine AW_region_k tab_ok fun KR hKR => ?_)); ((refine wrb (F := _∧_∧_) ⟨h0, hr, hrl⟩ ?_))
  ((refine wka1 hc ?_))
  ((repeat ((first | refine awOps_n rfl fun KK hKK => ?_ | refine awOps_g rfl rfl fun KK hKK => ?_ | refine awOps_gc rfl fun KK hKK => ?_); simp (disch := omega) only [bb, bt, zDs, zD, eqCells, simprocAttr, FormD, List.length_map]; refine hKK _ ?_; clear hKK KK))); ((refine wea ?_); (try clear hKR KR))
  ((repeat refine AW_seq ?_); (refine wta ?_); simp (disch := omega) only [retQ, resD, oneD, rsv, rs, rsL, rsL_eq_map, List.map_map, bb, bt, zDs, zD, eqCells, simprocAttr, Try.results28])
theorem refDet (m : List (List Int)) {w : Nat} (hs : Small m w w) (hw0 : 1 ≤ w) (hw' : w ≤ 1000) (hsq : m.length = w) : PRet Try.prog 31 [mat m] (int (detP m)) := by
  refine PRet.intro 1 fun t => ACall.enter tab_ok Try.func31 rfl rfl Try.ntmps31 (by simp) ?_
  simp only [enterTM]
  have hinv := elim_inv (mvR_mover m w) hs.lens w (Nat.le_refl _)
  have hinv' := elim_inv (ups_mover m w) hs.lens w (Nat.le_refl _)
  have hpv := pivots_agree (ups_mover m w) (mvR_mover m w) hs.lens w (Nat.le_refl _)
  have hden := hinv.den_small2 hs (Nat.le_refl _)
  have hc := refElimC m hs hw0 hw'
  have he : detP m = if (elimBy mvR m w).pivots.length < m.length then 0 else sgb (elimBy mvR m w).turned (elimBy mvR m w).den := by
    unfold detP
    simp only [elim_by, hsq]
    rw [hpv]
    split
    · rfl
    · rename_i hlt
      have hk := hinv.k_le
      have e1 := det_agree hinv (by omega)
      have e2 := det_agree hinv' (by rw [hpv]; omega)
      have hCC : CC (elimBy ups m w) = CC (elimBy mvR m w) := by simp only [CC, hpv]
      rw [hCC] at e2
      rw [e1, ← e2]
      cases (elimBy ups m w).turned <;> rfl
  rw [he]
  rw [← hsq] at hc hden ⊢
  generalize elimBy mvR m m.length = f at *
  ((refine wqa ?_))
  ((repeat refine AW_seq ?_); (refine AW_region_k tab_ok fun KR hKR => ?_)); ((refine wra ?_))
  ((refine wka1 hc ?_))
  ((repeat ((first | refine awOps_n rfl fun KK hKK => ?_ | refine awOps_g rfl rfl fun KK hKK => ?_ | refine awOps_gc rfl fun KK hKK => ?_); simp (disch := omega) only [bb, bt, zDs, zD, eqCells, simprocAttr, FormD, List.length_map]; refine hKK _ ?_; clear hKK KK))); ((refine wea ?_); (try clear hKR KR))
  by_cases hlt : f.pivots.length < m.length
  · have hlt' : (f.pivots.length : Int) < m.length := by omega
    rw [if_pos hlt]
    ((refine wqb hlt' ?_))
    ((refine wia ?_))
    ((refine wqa ?_))
    ((repeat refine AW_seq ?_); (refine wta ?_); simp (disch := omega) only [retQ, resD, oneD, rsv, rs, rsL, rsL_eq_map, List.map_map, bb, bt, zDs, zD, eqCells, simprocAttr, Try.results31])
  · have hlt' : ¬ (f.pivots.length : Int) < m.length := by omega
    rw [if_neg hlt]
    ((refine wqb hlt' ?_))
    ((refine wia ?_))
    ((refine wsa ?_))
    ((refine wqa ?_))
    cases htu : f.turned
    · ((refine wia ?_))
      ((refine wsa ?_))
      ((refine wqa ?_))
      ((repeat refine AW_seq ?_); (refine wta ?_); simp (disch := omega) only [retQ, resD, oneD, rsv, rs, rsL, rsL_eq_map, List.map_map, bb, bt, zDs, zD, eqCells, simprocAttr, Try.results31])
      rfl
    · ((refine wia ?_))
      ((refine wqa ?_))
      ((repeat refine AW_seq ?_); (refine wta ?_); simp (disch := omega) only [retQ, resD, oneD, rsv, rs, rsL, rsL_eq_map, List.map_map, bb, bt, zDs, zD, eqCells, simprocAttr, Try.results31])
      rfl

set_option maxHeartbeats 1000000 in
theorem refIndependent (m : List (List Int)) {w : Nat} (hs : Small m w w) (hw0 : 1 ≤ w) (hw' : w ≤ 1000) : PRet Try.prog 30 [mat m] (.sl 1 (natI (indS (fun k => rankP (m.take k) w) m.length).1) false) := by
  refine PRet.intro 2 fun t => ACall.enter tab_ok Try.func30 rfl rfl Try.ntmps30 (by simp) ?_
  simp only [enterTM]
  have hm6 := hs.rows
  ((refine wqa ?_))
  ((refine wqa ?_))
  refine AW.begin 3 1 3 rfl (by omega) ?_
  (simp (disch := omega) only [bb, bt, zDs, zD, eqCells, simprocAttr])
  ((refine wqa ?_))
  ((repeat refine AW_seq ?_))
  refine AW_mid (fun x : Nat × Nat => ⟨[(3, .own 1 0 x.1 0 (indS (fun k => rankP (m.take k) w) m.length).1.length)], [some ⟨3, x.1, natI (indS (fun k => rankP (m.take k) w) m.length).1⟩], x.2⟩) (fun _ => True) ?_ ?_
  · refine AW_block ?_
    refine AW_loop_w (fun x : Nat × Nat × Nat => ⟨[(0, mat m), (3, .own 1 0 x.2.1 0 (indS (fun k => rankP (m.take k) w) x.1).1.length), (4, int x.1)], [some ⟨3, x.2.1, natI (indS (fun k => rankP (m.take k) w) x.1).1⟩], x.2.2⟩) (fun x => m.length - x.1) (fun x => x.1 ≤ m.length) (0, t + 1, t + 1) (Nat.zero_le _) (by (simp (disch := omega) only [StLe, tmLe, hpLe_refl, hpLe, bl, bb, bt, zDs, zD, eqCells, simprocAttr, indS])) ?_
    rintro ⟨k, g, tt⟩ hk
    simp only at hk
    by_cases hlt : k < m.length
    · ((refine wqb (F := _∧_) ⟨@Int.ofNat_lt, hlt⟩ ?_))
      ((refine wia ?_))
      ((refine wsa ?_))
      ((repeat refine AW_seq ?_))
      refine AW_block ?_
      ((refine wqa ?_))
      have hk1 : k + 1 ≤ m.length := hlt
      have hc1 := refRank (m.take (k + 1)) (Small.take hs (k + 1)) hw0 hw' (by simp; omega)
      have hc0 := refRank (m.take k) (Small.take hs k) hw0 hw'
      have hir := indS_rank hs k
      have hil := indS_len (fun k => rankP (m.take k) w) k
      refine AW_cut (fun x : Nat => ⟨[(0, mat m), (3, .own 1 0 g 0 (indS (fun k => rankP (m.take k) w) k).1.length), (4, int k), (5, int (rankP (m.take k) w))], [some ⟨3, g, natI (indS (fun k => rankP (m.take k) w) k).1⟩], x⟩) (fun _ => True) ?_ ?_
      · by_cases hk0 : 0 < k
        · have hk0' : (0 : Int) < k := by omega
          have hc0 := hc0 (by simp; omega)
          ((refine wqb hk0' ?_))
          ((refine wia ?_))
          ((repeat refine AW_seq ?_); (refine AW_region_k tab_ok fun KR hKR => ?_)); ((repeat ((first | refine awOps_n rfl fun KK hKK => ?_ | refine awOps_g rfl rfl fun KK hKK => ?_ | refine awOps_gc rfl fun KK hKK => ?_); simp (disch := omega) only [bb, bt, zDs, zD, eqCells, simprocAttr, List.length_map, ← List.map_take, hk, Nat.sub_zero]; refine hKK _ ?_; clear hKK KK)))
          ((refine wka1 hc0 ?_))
          ((refine wra ?_)); ((refine wea ?_); (try clear hKR KR))
          exact ⟨tt, trivial, by (simp (disch := omega) only [StLe, tmLe, hpLe_refl, hpLe, bl, bb, bt, zDs, zD, eqCells, simprocAttr])⟩
        · have hk0' : ¬ (0 : Int) < k := by omega
          have hke : k = 0 := by omega
          ((refine wqb hk0' ?_))
          ((refine wia ?_))
          ((refine wsa ?_))
          refine ⟨tt, trivial, ?_⟩
          rw [show (rankP (m.take k) w : Int) = 0 by rw [hke, rank_zero hs]; rfl]
          (simp (disch := omega) only [StLe, tmLe, hpLe_refl, hpLe, bl, bb, bt, zDs, zD, eqCells, simprocAttr])
      · rintro tt -
        ((repeat refine AW_seq ?_); (refine AW_region_k tab_ok fun KR hKR => ?_)); ((repeat ((first | refine awOps_n rfl fun KK hKK => ?_ | refine awOps_g rfl rfl fun KK hKK => ?_ | refine awOps_gc rfl fun KK hKK => ?_); simp (disch := omega) only [bb, bt, zDs, zD, eqCells, simprocAttr, List.length_map, ← List.map_take, hk1, Int.toNat_natCast_add_one, Nat.sub_zero]; refine hKK _ ?_; clear hKK KK)))
        ((refine wka1 hc1 ?_))
        ((refine wra ?_)); ((refine wea ?_); (try clear hKR KR))
        rw [← hir]
        by_cases hgt : (indS (fun k => rankP (m.take k) w) k).2 < rankP (m.take (k + 1)) w
        · have hgt' : (((indS (fun k => rankP (m.take k) w) k).2 : Nat) : Int) < ((rankP (m.take (k + 1)) w : Nat) : Int) := by omega
          have e1 : indS (fun k => rankP (m.take k) w) (k + 1) = ((indS (fun k => rankP (m.take k) w) k).1 ++ [k], rankP (m.take (k + 1)) w) := by simp only [indS]; rw [if_pos hgt]
          rw [hir] at hgt'
          rw [hir]
          rw [decide_eq_true hgt']
          ((refine wia ?_))
          ((refine wqa ?_))
          ((refine wqa ?_))
          refine ⟨(k + 1, tt + 1, tt + 1), hlt, by show m.length - (k + 1) < m.length - k; omega, ?_⟩
          simp only [e1]
          (simp (disch := omega) only [StLe, tmLe, hpLe_refl, hpLe, bl, bb, bt, zDs, zD, eqCells, simprocAttr, natI, List.map_append, List.length_append])
        · have hgt' : ¬ (((indS (fun k => rankP (m.take k) w) k).2 : Nat) : Int) < ((rankP (m.take (k + 1)) w : Nat) : Int) := by omega
          have e1 : indS (fun k => rankP (m.take k) w) (k + 1) = indS (fun k => rankP (m.take k) w) k := by simp only [indS]; rw [if_neg hgt]
          rw [hir] at hgt'
          rw [hir]
          rw [decide_eq_false hgt']
          ((refine wia ?_))
          ((refine wsa ?_))
          ((refine wqa ?_))
          refine ⟨(k + 1, g, tt), hlt, by show m.length - (k + 1) < m.length - k; omega, ?_⟩
          simp only [e1]
          (simp (disch := omega) only [StLe, tmLe, hpLe_refl, hpLe, bl, bb, bt, zDs, zD, eqCells, simprocAttr])
    · have hke : k = m.length := by omega
      subst hke
      ((refine wqb @Int.lt_irrefl ?_))
      ((refine wia ?_))
      ((refine wxa ?_))
      exact ⟨(g, tt), trivial, by (simp (disch := omega) only [StLe, tmLe, hpLe_refl, hpLe, bl, bb, bt, zDs, zD, eqCells, simprocAttr])⟩
  · rintro ⟨g, tt⟩ -
    ((refine wqa ?_))
    have hnat : ∀ (l : List Nat), (natI l).map (fun x => rs (fun x => D.any) [some ⟨3, g, natI l⟩] x) = natI l := fun l => by
      rw [List.map_map]
      exact List.map_congr_left fun x _ => by simp only [Function.comp_apply, rs]
    ((repeat refine AW_seq ?_); (refine wta ?_); simp (disch := omega) only [retQ, resD, oneD, rsv, rs, rsL, rsL_eq_map, List.map_map, bb, bt, zDs, zD, eqCells, simprocAttr, Try.results30, List.length_map, List.take_length])
    rw [List.take_of_length_le (by simp), hnat]
end Go.Proofs.Ytcjmknmlfggblaa.T
