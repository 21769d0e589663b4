import Derived.Test.YthabldkbiedfmaaTB
import Derived.Test.YthabldkbiedfmaaWP
import Derived.Test.YthabldkbiedfmaaWG
import Derived.Test.YthabldkbiedfmaaWY
import Derived.Test.YthabldkbiedfmaaWN
import Derived.Test.YthabldkbiedfmaaLSA
import Derived.Test.YthabldkbiedfmaaWK
set_option linter.all false
namespace Go.Proofs.Ythabldkbiedfmaa.T
open Go Go.RowKit Lin
set_option linter.unusedSimpArgs false

theorem rank_same {m : List (List Int)} {w n : Nat} (hs : Small m w n) : (elimBy mvR m n).pivots.length = rankP m n := by
  unfold rankP
  rw [elim_by, pivots_agree (ups_mover m w) (mvR_mover m w) hs.lens n hs.le]
theorem refElimC (m : List (List Int)) {w n : Nat} (hs : Small m w n) (hw0 : 1 ≤ w) (hw' : w ≤ 1000) : PRet Try.prog 198 [mat m, int n] (FormD (elimBy mvR m n)) :=
  refEliminate m w n hs.rows hs.lens hw0 hw' hs.le (fitBy (mvR_mover m w) hs)
end Go.Proofs.Ythabldkbiedfmaa.T

namespace Go.Proofs.Ythabldkbiedfmaa.T
open Go Go.RowKit Lin
set_option linter.unusedSimpArgs false

/-- A slice of fractions by two numbers each. -/
theorem equalFr (a b : List (Int × Int)) (ha : a.length ≤ 1000000) (hb : b.length ≤ 1000000) : PRet Try.prog 32 [frs a, frs b] (bool (a == b)) := by
  refine PRet.intro 1 fun t => ACall.enter tab_ok Try.func32 rfl rfl Try.ntmps32 (by simp) ?_
  simp only [enterTM]
  have hla := frC_len a
  have hlb := frC_len b
  have ha2 : (frC a).length / 2 = a.length := by omega
  have hb2 : (frC b).length / 2 = b.length := by omega
  ((refine wqa ?_))
  by_cases hl : a.length = b.length
  rotate_left 1
  · have e1 : ((a.length : Int) != (b.length : Int)) = true := by simpa using fun h => hl (by omega)
    ((refine wqb (F := _∧_∧_) ⟨ha2, hb2, e1⟩ ?_))
    ((refine wia ?_))
    ((refine wqa ?_))
    ((repeat refine AW_seq ?_); (refine wta ?_); simp (disch := omega) only [retQ, resD, oneD, rsv, rs, rsL, rsL_eq_map, List.map_map, bb, bt, zDs, zD, eqCells, simprocAttr, Try.results32])
    have : (a == b) = false := by rw [beq_eq_false_iff_ne]; intro h; exact hl (by rw [h])
    rw [this]
  have e1 : ((a.length : Int) != (b.length : Int)) = false := by simp [hl]
  ((refine wqb (F := _∧_∧_) ⟨ha2, hb2, e1⟩ ?_))
  ((refine wia ?_))
  ((refine wsa ?_))
  ((refine wqb ha2 ?_))
  ((repeat refine AW_seq ?_))
  refine AW_mid (fun x : Nat => ⟨[], [], x⟩) (fun _ => (a == b) = true) ?_ ?_
  · refine AW_block ?_
    refine AW_loop_w (fun x : Nat × Nat => ⟨[(0, frs a), (1, frs b), (12, int a.length), (13, int x.1)], [], x.2⟩) (fun x => a.length - x.1) (fun x => x.1 ≤ a.length ∧ (a == b) = (a.drop x.1 == b.drop x.1)) (0, t) ⟨Nat.zero_le _, rfl⟩ (by (simp (disch := omega) only [StLe, tmLe, hpLe_refl, hpLe, bl, bb, bt, zDs, zD, eqCells, simprocAttr])) ?_
    rintro ⟨k, t2⟩ ⟨hk, he⟩
    simp only at hk he
    by_cases hlt : k < a.length
    · have hltb : k < b.length := by omega
      obtain ⟨x, hx⟩ : ∃ y, a[k]? = some y := ⟨_, List.getElem?_eq_getElem hlt⟩
      obtain ⟨y, hy⟩ : ∃ y, b[k]? = some y := ⟨_, List.getElem?_eq_getElem hltb⟩
      have hda : a.drop k = x :: a.drop (k + 1) := by
        obtain ⟨h1, h2⟩ := List.getElem?_eq_some_iff.1 hx
        rw [List.drop_eq_getElem_cons h1, h2]
      have hdb : b.drop k = y :: b.drop (k + 1) := by
        obtain ⟨h1, h2⟩ := List.getElem?_eq_some_iff.1 hy
        rw [List.drop_eq_getElem_cons h1, h2]
      rw [hda, hdb, List.cons_beq_cons] at he
      ((refine wqb (F := _∧_) ⟨@Int.ofNat_lt, hlt⟩ ?_))
      ((refine wia ?_))
      ((refine wsa ?_))
      ((repeat refine AW_seq ?_))
      refine AW_block ?_
      ((refine wqa ?_))
      ((repeat refine AW_seq ?_); (refine AW_drawn_k tab_ok follows_mixed 0 fun KR hKR => ?_); simp only [List.replicate_succ, List.replicate_zero, List.append_nil, List.nil_append, List.cons_append, List.length_cons, List.length_nil, Nat.reduceAdd])
      have hra := frC_read a k x hx
      have hrb := frC_read b k y hy
      ((refine wdb (F := _∧_∧_∧_∧_∧_) ⟨ha2, hb2, hlt, hltb, hra, hrb⟩ ?_))
      ((refine awD_nil ?_); simp only [List.reverse_cons, List.reverse_nil, List.nil_append, List.cons_append]; (refine hKR _ _ (by first | rfl | kernel_rfl) ?_); (try clear hKR KR); (repeat (with_reducible first | refine q1 ?_ | refine q2 ?_ | refine q3 ?_ | refine q4 ?_ | refine q5 ?_ | refine q6 ?_ | (refine q7 ?_ ?_; (focus (with_unfolding_all rfl))))))
      have hbe : (x == y) = ((x.1 == y.1) && (x.2 == y.2)) := rfl
      by_cases hxy : x = y
      · subst hxy
        ((refine wia ?_))
        ((refine wsa ?_))
        ((refine wqa ?_))
        refine ⟨(k + 1, t2 + 1), ⟨hlt, by rw [he, beq_self_eq_true, Bool.true_and]⟩, by show a.length - (k + 1) < a.length - k; omega, ?_⟩
        (simp (disch := omega) only [StLe, tmLe, hpLe_refl, hpLe, bl, bb, bt, zDs, zD, eqCells, simprocAttr])
      · have e2 := beq_eq_false_iff_ne.2 hxy
        rw [hbe] at e2
        (simp (disch := omega) only [bb, bt, zDs, zD, eqCells, simprocAttr, e2])
        ((refine wia ?_))
        ((refine wqa ?_))
        ((repeat refine AW_seq ?_); (refine wta ?_); simp (disch := omega) only [retQ, resD, oneD, rsv, rs, rsL, rsL_eq_map, List.map_map, bb, bt, zDs, zD, eqCells, simprocAttr, Try.results32])
        rw [he, beq_eq_false_iff_ne.2 hxy]; rfl
    · ((refine wqb (F := _∧_) ⟨@Int.ofNat_lt, hlt⟩ ?_))
      ((refine wia ?_))
      ((refine wxa ?_))
      refine ⟨t2, ?_, by (simp (disch := omega) only [StLe, tmLe, hpLe_refl, hpLe, bl, bb, bt, zDs, zD, eqCells, simprocAttr])⟩
      rw [he, List.drop_eq_nil_of_le (by omega), List.drop_eq_nil_of_le (by omega)]; rfl
  · rintro t2 he
    ((refine wqa ?_))
    ((repeat refine AW_seq ?_); (refine wta ?_); simp (disch := omega) only [retQ, resD, oneD, rsv, rs, rsL, rsL_eq_map, List.map_map, bb, bt, zDs, zD, eqCells, simprocAttr, Try.results32])
    rw [he]
end Go.Proofs.Ythabldkbiedfmaa.T

namespace Go.Proofs.Ythabldkbiedfmaa.T
open Go Go.RowKit Lin
set_option linter.unusedSimpArgs false

theorem within_cons2 (x : Int) (l : List Int) {b : Int} (hb : 0 ≤ b) : withinP (x :: l) b = (decide (-b ≤ x ∧ x ≤ b) && withinP l b) := by
  unfold withinP
  rw [List.any_cons, Bool.not_or]
  congr 1
  by_cases h1 : x < -b
  · simp [h1]; omega
  · by_cases h2 : b < x
    · simp [h2]
    · simp [h1, h2]; omega
end Go.Proofs.Ythabldkbiedfmaa.T

namespace Go.Proofs.Ythabldkbiedfmaa.T
open Go Go.RowKit Lin
set_option linter.unusedSimpArgs false

theorem natE_ints (l : List Nat) : natE l = (l.map fun x : Nat => (x : Int)).map int := by rw [List.map_map]; rfl
abbrev refB (f : Frm) (g : Nat) : Option Blk := some ⟨201, g, [mat f.rows, ints (f.pivots.map fun x : Nat => (x : Int)), int f.den, bool f.turned]⟩
def solsP (f : Frm) (n k : Nat) : List (Int × Int) := (List.range k).map fun k => (makeP (Lin.at_ (Lin.row f.rows k) n) f.den).1
theorem solsP_len (f : Frm) (n k : Nat) : (solsP f n k).length = k := by simp [solsP]
theorem rsv_frC (H : Hp) (k : Nat) (l : List (Int × Int)) : (frC l).map (rsv H (k + 1)) = frC l := by
  induction l with
  | nil => rfl
  | cons p l ih =>
    simp only [frC, List.flatMap_cons, List.map_append] at ih ⊢
    rw [ih]; rfl
set_option maxHeartbeats 2000000 in
theorem refSolve (m : List (List Int)) (right : List Int) (hv : validP m = true) (hr : right.length = m.length) (hw : withinP right 67108864 = true) : PRet Try.prog 114 [mat m, ints right] (fse (solF (elimBy mvR (copyP m right) (wid m)) (wid m))) := by
  refine PRet.intro 3 fun t => ACall.enter tab_ok Try.func114 rfl rfl Try.ntmps114 (by simp) ?_
  simp only [enterTM]
  obtain ⟨h1, h2, h3⟩ := validP_iff.1 hv
  obtain ⟨r0, m', hm0⟩ : ∃ r0 m', m = r0 :: m' := by
    cases m with
    | nil => simp at h1
    | cons a b => exact ⟨a, b, rfl⟩
  have hwd : wid m = r0.length := by rw [hm0]; rfl
  have hat0 : m[0]? = some r0 := by rw [hm0]; rfl
  have hpos : 0 < m.length := by omega
  have hsm := both_small hv hr hw
  have hc := refElimC (copyP m right) hsm (by omega) (by omega)
  have hinv := elim_inv (mvR_mover (copyP m right) (wid m + 1)) hsm.lens (wid m) (by omega)
  ((refine ggb0 (F := _∧_∧_) ⟨hat0, hpos, (hwd).symm⟩ ?_))
  (try with_reducible intro KR hKR); (first | refine awOps_nc fun KK hKK => ?_ | refine awOps_gc rfl fun KK hKK => ?_)
  (simp (disch := omega) only [bb, bt, zDs, zD, eqCells, simprocAttr, goC, callO_fn, argsD])
  refine copy_call (m := m) (right := right) (by omega) (fun r hr => ⟨fun e => by have := (h3 r hr).1; rw [e] at this; simp at this; omega, by have := (h3 r hr).1; omega⟩) (by omega) rfl fun ga cells R t1 hL hR ht1 => ?_
  (simp (disch := omega) only [bb, bt, zDs, zD, eqCells, simprocAttr, afterC])
  refine hKK _ ?_; clear hKK KK
  (((first | refine awOps_n rfl fun KK hKK => ?_ | refine awOps_g rfl rfl fun KK hKK => ?_ | refine awOps_gc rfl fun KK hKK => ?_); simp (disch := omega) only [bb, bt, zDs, zD, eqCells, simprocAttr]; refine hKK _ ?_; clear hKK KK))
  (try with_reducible intro KR hKR); (first | refine awOps_nc fun KK hKK => ?_ | refine awOps_gc rfl fun KK hKK => ?_)
  (simp (disch := omega) only [bb, bt, zDs, zD, eqCells, simprocAttr, goC, callO_fn, argsD])
  have hlc : cells.length = m.length := by
    have := hL.lc
    simpa using this
  have hval := hL.value (m := 0) (H2 := some ⟨72, ga, cells⟩ :: R) (by omega) (fun x hx => by simp) 1
  have hz : zv 0 (some ⟨72, ga, cells⟩ :: R) 3 (.own 1 0 ga 0 m.length) = mat (copyP m right) := by
    rw [zv]
    simp only [zz, Nat.lt_irrefl, if_false, Nat.sub_self, List.getElem?_cons_zero, Nat.zero_add, Nat.mul_one, hlc, Nat.le_refl, and_self, if_true, List.drop_zero]
    rw [List.take_of_length_le (by omega)]
    exact congrArg (fun l => D.sl 1 l false) hval
  refine ACall.of_tail 3 [] (some ⟨72, ga, cells⟩ :: R) rfl hc ?_ ?_
  · simp only [List.map_cons, List.map_nil, List.length_nil, zv_v, hz]
    rfl
  simp only [zH, List.map_nil, List.length_nil]
  (simp (disch := omega) only [bb, bt, zDs, zD, eqCells, simprocAttr, afterC])
  refine hKK _ ?_; clear hKK KK
  ((repeat ((first | refine awOps_n rfl fun KK hKK => ?_ | refine awOps_g rfl rfl fun KK hKK => ?_ | refine awOps_gc rfl fun KK hKK => ?_); simp (disch := omega) only [bb, bt, zDs, zD, eqCells, simprocAttr, FormD, natE_ints]; refine hKK _ ?_; clear hKK KK))); ((refine wea ?_); (try clear hKR KR))
  clear hL hval hz hlc hR
  have hin2 := hinv.small2 hsm (Nat.le_refl _)
  have hdn2 := hinv.den_small2 hsm (Nat.le_refl _)
  have hd0 := hinv.den0
  have hcl : (copyP m right).length = m.length := by simp [copyP]
  have hfr := hinv.nr
  have hfk := hinv.k_le
  have hfl := hinv.lens
  generalize elimBy mvR (copyP m right) (wid m) = f at *
  rw [hcl] at hfr hfk
  ((refine gga0 ?_))
  unfold solF
  ((repeat refine AW_seq ?_))
  refine AW_mid (fun x : Nat => ⟨[(6, int (wid m)), (7, .ptr 0 (t1 + 1) 0)], [refB f (t1 + 1)], x⟩) (fun _ => ((f.rows.drop f.pivots.length).any fun r => Lin.at_ r (wid m) != 0) = false) ?_ ?_
  · refine AW_block ?_
    refine AW_loop_w (fun x : Nat × Nat => ⟨[(0, mat m), (6, int (wid m)), (7, .ptr 0 (t1 + 1) 0), (8, int x.1)], [refB f (t1 + 1)], x.2⟩) (fun x => m.length - x.1) (fun x => x.1 ≤ m.length ∧ ((f.rows.drop f.pivots.length).any fun r => Lin.at_ r (wid m) != 0) = ((f.rows.drop x.1).any fun r => Lin.at_ r (wid m) != 0)) (f.pivots.length, t1 + 1) ⟨hfk, rfl⟩ (by (simp (disch := omega) only [StLe, tmLe, hpLe_refl, hpLe, bl, bb, bt, zDs, zD, eqCells, simprocAttr])) ?_
    rintro ⟨y, t2⟩ ⟨hy, ha⟩
    simp only at hy ha
    by_cases hlt : y < m.length
    · have hlt2 : y < f.rows.length := by omega
      obtain ⟨r, hr2⟩ : ∃ r, f.rows[y]? = some r := ⟨_, List.getElem?_eq_getElem hlt2⟩
      have hrn := hfl r (List.mem_of_getElem? hr2)
      have hwl : wid m < r.length := by omega
      obtain ⟨v, hv2⟩ : ∃ v, r[wid m]? = some v := ⟨_, List.getElem?_eq_getElem hwl⟩
      have hat : Lin.at_ r (wid m) = v := by simp [Lin.at_, hv2]
      have hdr : f.rows.drop y = r :: f.rows.drop (y + 1) := by
        obtain ⟨a1, a2⟩ := List.getElem?_eq_some_iff.1 hr2
        rw [List.drop_eq_getElem_cons a1, a2]
      rw [hdr, List.any_cons, hat] at ha
      ((refine ggb0 (F := _∧_) ⟨@Int.ofNat_lt, hlt⟩ ?_))
      ((repeat refine AW_seq ?_))
      refine AW_block ?_
      cases hvz : (v != 0)
      · ((refine ggb0 (F := _∧_∧_∧_∧_) ⟨hlt2, hr2, hwl, hv2, hvz⟩ ?_))
        refine ⟨(y + 1, t2), ⟨hlt, by rw [ha, hvz, Bool.false_or]⟩, by show m.length - (y + 1) < m.length - y; omega, ?_⟩
        (simp (disch := omega) only [StLe, tmLe, hpLe_refl, hpLe, bl, bb, bt, zDs, zD, eqCells, simprocAttr])
      · ((refine ggb0 (F := _∧_∧_∧_∧_) ⟨hlt2, hr2, hwl, hv2, hvz⟩ ?_))
        ((repeat refine AW_seq ?_); (refine wta ?_); simp (disch := omega) only [retQ, resD, oneD, rsv, rs, rsL, rsL_eq_map, List.map_map, bb, bt, zDs, zD, eqCells, simprocAttr, Try.results114])
        rw [ha, hvz]; rfl
    · ((refine ggb0 (F := _∧_) ⟨@Int.ofNat_lt, hlt⟩ ?_))
      exact ⟨t2, by rw [ha, List.drop_eq_nil_of_le (by omega)]; rfl, by (simp (disch := omega) only [StLe, tmLe, hpLe_refl, hpLe, bl, bb, bt, zDs, zD, eqCells, simprocAttr])⟩
  · rintro t2 hany
    rw [hany]
    simp only [Bool.false_eq_true, if_false]
    by_cases hlt : f.pivots.length < wid m
    · have hlt' : (f.pivots.length : Int) < wid m := by omega
      ((refine ggb0 hlt' ?_))
      ((repeat refine AW_seq ?_); (refine wta ?_); simp (disch := omega) only [retQ, resD, oneD, rsv, rs, rsL, rsL_eq_map, List.map_map, bb, bt, zDs, zD, eqCells, simprocAttr, Try.results114, hlt])
      rfl
    · have hlt' : ¬ (f.pivots.length : Int) < wid m := by omega
      rw [if_neg hlt]
      ((refine wqb hlt' ?_))
      ((refine wia ?_))
      ((refine wsa ?_))
      ((refine wqa ?_))
      refine AW.begin 9 2 33 rfl (by omega) ?_
      (simp (disch := omega) only [bb, bt, zDs, zD, eqCells, simprocAttr])
      ((refine wqa ?_))
      ((repeat refine AW_seq ?_))
      refine AW_mid (fun x : Nat × Nat => ⟨[(9, .own 2 1 x.1 0 (wid m))], [none, some ⟨33, x.1, frC (solsP f (wid m) (wid m))⟩], x.2⟩) (fun _ => True) ?_ ?_
      · refine AW_block ?_
        refine AW_loop_w (fun x : Nat × Nat × Nat => ⟨[(6, int (wid m)), (7, .ptr 0 (t1 + 1) 0), (9, .own 2 1 x.2.1 0 x.1), (10, int x.1)], [refB f (t1 + 1), some ⟨33, x.2.1, frC (solsP f (wid m) x.1)⟩], x.2.2⟩) (fun x => wid m - x.1) (fun x => x.1 ≤ wid m) (0, t2 + 1, t2 + 1) (Nat.zero_le _) (by simp only [solsP, List.range_zero, List.map_nil, frC, List.flatMap_nil]; (simp (disch := omega) only [StLe, tmLe, hpLe_refl, hpLe, bl, bb, bt, zDs, zD, eqCells, simprocAttr])) ?_
        rintro ⟨k, g, t3⟩ hk
        simp only at hk
        by_cases hkn : k < wid m
        · have hkr2 : k < f.rows.length := by omega
          obtain ⟨rk, hrk⟩ : ∃ r, f.rows[k]? = some r := ⟨_, List.getElem?_eq_getElem hkr2⟩
          have hrl3 := hfl rk (List.mem_of_getElem? hrk)
          have hwl : wid m < rk.length := by omega
          obtain ⟨v, hv3⟩ : ∃ v, rk[wid m]? = some v := ⟨_, List.getElem?_eq_getElem hwl⟩
          have hrow : Lin.row f.rows k = rk := by simp [Lin.row, hrk]
          have hat : Lin.at_ rk (wid m) = v := by simp [Lin.at_, hv3]
          have hb := hin2 k (wid m) (by omega) (by omega)
          rw [hrow, hat] at hb
          have hmk := refMake v f.den (by omega) (by omega)
          have hs1 : frC (solsP f (wid m) (k + 1)) = frC (solsP f (wid m) k) ++ [int (makeP v f.den).1.1, int (makeP v f.den).1.2] := by
            simp only [solsP, List.range_succ, List.map_append, List.map_cons, List.map_nil, hrow, hat, frC, List.flatMap_append, List.flatMap_cons, List.flatMap_nil, List.append_nil]
          have hfl2 := frC_len (solsP f (wid m) k)
          rw [solsP_len] at hfl2
          generalize makeP v f.den = p at *
          ((refine ggb0 (F := _∧_) ⟨@Int.ofNat_lt, hkn⟩ ?_))
          ((repeat refine AW_seq ?_))
          refine AW_block ?_
          ((repeat refine AW_seq ?_); (refine gdob1 (F := _∧_∧_∧_) ⟨hkr2, hrk, hwl, hv3⟩ hmk ?_))
          ((refine ggb0 hfl2 ?_))
          refine ⟨(k + 1, t3 + 1 + 1, t3 + 1 + 1), hkn, by show wid m - (k + 1) < wid m - k; omega, ?_⟩
          simp only [hs1]
          (simp (disch := omega) only [StLe, tmLe, hpLe_refl, hpLe, bl, bb, bt, zDs, zD, eqCells, simprocAttr])
        · have hkn' : k = wid m := by omega
          subst hkn'
          ((refine ggb0 @Int.lt_irrefl ?_))
          exact ⟨(g, t3), trivial, by (simp (disch := omega) only [StLe, tmLe, hpLe_refl, hpLe, bl, bb, bt, zDs, zD, eqCells, simprocAttr])⟩
      · rintro ⟨g, t3⟩ -
        have hfl2 := frC_len (solsP f (wid m) (wid m))
        rw [solsP_len] at hfl2
        ((refine gga0 ?_))
        ((repeat refine AW_seq ?_); (refine wta ?_); simp (disch := omega) only [retQ, resD, oneD, bb, bt, zDs, zD, eqCells, simprocAttr, Try.results114])
        show rs (rsv _ 2) _ _ = _
        simp only [rs, rsL, List.getElem?_cons_zero, List.getElem?_cons_succ, List.drop_zero, Nat.zero_add, hfl2, Nat.le_refl, and_self, if_true]
        rw [List.take_of_length_le (by omega), rsv_frC]
        rfl
end Go.Proofs.Ythabldkbiedfmaa.T

namespace Go.Proofs.Ythabldkbiedfmaa.T
open Go Go.RowKit Lin

/-! Products and sums of fractions in lowest terms: the program's road and the reference's (plain). -/
theorem cop_dvd {a b c d : Nat} (h1 : a ∣ c) (h2 : b ∣ d) (h : Nat.Coprime c d) : Nat.Coprime a b :=
  Nat.Coprime.coprime_dvd_left h1 (Nat.Coprime.coprime_dvd_right h2 h)
theorem fr_bounds {n d : Int} (h : vfrac n d = true) : 1 ≤ d ∧ d ≤ 1152921504606846976 ∧ -1152921504606846976 ≤ n ∧ n ≤ 1152921504606846976 ∧ Nat.Coprime n.natAbs d.natAbs := by
  unfold vfrac at h
  simp only [Bool.and_eq_true, decide_eq_true_eq] at h
  exact ⟨h.1.1.1.1, h.1.1.1.2, h.1.1.2, h.1.2, h.2⟩
theorem made_low {s : Bool} {p q a d : Nat} (hq : 0 < q) (hd : 0 < d) (hc : Nat.Coprime p q) (h : p * d = a * q) : madeP a s d = signP s p q := by
  obtain ⟨h1, h2⟩ := ratio_nat hq hd h
  have e : Nat.gcd p q = 1 := hc
  rw [e, Nat.div_one] at h1 h2
  unfold madeP
  rw [if_neg (by omega), ← h1, ← h2]
def mulR (a b : Int × Int) : (Int × Int) × Int := madeP (a.1.natAbs * b.1.natAbs) (decide (a.1 < 0) != decide (b.1 < 0)) (a.2.natAbs * b.2.natAbs)
def addR (a b : Int × Int) : (Int × Int) × Int :=
  if decide (a.1 < 0) = decide (b.1 < 0) then madeP (a.1.natAbs * b.2.natAbs + b.1.natAbs * a.2.natAbs) (decide (a.1 < 0)) (a.2.natAbs * b.2.natAbs)
  else if a.1.natAbs * b.2.natAbs < b.1.natAbs * a.2.natAbs then madeP (b.1.natAbs * a.2.natAbs - a.1.natAbs * b.2.natAbs) (decide (b.1 < 0)) (a.2.natAbs * b.2.natAbs)
  else madeP (a.1.natAbs * b.2.natAbs - b.1.natAbs * a.2.natAbs) (decide (a.1 < 0)) (a.2.natAbs * b.2.natAbs)
theorem mul_low {N D U V : Nat} (hD : 0 < D) (hV : 0 < V) (c1 : Nat.Coprime N D) (c2 : Nat.Coprime U V) :
    Nat.Coprime (N / Nat.gcd N V * (U / Nat.gcd U D)) (D / Nat.gcd U D * (V / Nat.gcd N V)) ∧ (N / Nat.gcd N V * (U / Nat.gcd U D)) * (D * V) = (N * U) * (D / Nat.gcd U D * (V / Nat.gcd N V)) ∧ 0 < D / Nat.gcd U D * (V / Nat.gcd N V) := by
  have hg : 0 < Nat.gcd N V := Nat.gcd_pos_of_pos_right _ hV
  have hh : 0 < Nat.gcd U D := Nat.gcd_pos_of_pos_right _ hD
  have k1 := Nat.coprime_div_gcd_div_gcd hg
  have k2 := Nat.coprime_div_gcd_div_gcd hh
  have n1 := Nat.div_mul_cancel (Nat.gcd_dvd_left N V)
  have v1 := Nat.div_mul_cancel (Nat.gcd_dvd_right N V)
  have u1 := Nat.div_mul_cancel (Nat.gcd_dvd_left U D)
  have d1 := Nat.div_mul_cancel (Nat.gcd_dvd_right U D)
  generalize N / Nat.gcd N V = n at *
  generalize V / Nat.gcd N V = v at *
  generalize U / Nat.gcd U D = u at *
  generalize D / Nat.gcd U D = d at *
  generalize Nat.gcd N V = g at *
  generalize Nat.gcd U D = h at *
  have dn : n ∣ N := ⟨g, n1.symm⟩
  have dv : v ∣ V := ⟨g, v1.symm⟩
  have du : u ∣ U := ⟨h, u1.symm⟩
  have dd : d ∣ D := ⟨h, d1.symm⟩
  have cnd : Nat.Coprime n d := cop_dvd dn dd c1
  have cuv : Nat.Coprime u v := cop_dvd du dv c2
  refine ⟨Nat.Coprime.mul_left (Nat.Coprime.mul_right cnd k1) (Nat.Coprime.mul_right k2 cuv), ?_, ?_⟩
  · rw [← n1, ← u1, ← d1, ← v1]; ac_rfl
  · refine Nat.mul_pos ?_ ?_
    · exact Nat.pos_of_ne_zero fun e => by rw [e] at d1; simp at d1; omega
    · exact Nat.pos_of_ne_zero fun e => by rw [e] at v1; simp at v1; omega
theorem add_low {S D V : Nat} (hD : 0 < D) (hV : 0 < V) (c1 : Nat.Coprime S (D / Nat.gcd D V)) (c2 : Nat.Coprime S (V / Nat.gcd D V)) :
    let g := Nat.gcd D V; let c := Nat.gcd g (S % g)
    0 < c ∧ c ≤ g ∧ Nat.Coprime (S / c) (D / g * (V / c)) ∧ (S / c) * (D * V) = (g * S) * (D / g * (V / c)) ∧ 0 < D / g * (V / c) := by
  intro g c
  have hg : 0 < g := Nat.gcd_pos_of_pos_right _ hV
  have hcg : c = Nat.gcd g S := by
    show Nat.gcd g (S % g) = _
    rw [Nat.gcd_comm g (S % g), ← Nat.gcd_rec]
  have hc : 0 < c := by rw [hcg]; exact Nat.gcd_pos_of_pos_left _ hg
  have hcS : c ∣ S := by rw [hcg]; exact Nat.gcd_dvd_right _ _
  have hcgd : c ∣ g := by rw [hcg]; exact Nat.gcd_dvd_left _ _
  have hgV : g ∣ V := Nat.gcd_dvd_right _ _
  have hgD : g ∣ D := Nat.gcd_dvd_left _ _
  have hcV : c ∣ V := Nat.dvd_trans hcgd hgV
  have s1 := Nat.div_mul_cancel hcS
  have g1 := Nat.div_mul_cancel hcgd
  have v1 := Nat.div_mul_cancel hgV
  have d1 := Nat.div_mul_cancel hgD
  have vc : V / c = V / g * (g / c) := by
    refine Nat.div_eq_of_eq_mul_left hc ?_
    rw [Nat.mul_assoc, g1, v1]
  have k := Nat.coprime_div_gcd_div_gcd (m := g) (n := S) (by rw [← hcg]; exact hc)
  rw [← hcg] at k
  rw [vc]
  change Nat.Coprime S (D / g) at c1
  change Nat.Coprime S (V / g) at c2
  have sd : S / c ∣ S := ⟨c, s1.symm⟩
  have x1 : Nat.Coprime (S / c) (D / g) := cop_dvd sd (Nat.dvd_refl _) c1
  have x2 : Nat.Coprime (S / c) (V / g) := cop_dvd sd (Nat.dvd_refl _) c2
  have pd : 0 < D / g := Nat.div_pos (Nat.le_of_dvd hD hgD) hg
  have pv : 0 < V / g := Nat.div_pos (Nat.le_of_dvd hV hgV) hg
  have pg : 0 < g / c := Nat.div_pos (Nat.le_of_dvd hg hcgd) hc
  refine ⟨hc, Nat.le_of_dvd hg hcgd, Nat.Coprime.mul_right x1 (Nat.Coprime.mul_right x2 k.symm), ?_, Nat.mul_pos pd (Nat.mul_pos pv pg)⟩
  generalize S / c = s at *
  generalize g / c = w at *
  generalize V / g = v at *
  generalize D / g = d at *
  rw [← d1, ← s1, ← v1]
  rw [show (s * ((d * g) * (v * g))) = (s * d * v * g) * g by ac_rfl, show g * (s * c) * (d * (v * w)) = (s * d * v * g) * (w * c) by ac_rfl, g1]
/-- The parts of a sum have nothing in common with a denominator's own part. -/
theorem sum_coprime {N D U V S : Nat} (hV : 0 < V) (c1 : Nat.Coprime N D) (c2 : Nat.Coprime U V) (hS : N * (V / Nat.gcd D V) + U * (D / Nat.gcd D V) = S ∨ N * (V / Nat.gcd D V) + S = U * (D / Nat.gcd D V) ∨ U * (D / Nat.gcd D V) + S = N * (V / Nat.gcd D V)) :
    Nat.Coprime S (D / Nat.gcd D V) ∧ Nat.Coprime S (V / Nat.gcd D V) := by
  have hg : 0 < Nat.gcd D V := Nat.gcd_pos_of_pos_right _ hV
  have k := Nat.coprime_div_gcd_div_gcd hg
  have dd : D / Nat.gcd D V ∣ D := ⟨Nat.gcd D V, (Nat.div_mul_cancel (Nat.gcd_dvd_left D V)).symm⟩
  have dv : V / Nat.gcd D V ∣ V := ⟨Nat.gcd D V, (Nat.div_mul_cancel (Nat.gcd_dvd_right D V)).symm⟩
  generalize D / Nat.gcd D V = d at *
  generalize V / Nat.gcd D V = v at *
  have a1 : Nat.Coprime (N * v) d := Nat.Coprime.mul_left (cop_dvd (Nat.dvd_refl _) dd c1) k.symm
  have a2 : Nat.Coprime (U * d) v := Nat.Coprime.mul_left (cop_dvd (Nat.dvd_refl _) dv c2) k
  have go : ∀ {x y d : Nat}, Nat.Coprime x d → d ∣ y → (x + y = S ∨ x + S = y ∨ y + S = x) → Nat.Coprime S d := fun {x y d} hx hy hs => by
    have h1 : Nat.gcd S d ∣ S := Nat.gcd_dvd_left _ _
    have h2 : Nat.gcd S d ∣ d := Nat.gcd_dvd_right _ _
    have h3 : Nat.gcd S d ∣ y := Nat.dvd_trans h2 hy
    have h4 : Nat.gcd S d ∣ x := by
      rcases hs with e | e | e
      · rw [← e] at h1 ⊢
        exact (Nat.dvd_add_iff_left (by rw [e] at h1 ⊢; exact h3)).2 (by rw [e]; rw [e] at h1; exact h1)
      · rw [← e] at h3
        exact (Nat.dvd_add_iff_left h1).2 h3
      · rw [← e]; exact Nat.dvd_add h3 h1
    have h5 := Nat.dvd_gcd h4 h2
    have e : Nat.gcd x d = 1 := hx
    rw [e] at h5
    exact Nat.dvd_one.1 h5
  refine ⟨go a1 (y := U * d) ⟨U, by ac_rfl⟩ hS, go a2 (y := N * v) ⟨N, by ac_rfl⟩ ?_⟩
  rcases hS with e | e | e
  · exact .inl (by omega)
  · exact .inr (.inr e)
  · exact .inr (.inl e)
end Go.Proofs.Ythabldkbiedfmaa.T

namespace Go.Proofs.Ythabldkbiedfmaa.T
open Go Go.RowKit Lin
set_option linter.unusedSimpArgs false

/-! The words of two words (ratio.wide). -/
theorem wideProduct (a b : Nat) (ha : a < 18446744073709551616) (hb : b < 18446744073709551616) : PRet Try.prog 120 [word a, word b] (uD (a * b)) := by
  have h := mul64 a b (by omega)
  have e1 : (a : Int) * (b : Int) / 18446744073709551616 = uh (a * b) := by unfold uh; rw [← Int.natCast_mul]; rfl
  have e2 : (a : Int) * (b : Int) % 18446744073709551616 = ul (a * b) := by unfold ul; rw [← Int.natCast_mul]; rfl
  rw [e1, e2] at h
  refine PRet.intro 2 fun t => ACall.enter tab_ok Try.func120 rfl rfl Try.ntmps120 (by simp) ?_
  simp only [enterTM]
  ((refine gga1 h ?_))
  ((repeat refine AW_seq ?_); (refine wta ?_); simp (disch := omega) only [retQ, resD, oneD, rsv, rs, rsL, rsL_eq_map, List.map_map, bb, bt, zDs, zD, eqCells, simprocAttr, Try.results120])
theorem widePlus (a b : Nat) (hab : a + b < 340282366920938463463374607431768211456) : PRet Try.prog 122 [uD a, uD b] (uD (a + b)) := by
  have ua := uhl (z := a) (by omega)
  have ub := uhl (z := b) (by omega)
  have us := uhl (z := a + b) hab
  have h1 := add64 (ul a) (ul b) 0 (by omega)
  have e1 : (ul a + ul b + 0) % 18446744073709551616 = ul (a + b) := by omega
  rw [e1] at h1
  have hc : 0 ≤ (ul a + ul b + 0) / 18446744073709551616 ∧ (ul a + ul b + 0) / 18446744073709551616 ≤ 1 := by omega
  have e2 : (uh a + uh b + (ul a + ul b + 0) / 18446744073709551616) % 18446744073709551616 = uh (a + b) := by omega
  generalize (ul a + ul b + 0) / 18446744073709551616 = c at *
  have h2 := add64 (uh a) (uh b) c (by omega)
  rw [e2] at h2
  refine PRet.intro 2 fun t => ACall.enter tab_ok Try.func122 rfl rfl Try.ntmps122 (by simp) ?_
  simp only [enterTM]
  ((refine gga2 h1 h2 ?_))
  ((repeat refine AW_seq ?_); (refine wta ?_); simp (disch := omega) only [retQ, resD, oneD, rsv, rs, rsL, rsL_eq_map, List.map_map, bb, bt, zDs, zD, eqCells, simprocAttr, Try.results122])
theorem wideMinus (a b : Nat) (hab : b ≤ a) (ha : a < 340282366920938463463374607431768211456) : PRet Try.prog 124 [uD a, uD b] (uD (a - b)) := by
  have ua := uhl (z := a) (by omega)
  have ub := uhl (z := b) (by omega)
  have us := uhl (z := a - b) (by omega)
  have h1 := sub64 (ul a) (ul b) 0 (by omega)
  have e1 : (ul a - ul b - 0) % 18446744073709551616 = ul (a - b) := by omega
  rw [e1] at h1
  have hc := bor_01 (ul a) (ul b + 0)
  have e2 : (uh a - uh b - bor (ul a) (ul b + 0)) % 18446744073709551616 = uh (a - b) := by omega
  generalize bor (ul a) (ul b + 0) = c at *
  have h2 := sub64 (uh a) (uh b) c (by omega)
  rw [e2] at h2
  refine PRet.intro 2 fun t => ACall.enter tab_ok Try.func124 rfl rfl Try.ntmps124 (by simp) ?_
  simp only [enterTM]
  ((refine gga2 h1 h2 ?_))
  ((repeat refine AW_seq ?_); (refine wta ?_); simp (disch := omega) only [retQ, resD, oneD, rsv, rs, rsL, rsL_eq_map, List.map_map, bb, bt, zDs, zD, eqCells, simprocAttr, Try.results124])
theorem wideLess (a b : Nat) (ha : a < 340282366920938463463374607431768211456) (hb : b < 340282366920938463463374607431768211456) : PRet Try.prog 123 [uD a, uD b] (bool (decide (a < b))) := by
  have ua := uhl ha
  have ub := uhl hb
  refine PRet.intro 2 fun t => ACall.enter tab_ok Try.func123 rfl rfl Try.ntmps123 (by simp) ?_
  simp only [enterTM]
  by_cases k1 : uh a < uh b
  · ((refine ggb0 k1 ?_))
    ((repeat refine AW_seq ?_); (refine wta ?_); simp (disch := omega) only [retQ, resD, oneD, rsv, rs, rsL, rsL_eq_map, List.map_map, bb, bt, zDs, zD, eqCells, simprocAttr, Try.results123])
    rw [decide_eq_true (by omega)]
  by_cases k2 : uh a = uh b
  · have e2 : (uh a == uh b) = true := by simp [k2]
    by_cases k3 : ul a < ul b
    · ((refine ggb0 (F := _∧_∧_) ⟨k1, e2, k3⟩ ?_))
      ((repeat refine AW_seq ?_); (refine wta ?_); simp (disch := omega) only [retQ, resD, oneD, rsv, rs, rsL, rsL_eq_map, List.map_map, bb, bt, zDs, zD, eqCells, simprocAttr, Try.results123])
      rw [decide_eq_true (by omega)]
    · ((refine ggb0 (F := _∧_∧_) ⟨k1, e2, k3⟩ ?_))
      ((repeat refine AW_seq ?_); (refine wta ?_); simp (disch := omega) only [retQ, resD, oneD, rsv, rs, rsL, rsL_eq_map, List.map_map, bb, bt, zDs, zD, eqCells, simprocAttr, Try.results123])
      rw [decide_eq_false (by omega)]
  · have e2 : (uh a == uh b) = false := by simp [k2]
    ((refine ggb0 (F := _∧_) ⟨k1, e2⟩ ?_))
    ((repeat refine AW_seq ?_); (refine wta ?_); simp (disch := omega) only [retQ, resD, oneD, rsv, rs, rsL, rsL_eq_map, List.map_map, bb, bt, zDs, zD, eqCells, simprocAttr, Try.results123])
    rw [decide_eq_false (by omega)]
theorem over_abs {B H L b : Nat} (hb : 0 < b) (hL : L < B) : (H * B + L) / b = H / b * B + (H % b * B + L) / b ∧ (H * B + L) % b = (H % b * B + L) % b ∧ (H % b * B + L) / b < B := by
  have hm := Nat.mod_lt H hb
  have hdm := Nat.div_add_mod H b
  have e : H * B + L = b * (H / b * B) + (H % b * B + L) := by
    conv => lhs; rw [← hdm]
    rw [Nat.add_mul, Nat.mul_assoc, Nat.add_assoc]
  refine ⟨by rw [e, Nat.mul_add_div hb], by rw [e, Nat.mul_add_mod], Nat.div_lt_of_lt_mul ?_⟩
  have h1 : (H % b + 1) * B ≤ b * B := Nat.mul_le_mul_right _ hm
  rw [Nat.add_mul, Nat.one_mul] at h1
  omega
theorem over_nat {a b : Nat} (hb : 0 < b) :
    (((uh a).tmod b) * 18446744073709551616 + ul a) / (b : Int) = ul (a / b) ∧ (((uh a).tmod b) * 18446744073709551616 + ul a) % (b : Int) = ((a % b : Nat) : Int) ∧ (uh a).tdiv b = uh (a / b) := by
  have m1 : (uh a).tmod b = ((a / 18446744073709551616 % b : Nat) : Int) := rfl
  have m2 : (uh a).tdiv b = ((a / 18446744073709551616 / b : Nat) : Int) := rfl
  rw [m1, m2]
  unfold ul uh
  have ham : a / 18446744073709551616 * 18446744073709551616 + a % 18446744073709551616 = a := Nat.div_add_mod' a _
  have hlo := Nat.mod_lt a (show 18446744073709551616 > 0 by decide)
  obtain ⟨k1, k2, k3⟩ := over_abs (H := a / 18446744073709551616) (b := b) hb hlo
  rw [ham] at k1 k2
  generalize hB : 18446744073709551616 = B at *
  have c1 : ((a / B % b : Nat) : Int) * (18446744073709551616 : Int) + ((a % B : Nat) : Int) = ((a / B % b * B + a % B : Nat) : Int) := by
    rw [Int.natCast_add, Int.natCast_mul, ← hB]; rfl
  rw [c1, ← Int.natCast_ediv, ← Int.natCast_emod, k1, k2]
  have hB0 : 0 < B := by omega
  refine ⟨?_, rfl, ?_⟩
  · congr 1
    rw [Nat.mul_comm (a / B / b) B, Nat.mul_add_mod, Nat.mod_eq_of_lt k3]
  · congr 1
    rw [Nat.mul_comm (a / B / b) B, Nat.mul_add_div hB0, Nat.div_eq_of_lt k3]; rfl
theorem wideOver (a b : Nat) (ha : a < 340282366920938463463374607431768211456) (hb : 0 < b) (hbl : b < 18446744073709551616) : PRet Try.prog 125 [uD a, word b] (.tup [uD (a / b), word (a % b : Nat)]) := by
  obtain ⟨e1, e2, e3⟩ := over_nat (a := a) hb
  have ua := uhl ha
  have hm : 0 ≤ (uh a).tmod b ∧ (uh a).tmod b < b := by
    have m1 : (uh a).tmod b = ((a / 18446744073709551616 % b : Nat) : Int) := rfl
    rw [m1]
    have := Nat.mod_lt (a / 18446744073709551616) hb
    omega
  have h := div64 ((uh a).tmod b) (ul a) b (by omega)
  rw [e1, e2] at h
  have hle : a / b ≤ a := Nat.div_le_self _ _
  have us := uhl (z := a / b) (by omega)
  generalize hr : (uh a).tmod b = r at h hm e1 e2
  have hb0 : ¬ (b : Int) = 0 := by omega
  refine PRet.intro 2 fun t => ACall.enter tab_ok Try.func125 rfl rfl Try.ntmps125 (by simp) ?_
  simp only [enterTM]
  ((refine gga0 ?_))
  ((repeat refine AW_seq ?_); (refine gdzb1 (F := _∧_) ⟨hb0, hr⟩ h ?_))
  ((refine ggb0 (F := _∧_) ⟨e3, hb0⟩ ?_))
  ((repeat refine AW_seq ?_); (refine wta ?_); simp (disch := omega) only [retQ, resD, oneD, rsv, rs, rsL, rsL_eq_map, List.map_map, bb, bt, zDs, zD, eqCells, simprocAttr, Try.results125])
end Go.Proofs.Ythabldkbiedfmaa.T

