import Derived.Test.YtjjpjgnoanfaoaaGreatTB
import Derived.Test.YtjjpjgnoanfaoaaGreatWPJ
import Derived.Test.YtjjpjgnoanfaoaaGreatPMGI
import Derived.Test.YtjjpjgnoanfaoaaGreatLSJ
import Derived.Test.YtjjpjgnoanfaoaaGreatPFWAWB
import Derived.Test.YtjjpjgnoanfaoaaGreatTJ
import Derived.Test.YtjjpjgnoanfaoaaGreatWA
import Derived.Test.YtjjpjgnoanfaoaaGreatWJK
import Derived.Test.YtjjpjgnoanfaoaaGreatSG
import Derived.Test.YtjjpjgnoanfaoaaGreatRows
import Derived.Lib.SmallJoins
import Derived.ProofKit
set_option linter.all false
namespace Go.Proofs.YtjjpjgnoanfaoaaGreat.T
open Go Go.RowKit Lin
set_option linter.unusedSimpArgs false

theorem allV_get {x : List (Int × Int)} (h : allV x = true) {k : Nat} {f : Int × Int} (hf : x[k]? = some f) : vfrac f.1 f.2 = true := by
  unfold allV at h
  exact List.all_eq_true.1 h f (List.mem_of_getElem? hf)
end Go.Proofs.YtjjpjgnoanfaoaaGreat.T

namespace Go.Proofs.YtjjpjgnoanfaoaaGreat.T
open Go Go.RowKit Lin
set_option linter.unusedSimpArgs false

/-! Chapter 12: the reference's travel, check, and lengths. -/
theorem refOver (a b : Int × Int) (ha : vfrac a.1 a.2 = true) (hb : vfrac b.1 b.2 = true) : PRet Tryz.prog 107 [frD a, frD b] (fe (divR a b)) := by
  obtain ⟨a1, a2, a3, a4, a5⟩ := fr_bounds ha
  obtain ⟨b1, b2, b3, b4, b5⟩ := fr_bounds hb
  obtain ⟨n, d⟩ := a
  obtain ⟨u, v⟩ := b
  simp only at *
  have s1 := refSize n (by omega)
  have s2 := refSize u (by omega)
  have s3 := refSize d (by omega)
  have s4 := refSize v (by omega)
  have m1 := refMul n.natAbs v.natAbs (by omega)
  have m2 := refMul d.natAbs u.natAbs (by omega)
  have c1 : n.natAbs * v.natAbs ≤ 1152921504606846976 * 1152921504606846976 := Nat.mul_le_mul (by omega) (by omega)
  have c2 : d.natAbs * u.natAbs ≤ 1152921504606846976 * 1152921504606846976 := Nat.mul_le_mul (by omega) (by omega)
  have hm := made (n.natAbs * v.natAbs) (decide (n < 0) != decide (u < 0)) (d.natAbs * u.natAbs) (by omega) (by omega)
  have e : divR (n, d) (u, v) = madeP (n.natAbs * v.natAbs) (decide (n < 0) != decide (u < 0)) (d.natAbs * u.natAbs) := rfl
  rw [e]
  generalize madeP (n.natAbs * v.natAbs) (decide (n < 0) != decide (u < 0)) (d.natAbs * u.natAbs) = r at *
  refine PRet.intro 2 fun t => ACall.enter tab_ok Tryz.func107 rfl rfl Tryz.ntmps107 (by simp) ?_
  simp only [enterTM]
  ((refine gga0 ?_))
  ((repeat refine AW_seq ?_); (refine gdza7 s1 s2 s3 s4 m1 m2 hm ?_))
  ((repeat refine AW_seq ?_); (refine wta ?_); simp (disch := omega) only [retQ, resD, oneD, rsv, rs, rsL, rsL_eq_map, List.map_map, bb, bt, zDs, zD, eqCells, simprocAttr, Tryz.results107])
set_option maxHeartbeats 2000000 in
theorem travel_ref (s : Sy) (hf : Fits s) (nm : ByteArray) : PRet Tryz.prog 37 [syD s, str nm] (fe (travP s nm)) := by
  refine PRet.intro 1 fun t => ACall.enter tab_ok Tryz.func37 rfl rfl Tryz.ntmps37 (by simp) ?_
  simp only [enterTM]
  have hV := valid_ref s hf
  have hnb := hf.nb
  have hnr := hf.nr
  have hdr := rpC_div s.rs
  have hI := refFindBlock s nm hnb
  have hH := refHaul s hnr
  cases hv : validS s
  · rw [hv] at hV
    have e : travP s nm = ((0, 0), 1) := by simp [travP, hv]
    ((refine gga1 hV ?_))
    ((repeat refine AW_seq ?_); (refine wta ?_); simp (disch := omega) only [retQ, resD, oneD, rsv, rs, rsL, rsL_eq_map, List.map_map, bb, bt, zDs, zD, eqCells, simprocAttr, Tryz.results37, e])
  rw [hv] at hV
  by_cases hb : findB s.bs nm < 0
  · have e : travP s nm = ((0, 0), 9) := by simp [travP, hv, hb]
    ((refine ggb2 hb hV hI ?_))
    ((repeat refine AW_seq ?_); (refine wta ?_); simp (disch := omega) only [retQ, resD, oneD, rsv, rs, rsL, rsL_eq_map, List.map_map, bb, bt, zDs, zD, eqCells, simprocAttr, Tryz.results37, e])
  obtain ⟨j, b, hj, hbj, _⟩ := findB_hit (show 0 ≤ findB s.bs nm by omega)
  by_cases hh : hix s < 0
  · have e : travP s nm = ((0, 0), 11) := by simp [travP, hv, hb, hh]
    ((refine ggb3 (F := _∧_) ⟨hb, hh⟩ hV hI hH ?_))
    ((repeat refine AW_seq ?_); (refine wta ?_); simp (disch := omega) only [retQ, resD, oneD, rsv, rs, rsL, rsL_eq_map, List.map_map, bb, bt, zDs, zD, eqCells, simprocAttr, Tryz.results37, e])
  obtain ⟨i, r, hi, hri, _⟩ := hix_hit hh
  have hir := (List.getElem?_eq_some_iff.1 hri).1
  have e : travP s nm = if (speedsP s (unitH s)).2 = 0 then divP (1, 1) ((speedsP s (unitH s)).1.getD j (0, 0)) else ((0, 0), (speedsP s (unitH s)).2) := by
    have : ¬ (j : Int) < 0 := by omega
    simp [travP, hv, hh, hj, this]
  have hu : ((List.replicate s.rs.length (0 : Int)).map int).set i (int 1) = (unitH s).map int := by
    unfold unitH
    rw [hi, Int.toNat_natCast, List.map_set]
  have hul : (unitH s).length = s.rs.length := by simp [unitH]
  have hS := speeds_ref s hf (unitH s) (by omega)
  have hfull := speedsP_full (s := s) (h := unitH s)
  have hval := speedsP_val (s := s) (h := unitH s)
  have hj0 : ¬ (j : Int) < 0 := by omega
  have hi0 : ¬ (i : Int) < 0 := by omega
  rw [hj] at hI
  rw [hi] at hH
  have hbl := (List.getElem?_eq_some_iff.1 hbj).1
  generalize speedsP s (unitH s) = X at *
  have hrl2 : (List.replicate s.rs.length (0 : Int)).length = s.rs.length := by simp
  have hz0 := zerosI s.rs.length
  ((refine ggb2 (F := _∧_) ⟨hj0, hdr⟩ hV hI ?_))
  ((refine wka1 hH ?_))
  ((refine wra ?_)); ((refine wea ?_); (try clear hKR KR))
  ((refine wqb hi0 ?_))
  ((refine wib hi0 ?_))
  ((refine wsa ?_))
  ((refine wqb (F := _∧_) ⟨hdr, hz0⟩ ?_))
  ((refine wqb (F := _∧_∧_∧_) ⟨hz0, hu, hir, hrl2⟩ ?_))
  have hfin : List.take s.rs.length ((unitH s).map int) = (unitH s).map int := List.take_of_length_le (by simp [hul])
  ((refine AW.freeze (2) (by first | rfl | (simp only [setH, List.getElem?_cons_zero, List.getElem?_cons_succ, fz_bk, fz_rp, hfin, hul, List.length_map, Nat.le_refl]; done)) ?_); simp (disch := omega) only [fzT, fz, fzL, fzL_ints, fzL_mat, fzH, fzB, eq_self, bb, bt, zDs, zD, eqCells, simprocAttr, fz_bk, fz_rp, hfin, hul, List.length_map, Nat.le_refl])
  cases hx : (X.2 == 0)
  · have hx' : (X.2 != 0) = true := by simpa using hx
    rw [if_neg (by simpa using hx)] at e
    ((refine ggb1 hx' hS ?_))
    ((repeat refine AW_seq ?_); (refine wta ?_); simp (disch := omega) only [retQ, resD, oneD, rsv, rs, rsL, rsL_eq_map, List.map_map, bb, bt, zDs, zD, eqCells, simprocAttr, Tryz.results37, e])
  have hx' : (X.2 != 0) = false := by simpa using hx
  have hx0 : X.2 = 0 := by simpa using hx
  rw [if_pos hx0] at e
  obtain ⟨_, hXl⟩ := hfull hx0
  obtain ⟨_, _, _, _, _, hXv⟩ := hval hx0
  obtain ⟨f, hfj⟩ : ∃ y, X.1[j]? = some y := ⟨_, List.getElem?_eq_getElem (by omega)⟩
  rw [List.getD_eq_getElem?_getD, hfj, Option.getD_some] at e
  have hfv := (hXv j f hfj).v
  have ed : divP (1, 1) f = divR (1, 1) f := by unfold divP; rw [if_pos ⟨by decide, hfv⟩]
  rw [ed] at e
  have hra := frC_read X.1 j f hfj
  have hfd := frC_div X.1
  have hjl : j < X.1.length := by omega
  have hO := refOf 1
  have hD := refOver (1, 1) f (by decide) hfv
  rw [← e] at hD
  generalize travP s nm = Y at *
  ((refine ggb1 hx' hS ?_))
  ((repeat refine AW_seq ?_); (refine gdzb2 (F := _∧_∧_) ⟨hfd, hjl, hra⟩ hO hD ?_))
  ((repeat refine AW_seq ?_); (refine wta ?_); simp (disch := omega) only [retQ, resD, oneD, rsv, rs, rsL, rsL_eq_map, List.map_map, bb, bt, zDs, zD, eqCells, simprocAttr, Tryz.results37])
/-! The laws. -/
end Go.Proofs.YtjjpjgnoanfaoaaGreat.T

namespace Go.Proofs.YtjjpjgnoanfaoaaGreat.T
open Go Go.RowKit Lin
theorem gdob3_ARW {F C1 C2 C3 P Q : Prop} (f : F) (c1 : C1) (c2 : C2) (c3 : C3) (q : Q) (h : F → C1 → C2 → C3 → Q → P := by
  intro ff cc1 cc2 cc3 hq
  (try with_reducible intro KR hKR)
  (repeat refine AW_seq ?_); (repeat refine AW_seq ?_); (refine AW_drawn_k tab_ok follows_mixed 1 fun KR hKR => ?_); simp only [List.replicate_succ, List.replicate_zero, List.append_nil, List.nil_append, List.cons_append, List.length_cons, List.length_nil, Nat.reduceAdd]; (repeat' ((first | refine awD_n rfl fun KK hKK => ?_ | refine awD_g rfl rfl fun KK hKK => ?_ | refine awD_gc rfl fun KK hKK => ?_ | refine awD_nc fun KK hKK => ?_); simp (disch := omega) only [bb, bt, zDs, zD, eqCells, simprocAttr, ff, bne_self_eq_false, Int.reduceBNe, Int.reduceBEq, Bool.bne_false, Bool.bne_true, Bool.false_bne, Bool.true_bne, goCDS, callDS_fn, argsZ, argsD, ufa, uf]; (try ((first | with_reducible refine PGive.ret (cc1) ?_ | with_reducible refine PGive.ret (cc2) ?_ | with_reducible refine PGive.ret (cc3) ?_); simp (disch := omega) only [bb, bt, zDs, zD, eqCells, simprocAttr, afterDS, ff, bne_self_eq_false, Int.reduceBNe, Int.reduceBEq, Bool.bne_false, Bool.bne_true, Bool.false_bne, Bool.true_bne])); refine hKK _ _ _ ?_; clear hKK KK)); (refine awD_nil ?_); simp only [List.reverse_cons, List.reverse_nil, List.nil_append, List.cons_append]; (refine hKR _ _ (by first | rfl | kernel_rfl) ?_); (try clear hKR KR); (repeat (with_reducible first | refine q1 ?_ | refine q2 ?_ | refine q3 ?_ | refine q4 ?_ | refine q5 ?_ | refine q6 ?_ | (refine q7 ?_ ?_; (focus (with_unfolding_all rfl)))))
  (first | exact hq | (revert hKR; revert KR; exact hq))) : P := h f c1 c2 c3 q
theorem gdta6_ARW {C1 C2 C3 C4 C5 C6 P Q : Prop} (c1 : C1) (c2 : C2) (c3 : C3) (c4 : C4) (c5 : C5) (c6 : C6) (q : Q) (h : C1 → C2 → C3 → C4 → C5 → C6 → Q → P := by
  intro cc1 cc2 cc3 cc4 cc5 cc6 hq
  (try with_reducible intro KR hKR)
  (repeat refine AW_seq ?_); (repeat refine AW_seq ?_); (refine AW_drawn_k tab_ok follows_mixed 2 fun KR hKR => ?_); simp only [List.replicate_succ, List.replicate_zero, List.append_nil, List.nil_append, List.cons_append, List.length_cons, List.length_nil, Nat.reduceAdd]; (repeat' ((first | refine awD_n rfl fun KK hKK => ?_ | refine awD_g rfl rfl fun KK hKK => ?_ | refine awD_gc rfl fun KK hKK => ?_ | refine awD_nc fun KK hKK => ?_); simp (disch := omega) only [bb, bt, zDs, zD, eqCells, simprocAttr, bne_self_eq_false, Int.reduceBNe, Int.reduceBEq, Bool.bne_false, Bool.bne_true, Bool.false_bne, Bool.true_bne, goCDS, callDS_fn, argsZ, argsD, ufa, uf]; (try ((first | with_reducible refine PGive.ret (cc1) ?_ | with_reducible refine PGive.ret (cc2) ?_ | with_reducible refine PGive.ret (cc3) ?_ | with_reducible refine PGive.ret (cc4) ?_ | with_reducible refine PGive.ret (cc5) ?_ | with_reducible refine PGive.ret (cc6) ?_); simp (disch := omega) only [bb, bt, zDs, zD, eqCells, simprocAttr, afterDS, bne_self_eq_false, Int.reduceBNe, Int.reduceBEq, Bool.bne_false, Bool.bne_true, Bool.false_bne, Bool.true_bne])); refine hKK _ _ _ ?_; clear hKK KK)); (refine awD_nil ?_); simp only [List.reverse_cons, List.reverse_nil, List.nil_append, List.cons_append]; (refine hKR _ _ (by first | rfl | kernel_rfl) ?_); (try clear hKR KR); (repeat (with_reducible first | refine q1 ?_ | refine q2 ?_ | refine q3 ?_ | refine q4 ?_ | refine q5 ?_ | refine q6 ?_ | (refine q7 ?_ ?_; (focus (with_unfolding_all rfl)))))
  (first | exact hq | (revert hKR; revert KR; exact hq))) : P := h c1 c2 c3 c4 c5 c6 q
theorem gdza_ARW {P Q : Prop} (q : Q) (h : Q → P := by
  intro  hq
  (try with_reducible intro KR hKR)
  (repeat refine AW_seq ?_); (repeat refine AW_seq ?_); (refine AW_drawn_k tab_ok follows_mixed 0 fun KR hKR => ?_); simp only [List.replicate_succ, List.replicate_zero, List.append_nil, List.nil_append, List.cons_append, List.length_cons, List.length_nil, Nat.reduceAdd]; (repeat' ((first | refine awD_n rfl fun KK hKK => ?_ | refine awD_g rfl rfl fun KK hKK => ?_ | refine awD_gc rfl fun KK hKK => ?_ | refine awD_nc fun KK hKK => ?_); simp (disch := omega) only [bb, bt, zDs, zD, eqCells, simprocAttr, bne_self_eq_false, Int.reduceBNe, Int.reduceBEq, Bool.bne_false, Bool.bne_true, Bool.false_bne, Bool.true_bne]; refine hKK _ _ _ ?_; clear hKK KK)); (refine awD_nil ?_); simp only [List.reverse_cons, List.reverse_nil, List.nil_append, List.cons_append]; (refine hKR _ _ (by first | rfl | kernel_rfl) ?_); (try clear hKR KR); (repeat (with_reducible first | refine q1 ?_ | refine q2 ?_ | refine q3 ?_ | refine q4 ?_ | refine q5 ?_ | refine q6 ?_ | (refine q7 ?_ ?_; (focus (with_unfolding_all rfl)))))
  (first | exact hq | (revert hKR; revert KR; exact hq))) : P := h  q
set_option linter.unusedSimpArgs false

/-! Chapter 13's reference. -/
theorem u_eq (x y : Nat) : (uh x == uh y && ul x == ul y) = decide (x = y) := by
  by_cases h : x = y
  · subst h
    simp
  · rw [decide_eq_false h, Bool.and_eq_false_iff]
    by_cases h1 : uh x = uh y
    · right
      rw [beq_eq_false_iff_ne]
      intro h2
      apply h
      unfold uh ul at *
      omega
    · left
      rw [beq_eq_false_iff_ne]
      exact h1
set_option maxHeartbeats 2000000 in
theorem refCmp (a b : Int × Int) (ha : vfrac a.1 a.2 = true) (hb : vfrac b.1 b.2 = true) : PRet Tryz.prog 67 [frD a, frD b] (int (cmpV a b)) := by
  obtain ⟨a1, a2, a3, a4, a5⟩ := fr_bounds ha
  obtain ⟨b1, b2, b3, b4, b5⟩ := fr_bounds hb
  obtain ⟨n, d⟩ := a
  obtain ⟨u, v⟩ := b
  simp only at *
  obtain ⟨D, rfl⟩ : ∃ D : Nat, d = (D : Int) := ⟨d.toNat, by omega⟩
  obtain ⟨V, rfl⟩ : ∃ V : Nat, v = (V : Int) := ⟨v.toNat, by omega⟩
  obtain ⟨g1, g2⟩ := cmp_signs (n := n) (u := u) (D := (D : Int)) (V := (V : Int)) (by omega) (by omega)
  have hpos := fun h1 h2 => cmp_pos (n := n) (u := u) (D := D) (V := V) h1 h2
  have hneg := fun h1 h2 => cmp_neg (n := n) (u := u) (D := D) (V := V) h1 h2
  have s1 := refSize n (by omega)
  have s2 := refSize u (by omega)
  have s3 := refSize (D : Int) (by omega)
  have s4 := refSize (V : Int) (by omega)
  rw [Int.natAbs_natCast] at s3 s4
  have m1 := refMul n.natAbs V (by omega)
  have m2 := refMul u.natAbs D (by omega)
  have c1 : n.natAbs * V ≤ 1152921504606846976 * 1152921504606846976 := Nat.mul_le_mul (by omega) (by omega)
  have c2 : u.natAbs * D ≤ 1152921504606846976 * 1152921504606846976 := Nat.mul_le_mul (by omega) (by omega)
  have l1 := refLess (n.natAbs * V) (u.natAbs * D) (by omega)
  have huv := u_eq (n.natAbs * V) (u.natAbs * D)
  generalize cmpV (n, (D : Int)) (u, (V : Int)) = c at *
  generalize n.natAbs * V = x at *
  generalize u.natAbs * D = y at *
  refine PRet.intro 2 fun t => ACall.enter tab_ok Tryz.func67 rfl rfl Tryz.ntmps67 (by simp) ?_
  simp only [enterTM]
  ((refine gga0 ?_))
  ((repeat refine AW_seq ?_); (refine gdta6_ARW s1 s2 s3 s4 m1 m2 ?_))
  have htf : (true == false) = false := rfl
  have hft : (false == true) = false := rfl
  by_cases hn : n < 0
  · by_cases hu : u < 0
    · rw [hneg hn hu]
      have hn' : ¬ 0 ≤ n := by omega
      have hu' : ¬ 0 ≤ u := by omega
      by_cases hxy : x = y
      · rw [decide_eq_true hxy] at huv
        rw [if_neg (by omega), if_neg (by omega)]
        ((refine ggb0 (F := _∧_∧_∧_∧_) ⟨hn, hu, hn', hu', huv⟩ ?_))
        ((repeat refine AW_seq ?_); (refine wta ?_); simp (disch := omega) only [retQ, resD, oneD, rsv, rs, rsL, rsL_eq_map, List.map_map, bb, bt, zDs, zD, eqCells, simprocAttr, Tryz.results67])
      · rw [decide_eq_false hxy] at huv
        by_cases hlt : x < y
        · rw [decide_eq_true hlt] at l1
          rw [if_neg (by omega), if_pos (by omega)]
          ((refine ggb0 (F := _∧_∧_∧_∧_) ⟨hn, hu, hn', hu', huv⟩ ?_))
          ((repeat refine AW_seq ?_); (refine gdzb1 (F := _∧_∧_∧_) ⟨hn, hn', htf, hft⟩ l1 ?_))
          ((refine ggb0 (F := _∧_) ⟨htf, hft⟩ ?_))
          ((repeat refine AW_seq ?_); (refine wta ?_); simp (disch := omega) only [retQ, resD, oneD, rsv, rs, rsL, rsL_eq_map, List.map_map, bb, bt, zDs, zD, eqCells, simprocAttr, Tryz.results67])
        · rw [decide_eq_false hlt] at l1
          rw [if_pos (by omega)]
          ((refine ggb0 (F := _∧_∧_∧_∧_) ⟨hn, hu, hn', hu', huv⟩ ?_))
          ((repeat refine AW_seq ?_); (refine gdzb1 (F := _∧_∧_∧_) ⟨hn, hn', htf, hft⟩ l1 ?_))
          ((refine ggb0 (F := _∧_) ⟨htf, hft⟩ ?_))
          ((repeat refine AW_seq ?_); (refine wta ?_); simp (disch := omega) only [retQ, resD, oneD, rsv, rs, rsL, rsL_eq_map, List.map_map, bb, bt, zDs, zD, eqCells, simprocAttr, Tryz.results67])
    · rw [g1 ⟨hn, hu⟩]
      have hu' : 0 ≤ u := by omega
      ((refine ggb0 (F := _∧_∧_) ⟨hn, hu, hu'⟩ ?_))
      ((repeat refine AW_seq ?_); (refine wta ?_); simp (disch := omega) only [retQ, resD, oneD, rsv, rs, rsL, rsL_eq_map, List.map_map, bb, bt, zDs, zD, eqCells, simprocAttr, Tryz.results67])
  · have hn' : 0 ≤ n := by omega
    by_cases hu : u < 0
    · rw [g2 ⟨hn, hu⟩]
      ((refine ggb0 (F := _∧_∧_) ⟨hn, hu, hn'⟩ ?_))
      ((repeat refine AW_seq ?_); (refine wta ?_); simp (disch := omega) only [retQ, resD, oneD, rsv, rs, rsL, rsL_eq_map, List.map_map, bb, bt, zDs, zD, eqCells, simprocAttr, Tryz.results67])
    · rw [hpos hn hu]
      have hu' : 0 ≤ u := by omega
      by_cases hxy : x = y
      · rw [decide_eq_true hxy] at huv
        rw [if_neg (by omega), if_neg (by omega)]
        ((refine ggb0 (F := _∧_∧_∧_∧_) ⟨hn, hu, hn', hu', huv⟩ ?_))
        ((repeat refine AW_seq ?_); (refine wta ?_); simp (disch := omega) only [retQ, resD, oneD, rsv, rs, rsL, rsL_eq_map, List.map_map, bb, bt, zDs, zD, eqCells, simprocAttr, Tryz.results67])
      · rw [decide_eq_false hxy] at huv
        by_cases hlt : x < y
        · rw [decide_eq_true hlt] at l1
          rw [if_pos (by omega)]
          ((refine ggb0 (F := _∧_∧_∧_∧_) ⟨hn, hu, hn', hu', huv⟩ ?_))
          ((repeat refine AW_seq ?_); (refine gdzb1 (F := _∧_∧_∧_) ⟨hn, hn', htf, hft⟩ l1 ?_))
          ((refine ggb0 (F := _∧_) ⟨htf, hft⟩ ?_))
          ((repeat refine AW_seq ?_); (refine wta ?_); simp (disch := omega) only [retQ, resD, oneD, rsv, rs, rsL, rsL_eq_map, List.map_map, bb, bt, zDs, zD, eqCells, simprocAttr, Tryz.results67])
        · rw [decide_eq_false hlt] at l1
          rw [if_neg (by omega), if_pos (by omega)]
          ((refine ggb0 (F := _∧_∧_∧_∧_) ⟨hn, hu, hn', hu', huv⟩ ?_))
          ((repeat refine AW_seq ?_); (refine gdzb1 (F := _∧_∧_∧_) ⟨hn, hn', htf, hft⟩ l1 ?_))
          ((refine ggb0 (F := _∧_) ⟨htf, hft⟩ ?_))
          ((repeat refine AW_seq ?_); (refine wta ?_); simp (disch := omega) only [retQ, resD, oneD, rsv, rs, rsL, rsL_eq_map, List.map_map, bb, bt, zDs, zD, eqCells, simprocAttr, Tryz.results67])
set_option maxRecDepth 100000 in
set_option maxHeartbeats 4000000 in
theorem unit_ref (s : Sy) (hv : validS s = true) (nm : ByteArray) : PRet Tryz.prog 106 [syD s, str nm] (syD (unitS s nm)) := by
  refine PRet.intro 1 fun t => ACall.enter tab_ok Tryz.func106 rfl rfl Tryz.ntmps106 (by simp) ?_
  simp only [enterTM]
  have ok := validS_ok hv
  have hb6 := ok.b6
  have hC := copyB s ok
  have hdb := bkC_div s.bs
  have hlb := bkC_len s.bs
  ((refine gga0 ?_))
  intro KR hKR
  ((first | refine awOps_nc fun KK hKK => ?_ | refine awOps_gc rfl fun KK hKK => ?_); simp (disch := omega) only [bb, bt, zDs, zD, eqCells, simprocAttr, goC, callO_fn, argsD, and_self]; refine ACall.of_freshX (hC) (by first | (simp only [List.map_cons, List.map_nil, List.append_nil, List.nil_append, List.cons_append, ufa, uf]; done) | rfl) ?_; simp (disch := omega) only [bb, bt, zDs, zD, eqCells, simprocAttr, afterC]; refine hKK _ ?_; clear hKK KK)
  ((refine wra ?_)); ((refine wea ?_); (try clear hKR KR))
  ((refine gga0 ?_))
  have hcl := fun (f : Nat → Bk → Int) (k : Nat) => chW_len f s.bs k
  have hun := unitS_chW s nm
  generalize hfe : (fun (_ : Nat) (b : Bk) => if b.nm = nm then (1 : Int) else 0) = f at hun
  ((repeat refine AW_seq ?_))
  refine AW_mid (fun x : Nat => ⟨[(4, .ptr 1 (t + 1 + 1) 0), (5, .ptr 3 (t + 1 + 1 + 1 + 1) 0)], [none, some ⟨25, t + 1 + 1, [.sl 2 [] true, .sl 3 [] true]⟩, some ⟨78, t + 1 + 1 + 1, bkC (chW f s.bs s.bs.length)⟩, some ⟨25, t + 1 + 1 + 1 + 1, [.own 2 2 (t + 1 + 1 + 1) 0 s.bs.length, rps s.rs]⟩], x⟩) (fun _ => True) ?_ ?_
  · refine AW_block ?_
    refine AW_loop_w (fun x : Nat × Nat => ⟨[(1, str nm), (4, .ptr 1 (t + 1 + 1) 0), (5, .ptr 3 (t + 1 + 1 + 1 + 1) 0), (6, int x.1)], [none, some ⟨25, t + 1 + 1, [.sl 2 [] true, .sl 3 [] true]⟩, some ⟨78, t + 1 + 1 + 1, bkC (chW f s.bs x.1)⟩, some ⟨25, t + 1 + 1 + 1 + 1, [.own 2 2 (t + 1 + 1 + 1) 0 s.bs.length, rps s.rs]⟩], x.2⟩) (fun x => s.bs.length - x.1) (fun x => x.1 ≤ s.bs.length) (0, t + 1 + 1 + 1 + 1) (Nat.zero_le _) (by (simp (disch := omega) only [StLe, tmLe, hpLe_refl, hpLe, bl, bb, bt, zDs, zD, eqCells, simprocAttr, chW])) ?_
    rintro ⟨k, tt⟩ hk
    simp only at hk
    by_cases hlt : k < s.bs.length
    · obtain ⟨b, hb⟩ : ∃ y, s.bs[k]? = some y := ⟨_, List.getElem?_eq_getElem hlt⟩
      have hC0 := chW_at (f := f) hb
      have hst := chW_set (f := f) hb
      have hlc := bkC_len (chW f s.bs k)
      rw [hcl] at hlc
      have hw1 := bkC_wt hC0 0
      have hD0 : ((chW f s.bs k).set k ⟨b.nm, 0⟩)[k]? = some ⟨b.nm, 0⟩ := List.getElem?_set_self (by rw [hcl]; exact hlt)
      have hnm := bkC_nm hD0
      have hn1 := bkC_one hD0
      have hw2 := bkC_wt hD0 1
      rw [List.set_set] at hw2
      have hld := bkC_len ((chW f s.bs k).set k ⟨b.nm, 0⟩)
      rw [List.length_set, hcl] at hld
      cases he : decide (b.nm = nm)
      · have hf0 : f k b = 0 := by rw [← hfe]; exact if_neg (by simpa using he)
        rw [hf0] at hst
        ((refine ggb0 (F := _∧_) ⟨@Int.ofNat_lt, hlt⟩ ?_))
        ((repeat refine AW_seq ?_))
        refine AW_block ?_
        ((refine ggb0 (F := _∧_∧_∧_∧_∧_∧_) ⟨hlt, hlc, hw1, hnm, hn1, hld, he⟩ ?_))
        refine ⟨(k + 1, tt), hlt, by show s.bs.length - (k + 1) < s.bs.length - k; omega, ?_⟩
        simp only [hst]
        (simp (disch := omega) only [StLe, tmLe, hpLe_refl, hpLe, bl, bb, bt, zDs, zD, eqCells, simprocAttr])
      · have hf1 : f k b = 1 := by rw [← hfe]; exact if_pos (by simpa using he)
        rw [hf1] at hst
        ((refine ggb0 (F := _∧_) ⟨@Int.ofNat_lt, hlt⟩ ?_))
        ((repeat refine AW_seq ?_))
        refine AW_block ?_
        ((refine ggb0 (F := _∧_∧_∧_∧_∧_∧_∧_) ⟨hlt, hlc, hw1, hnm, hn1, hld, he, hw2⟩ ?_))
        refine ⟨(k + 1, tt), hlt, by show s.bs.length - (k + 1) < s.bs.length - k; omega, ?_⟩
        simp only [hst]
        (simp (disch := omega) only [StLe, tmLe, hpLe_refl, hpLe, bl, bb, bt, zDs, zD, eqCells, simprocAttr])
    · have hke : k = s.bs.length := by omega
      subst hke
      ((refine wqb @Int.lt_irrefl ?_))
      ((refine wia ?_))
      ((refine wxa ?_))
      exact ⟨tt, trivial, by (simp (disch := omega) only [StLe, tmLe, hpLe_refl, hpLe, bl, bb, bt, zDs, zD, eqCells, simprocAttr])⟩
  rintro tt -
  rw [hun]
  have hul := unit_len s nm
  have hlu := bkC_len (unitS s nm).bs
  rw [hul] at hlu
  have hfin : List.take (s.bs.length * 2) (bkC (unitS s nm).bs) = bkC (unitS s nm).bs := List.take_of_length_le (by omega)
  have er : (unitS s nm).rs = s.rs := rfl
  ((refine AW.freeze (2) (by first | rfl | (simp only [setH, List.getElem?_cons_zero, List.getElem?_cons_succ, fz_bk, fz_rp, hfin, hlu, Nat.le_refl]; done)) ?_); simp (disch := omega) only [fzT, fz, fzL, fzL_ints, fzL_mat, fzH, fzB, eq_self, bb, bt, zDs, zD, eqCells, simprocAttr, fz_bk, fz_rp, hfin, hlu, Nat.le_refl])
  ((refine gga0 ?_))
  ((repeat refine AW_seq ?_); (refine wta ?_); simp (disch := omega) only [retQ, resD, oneD, bb, bt, zDs, zD, eqCells, simprocAttr, Tryz.results106])
  rw [← er]
  exact rsv_tidy _ _ (by simp only [tidyD, tidyL, tidy_bk, tidy_rp, Bool.not_false, Bool.and_self])
theorem over_R {a b : Int × Int} (ha : vfrac a.1 a.2 = true) (hb : vfrac b.1 b.2 = true) : PRet Tryz.prog 107 [frD a, frD b] (fe (divP a b)) := by
  rw [divP_ok ha hb]
  exact refOver a b ha hb
theorem unitS_fits {s : Sy} (hf : Fits s) (nm : ByteArray) : Fits (unitS s nm) := ⟨by rw [unit_len]; exact hf.nb, hf.nr, fun b hb => by
  obtain ⟨c, hc, rfl⟩ := List.mem_map.1 hb
  exact hf.sb c hc, hf.sr⟩
theorem forces_ref (s : Sy) (hf : Fits s) (nm : ByteArray) : PRet Tryz.prog 36 [syD s, str nm] (fe (forP s nm)) := by
  refine PRet.intro 1 fun t => ACall.enter tab_ok Tryz.func36 rfl rfl Tryz.ntmps36 (by simp) ?_
  simp only [enterTM]
  have hV := valid_ref s hf
  have hI := refFindBlock s nm hf.nb
  unfold forP
  cases hv : validS s
  · rw [hv] at hV
    ((refine gga1 hV ?_))
    ((repeat refine AW_seq ?_); (refine wta ?_); simp (disch := omega) only [retQ, resD, oneD, rsv, rs, rsL, rsL_eq_map, List.map_map, bb, bt, zDs, zD, eqCells, simprocAttr, Tryz.results36])
  rw [hv] at hV
  rw [if_pos rfl]
  by_cases hb : findB s.bs nm < 0
  · rw [if_pos hb]
    ((refine ggb2 hb hV hI ?_))
    ((repeat refine AW_seq ?_); (refine wta ?_); simp (disch := omega) only [retQ, resD, oneD, rsv, rs, rsL, rsL_eq_map, List.map_map, bb, bt, zDs, zD, eqCells, simprocAttr, Tryz.results36])
  rw [if_neg hb]
  have hU := unit_ref s hv nm
  have hH := haul_ref (unitS s nm) (unitS_fits hf nm)
  unfold overN
  by_cases hz : (haulP (unitS s nm)).2 = 0
  rotate_left 1
  · rw [if_neg hz]
    have e1 : ((haulP (unitS s nm)).2 != 0) = true := by simpa using hz
    generalize haulP (unitS s nm) = X at *
    ((refine ggb4 (F := _∧_) ⟨hb, e1⟩ hV hI hU hH ?_))
    ((repeat refine AW_seq ?_); (refine wta ?_); simp (disch := omega) only [retQ, resD, oneD, rsv, rs, rsL, rsL_eq_map, List.map_map, bb, bt, zDs, zD, eqCells, simprocAttr, Tryz.results36])
  · rw [if_pos hz]
    have e1 : ((haulP (unitS s nm)).2 != 0) = false := by simpa using hz
    obtain ⟨_, _, i, r, _, _, _, _, Z, D, _, _, hvt⟩ := haulP_val hz
    have h1 := refOf 1
    have hO := over_R (a := (1, 1)) (by decide) hvt.v
    generalize haulP (unitS s nm) = X at *
    generalize divP (1, 1) X.1 = Y at *
    ((refine ggb4 (F := _∧_) ⟨hb, e1⟩ hV hI hU hH ?_))
    ((repeat refine AW_seq ?_); (refine gdza2 h1 hO ?_))
    ((repeat refine AW_seq ?_); (refine wta ?_); simp (disch := omega) only [retQ, resD, oneD, rsv, rs, rsL, rsL_eq_map, List.map_map, bb, bt, zDs, zD, eqCells, simprocAttr, Tryz.results36])
def wsumS (s : Sy) (k : Nat) : Int := ((wtsS s).take k).sum
theorem wsumS_step {s : Sy} {k : Nat} {b : Bk} (h : s.bs[k]? = some b) : wsumS s (k + 1) = wsumS s k + b.w := by
  have hw : (wtsS s)[k]? = some b.w := by simp [wtsS, h]
  unfold wsumS
  rw [List.take_add_one, hw, Option.toList_some, List.sum_append]
  simp
theorem wsumS_le {s : Sy} (ok : OkS s) : ∀ k, 0 ≤ wsumS s k ∧ wsumS s k ≤ k * 16777216
  | 0 => by simp [wsumS]
  | k + 1 => by
    have ih := wsumS_le ok k
    cases h : s.bs[k]? with
    | none =>
      have hw : (wtsS s)[k]? = none := by simp [wtsS, h]
      have e : wsumS s (k + 1) = wsumS s k := by
        unfold wsumS
        rw [List.take_add_one, hw]
        simp
      rw [e]
      omega
    | some b =>
      rw [wsumS_step h]
      have := ok.wts b (List.mem_of_getElem? h)
      omega
theorem wsumS_end (s : Sy) : wsumS s s.bs.length = sumW s := by
  unfold wsumS sumW
  rw [List.take_of_length_le (by simp [wtsS])]
set_option maxHeartbeats 4000000 in
theorem ratio_ref (s : Sy) (hf : Fits s) : PRet Tryz.prog 38 [syD s] (fe (ratP s)) := by
  refine PRet.intro 1 fun t => ACall.enter tab_ok Tryz.func38 rfl rfl Tryz.ntmps38 (by simp) ?_
  simp only [enterTM]
  have hH := haul_ref s hf
  unfold ratP overN
  by_cases hz : (haulP s).2 = 0
  rotate_left 1
  · rw [if_neg hz]
    have e1 : ((haulP s).2 != 0) = true := by simpa using hz
    generalize haulP s = X at *
    ((refine ggb1 e1 hH ?_))
    ((repeat refine AW_seq ?_); (refine wta ?_); simp (disch := omega) only [retQ, resD, oneD, rsv, rs, rsL, rsL_eq_map, List.map_map, bb, bt, zDs, zD, eqCells, simprocAttr, Tryz.results38])
  rw [if_pos hz]
  have e1 : ((haulP s).2 != 0) = false := by simpa using hz
  obtain ⟨hv, _, i, r, _, _, _, _, Z, D, _, _, hvt⟩ := haulP_val hz
  have ok := validS_ok hv
  have hb6 := ok.b6
  have hdb := bkC_div s.bs
  have hlb := bkC_len s.bs
  have hle := wsumS_le ok
  have hlast := hle s.bs.length
  have hend := wsumS_end s
  have hz0 : wsumS s 0 = 0 := rfl
  rw [← hend]
  have h1 := refOf (wsumS s s.bs.length)
  have hO := over_R (a := (wsumS s s.bs.length, 1)) (vfrac_one (by omega)) hvt.v
  generalize haulP s = X at *
  ((refine ggb1 (F := _∧_) ⟨e1, hdb⟩ hH ?_))
  ((repeat refine AW_seq ?_))
  refine AW_mid (fun x : Nat => ⟨[(2, .ptr 1 (t + 1 + 1) 0), (4, .ptr 2 (t + 1 + 1 + 1) 0), (6, int (wsumS s s.bs.length))], [none, some ⟨43, t + 1 + 1, [int 0, int 0]⟩, some ⟨43, t + 1 + 1 + 1, [int X.1.1, int X.1.2]⟩], x⟩) (fun _ => True) ?_ ?_
  · refine AW_block ?_
    refine AW_loop_w (fun x : Nat × Nat => ⟨[(1, .ptr 0 (t + 1) 0), (2, .ptr 1 (t + 1 + 1) 0), (4, .ptr 2 (t + 1 + 1 + 1) 0), (6, int (wsumS s x.1)), (7, int x.1)], [some ⟨25, t + 1, [bks s.bs, rps s.rs]⟩, some ⟨43, t + 1 + 1, [int 0, int 0]⟩, some ⟨43, t + 1 + 1 + 1, [int X.1.1, int X.1.2]⟩], x.2⟩) (fun x => s.bs.length - x.1) (fun x => x.1 ≤ s.bs.length) (0, t + 1 + 1 + 1) (Nat.zero_le _) (by (simp (disch := omega) only [StLe, tmLe, hpLe_refl, hpLe, bl, bb, bt, zDs, zD, eqCells, simprocAttr, hz0])) ?_
    rintro ⟨k, tt⟩ hk
    simp only at hk
    by_cases hlt : k < s.bs.length
    · obtain ⟨b, hb⟩ : ∃ y, s.bs[k]? = some y := ⟨_, List.getElem?_eq_getElem hlt⟩
      have hra := bkC_read s.bs k b hb
      have hw := bkC_w hb
      have hst := wsumS_step hb
      have hk1 := hle k
      have bw := ok.wts b (List.mem_of_getElem? hb)
      have hwr := wr64 (wsumS s k + b.w) (by omega)
      ((refine ggb0 (F := _∧_∧_) ⟨@Int.ofNat_lt, hlt, hdb⟩ ?_))
      ((repeat refine AW_seq ?_))
      refine AW_block ?_
      ((refine ggb0 (F := _∧_∧_∧_∧_∧_) ⟨hlt, hdb, hlb, hra, hw, hwr⟩ ?_))
      refine ⟨(k + 1, tt), hlt, by show s.bs.length - (k + 1) < s.bs.length - k; omega, ?_⟩
      simp only [hst]
      (simp (disch := omega) only [StLe, tmLe, hpLe_refl, hpLe, bl, bb, bt, zDs, zD, eqCells, simprocAttr])
    · have hke : k = s.bs.length := by omega
      subst hke
      ((refine wqb (F := _∧_) ⟨@Int.lt_irrefl, hdb⟩ ?_))
      ((refine wia ?_))
      ((refine wxa ?_))
      exact ⟨tt, trivial, by (simp (disch := omega) only [StLe, tmLe, hpLe_refl, hpLe, bl, bb, bt, zDs, zD, eqCells, simprocAttr])⟩
  rintro tt -
  generalize divP (wsumS s s.bs.length, 1) X.1 = Y at *
  generalize wsumS s s.bs.length = W at *
  ((repeat refine AW_seq ?_); (refine gdza2 h1 hO ?_))
  ((repeat refine AW_seq ?_); (refine wta ?_); simp (disch := omega) only [retQ, resD, oneD, rsv, rs, rsL, rsL_eq_map, List.map_map, bb, bt, zDs, zD, eqCells, simprocAttr, Tryz.results38])
theorem plusP_err {s f : Int × Int} {n : Int} (hs : vfrac s.1 s.2 = true) (hf : vfrac f.1 f.2 = true) (hn : -1152921504606846976 ≤ n ∧ n ≤ 1152921504606846976) : (plusP s n f).2 = 0 ∨ (plusP s n f).2 = 5 := by
  have h1 : vfrac n 1 = true := vfrac_one (by omega)
  unfold plusP
  rw [mulP_ok (a := (n, 1)) h1 hf]
  split
  · rename_i h2
    have hv := mulR_valid (a := (n, 1)) h1 hf h2
    rw [addP_ok hs hv]
    exact addR_err hs hv
  · rename_i h2
    exact .inr ((mulR_err (a := (n, 1)) h1 hf).resolve_left h2)
theorem dotF_err : ∀ {r : List Int} {x : List (Int × Int)} {s : Int × Int}, (∀ n ∈ r, -1152921504606846976 ≤ n ∧ n ≤ 1152921504606846976) → allV x = true → vfrac s.1 s.2 = true → (dotF r x s).2 = 0 ∨ (dotF r x s).2 = 5
  | [], x, s, _, _, _ => by cases x <;> exact .inl rfl
  | n :: r, [], s, _, _, _ => .inl rfl
  | n :: r, f :: x, s, hr, hx, hs => by
    have hvf : vfrac f.1 f.2 = true := allV_at (k := 0) hx rfl
    have hx' : allV x = true := by unfold allV at hx ⊢; simp only [List.all_cons, Bool.and_eq_true] at hx; exact hx.2
    have hn := hr n (by simp)
    have hp := plusP_valid hs hvf hn
    have he := plusP_err hs hvf hn
    have e := dotF_plus (r := n :: r) (x := f :: x) (k := 0) rfl rfl s
    simp only [List.drop_zero, List.drop_succ_cons, Nat.zero_add] at e
    rw [e]
    split
    · rename_i hz
      exact dotF_err (fun m hm => hr m (List.mem_cons_of_mem _ hm)) hx' (hp hz)
    · rename_i hz
      exact .inr (he.resolve_left hz)
set_option maxRecDepth 100000 in
set_option maxHeartbeats 8000000 in
theorem work_ref (s : Sy) (hf : Fits s) (h : List Int) (hl : h.length ≤ 1000000) : PRet Tryz.prog 32 [syD s, ints h] (.tup [frD (workP s h).1, frD (workP s h).2.1, int (workP s h).2.2]) := by
  refine PRet.intro 1 fun t => ACall.enter tab_ok Tryz.func32 rfl rfl Tryz.ntmps32 (by simp) ?_
  simp only [enterTM]
  have hS := speeds_ref s hf h hl
  have hH := haul_ref s hf
  unfold workP
  by_cases h1 : (speedsP s h).2 = 0
  rotate_left 1
  · have e1 : ((speedsP s h).2 != 0) = true := by simpa using h1
    rw [if_neg h1]
    generalize speedsP s h = X at *
    ((refine ggb1 e1 hS ?_))
    ((repeat refine AW_seq ?_); (refine wta ?_); simp (disch := omega) only [retQ, resD, oneD, rsv, rs, rsL, rsL_eq_map, List.map_map, bb, bt, zDs, zD, eqCells, simprocAttr, Tryz.results32])
  have e1 : ((speedsP s h).2 != 0) = false := by simpa using h1
  rw [if_pos h1]
  by_cases h2 : (haulP s).2 = 0
  rotate_left 1
  · have e2 : ((haulP s).2 != 0) = true := by simpa using h2
    rw [if_neg h2]
    generalize speedsP s h = X at *
    generalize haulP s = Y at *
    ((refine ggb2 (F := _∧_) ⟨e1, e2⟩ hS hH ?_))
    ((repeat refine AW_seq ?_); (refine wta ?_); simp (disch := omega) only [retQ, resD, oneD, rsv, rs, rsL, rsL_eq_map, List.map_map, bb, bt, zDs, zD, eqCells, simprocAttr, Tryz.results32])
  have e2 : ((haulP s).2 != 0) = false := by simpa using h2
  rw [if_pos h2]
  obtain ⟨hv, htz, i, r, ei, hr, hh, _, Z, D, hD, hZ, hVt⟩ := haulP_val h2
  have ok := validS_ok hv
  obtain ⟨X', E, hE, hX, hvl, hV⟩ := speedsP_val h1
  obtain ⟨hg, _⟩ := speedsP_full h1
  obtain ⟨_, hhl, hp⟩ := givH_zero hg
  have hil := (List.getElem?_eq_some_iff.1 hr).1
  have hih : i < h.length := by omega
  obtain ⟨n, hn⟩ : ∃ y, h[i]? = some y := ⟨_, List.getElem?_eq_getElem hih⟩
  have eh : h.getD (hix s).toNat 0 = n := by rw [ei, Int.toNat_natCast, List.getD_eq_getElem?_getD, hn]; rfl
  rw [eh]
  have hnb := withinP_spec (rangedP_within hhl hp) n (List.mem_of_getElem? hn)
  have hI := refHaul s hf.nr
  rw [ei] at hI
  have hW := refOf n
  have vn : vfrac n 1 = true := vfrac_one (by omega)
  have hM := refTimes (haulP s).1 (n, 1) hVt.v vn
  have hme := mulR_err (a := (haulP s).1) (b := (n, 1)) hVt.v vn
  rw [mulP_ok (a := (haulP s).1) (b := (n, 1)) hVt.v vn]
  have hav : allV (speedsP s h).1 = true := allV_of hV
  have hwt : ∀ x ∈ wtsS s, -1152921504606846976 ≤ x ∧ x ≤ 1152921504606846976 := fun x hx => by
    obtain ⟨b, hb, rfl⟩ := List.mem_map.1 hx
    have := ok.wts b hb
    omega
  have hwl := ok.wts_len
  have hb6 := ok.b6
  have hWt := weights_ref s hf.nb
  have hSum := sum_ref (wtsS s) (speedsP s h).1 (by omega) (by omega) (by omega) hwt hav
  have hde := dotF_err hwt hav (s := (0, 1)) (by decide)
  clear hZ hX hV hVt htz hg hp
  generalize speedsP s h = V at *
  generalize haulP s = T at *
  obtain ⟨v, ve⟩ := V
  obtain ⟨tf, te⟩ := T
  simp only at *
  subst h1
  subst h2
  generalize mulR tf (n, 1) = M at *
  generalize dotF (wtsS s) v (0, 1) = R at *
  ((refine gga2 hS hH ?_))
  ((repeat refine AW_seq ?_); (refine gdob3_ARW (F := _∧_) ⟨hih, hn⟩ hI hW hM ?_))
  rcases hme with hm | hm
  · rw [if_pos hm]
    rcases hde with hd | hd
    · rw [if_pos hd]
      ((refine ggb2 (F := _∧_) ⟨hm, hd⟩ hWt hSum ?_))
      ((repeat refine AW_seq ?_); (refine gdza_ARW ?_))
      ((repeat refine AW_seq ?_); (refine wta ?_); simp (disch := omega) only [retQ, resD, oneD, rsv, rs, rsL, rsL_eq_map, List.map_map, bb, bt, zDs, zD, eqCells, simprocAttr, Tryz.results32])
    · rw [if_neg (by omega)]
      ((refine ggb2 (F := _∧_) ⟨hm, hd⟩ hWt hSum ?_))
      ((repeat refine AW_seq ?_); (refine wta ?_); simp (disch := omega) only [retQ, resD, oneD, rsv, rs, rsL, rsL_eq_map, List.map_map, bb, bt, zDs, zD, eqCells, simprocAttr, Tryz.results32, hd])
  · rw [if_neg (by omega), hm]
    ((refine ggb2 hm hWt hSum ?_))
    ((repeat refine AW_seq ?_); (refine wta ?_); simp (disch := omega) only [retQ, resD, oneD, rsv, rs, rsL, rsL_eq_map, List.map_map, bb, bt, zDs, zD, eqCells, simprocAttr, Tryz.results32])
set_option maxRecDepth 100000 in
set_option maxHeartbeats 8000000 in
theorem best_ref (l : List Sy) (nm : ByteArray) (hl : l.length ≤ 1000) (hf : ∀ x ∈ l, Fits x) : PRet Tryz.prog 41 [sys l, str nm] (.tup [int (bestP l nm).1, int (bestP l nm).2]) := by
  refine PRet.intro 1 fun t => ACall.enter tab_ok Tryz.func41 rfl rfl Tryz.ntmps41 (by simp) ?_
  simp only [enterTM]
  have hld := sys_div l
  ((refine gga0 ?_))
  ((repeat refine AW_seq ?_))
  refine AW_mid (fun x : Nat => ⟨[(0, sys l), (1, str nm)], [], x⟩) (fun _ => (l.any fun s => !validS s) = false) ?_ ?_
  · refine AW_block ?_
    refine AW_loop_w (fun x : Nat × Nat => ⟨[(0, sys l), (1, str nm), (6, int x.1)], [], x.2⟩) (fun x => l.length - x.1) (fun x => x.1 ≤ l.length ∧ ∀ i y, i < x.1 → l[i]? = some y → validS y = true) (0, t) ⟨Nat.zero_le _, fun i y h => by omega⟩ (by (simp (disch := omega) only [StLe, tmLe, hpLe_refl, hpLe, bl, bb, bt, zDs, zD, eqCells, simprocAttr])) ?_
    rintro ⟨k, tt⟩ ⟨hk, hal⟩
    simp only at hk hal
    by_cases hlt : k < l.length
    · obtain ⟨x, hx⟩ : ∃ y, l[k]? = some y := ⟨_, List.getElem?_eq_getElem hlt⟩
      have hra := sys_read l k x hx
      have hV := valid_ref x (hf x (List.mem_of_getElem? hx))
      ((refine ggb0 (F := _∧_∧_) ⟨@Int.ofNat_lt, hlt, hld⟩ ?_))
      ((repeat refine AW_seq ?_))
      refine AW_block ?_
      cases hv : validS x
      · rw [hv] at hV
        have e : bestP l nm = (0, 1) := by
          unfold bestP
          rw [if_pos]
          rw [List.any_eq_true]
          exact ⟨x, List.mem_of_getElem? hx, by simp [hv]⟩
        ((refine ggb1 (F := _∧_∧_) ⟨hlt, hld, hra⟩ hV ?_))
        ((repeat refine AW_seq ?_); (refine wta ?_); simp (disch := omega) only [retQ, resD, oneD, rsv, rs, rsL, rsL_eq_map, List.map_map, bb, bt, zDs, zD, eqCells, simprocAttr, Tryz.results41, e])
      · rw [hv] at hV
        ((refine ggb1 (F := _∧_∧_) ⟨hlt, hld, hra⟩ hV ?_))
        refine ⟨(k + 1, tt), ⟨hlt, fun i y hi hy => ?_⟩, by show l.length - (k + 1) < l.length - k; omega, ?_⟩
        · by_cases hik : i = k
          · subst hik
            rw [hx, Option.some.injEq] at hy
            exact hy ▸ hv
          · exact hal i y (by omega) hy
        (simp (disch := omega) only [StLe, tmLe, hpLe_refl, hpLe, bl, bb, bt, zDs, zD, eqCells, simprocAttr])
    · have hke : k = l.length := by omega
      subst hke
      ((refine wqb (F := _∧_) ⟨@Int.lt_irrefl, hld⟩ ?_))
      ((refine wia ?_))
      ((refine wxa ?_))
      refine ⟨tt, ?_, by (simp (disch := omega) only [StLe, tmLe, hpLe_refl, hpLe, bl, bb, bt, zDs, zD, eqCells, simprocAttr])⟩
      rw [List.any_eq_false]
      intro y hy
      obtain ⟨i, hi⟩ := List.mem_iff_getElem?.1 hy
      simp [hal i y (List.getElem?_eq_some_iff.1 hi).1 hi]
  rintro t1 ha
  by_cases h20 : 20 < l.length
  · have h20' : (20 : Int) < l.length := by omega
    have e : bestP l nm = (0, 4) := by unfold bestP; rw [if_neg (by rw [ha]; decide), if_pos h20]
    ((refine ggb0 (F := _∧_) ⟨h20', hld⟩ ?_))
    ((repeat refine AW_seq ?_); (refine wta ?_); simp (disch := omega) only [retQ, resD, oneD, rsv, rs, rsL, rsL_eq_map, List.map_map, bb, bt, zDs, zD, eqCells, simprocAttr, Tryz.results41, e])
  have h20' : ¬ (20 : Int) < l.length := by omega
  have e : bestP l nm = if (bstK l nm l.length).2 < 0 then (0, 12) else ((bstK l nm l.length).2, 0) := by unfold bestP; rw [if_neg (by rw [ha]; decide), if_neg h20]
  rw [e]
  ((refine ggb0 (F := _∧_) ⟨h20', hld⟩ ?_))
  have hz : bstK l nm 0 = ((0, 0), -1) := rfl
  ((repeat refine AW_seq ?_))
  refine AW_mid (fun x : Nat => ⟨[(7, int (bstK l nm l.length).2)], [], x⟩) (fun _ => True) ?_ ?_
  · refine AW_block ?_
    refine AW_loop_w (fun x : Nat × Nat => ⟨[(0, sys l), (1, str nm), (7, int (bstK l nm x.1).2), (8, .ptr 0 (t1 + 1) 0), (9, int x.1)], [some ⟨43, t1 + 1, [int (bstK l nm x.1).1.1, int (bstK l nm x.1).1.2]⟩], x.2⟩) (fun x => l.length - x.1) (fun x => x.1 ≤ l.length) (0, t1 + 1) (Nat.zero_le _) (by (simp (disch := omega) only [StLe, tmLe, hpLe_refl, hpLe, bl, bb, bt, zDs, zD, eqCells, simprocAttr, hz])) ?_
    rintro ⟨k, tt⟩ hk
    simp only at hk
    by_cases hlt : k < l.length
    · obtain ⟨x, hx⟩ : ∃ y, l[k]? = some y := ⟨_, List.getElem?_eq_getElem hlt⟩
      have hra := sys_read l k x hx
      have hF := forces_ref x (hf x (List.mem_of_getElem? hx)) nm
      have hst := bstK_step (nm := nm) hx
      have hin := bstK_in l nm k hk
      have hnum := bstK_num l nm k hk
      have hfv := forP_vfrac (s := x) (nm := nm)
      unfold bstS at hst
      generalize forP x nm = Y at *
      generalize bstK l nm k = B at *
      by_cases hy : Y.2 = 0
      rotate_left 1
      · have e1 : (Y.2 == 0) = false := by simpa using hy
        rw [if_neg (fun h => hy h.1)] at hst
        ((refine ggb0 (F := _∧_∧_) ⟨@Int.ofNat_lt, hlt, hld⟩ ?_))
        ((repeat refine AW_seq ?_))
        refine AW_block ?_
        ((refine ggb1 (F := _∧_∧_∧_) ⟨hlt, hld, hra, e1⟩ hF ?_))
        refine ⟨(k + 1, tt + 1), hlt, by show l.length - (k + 1) < l.length - k; omega, ?_⟩
        simp only [hst]
        (simp (disch := omega) only [StLe, tmLe, hpLe_refl, hpLe, bl, bb, bt, zDs, zD, eqCells, simprocAttr])
      have e1 : (Y.2 == 0) = true := by simpa using hy
      by_cases hb : B.2 < 0
      · rw [if_pos ⟨hy, .inl hb⟩] at hst
        ((refine ggb0 (F := _∧_∧_) ⟨@Int.ofNat_lt, hlt, hld⟩ ?_))
        ((repeat refine AW_seq ?_))
        refine AW_block ?_
        ((refine ggb1 (F := _∧_∧_∧_∧_) ⟨hlt, hld, hra, e1, hb⟩ hF ?_))
        ((repeat refine AW_seq ?_); (refine gdza_ARW ?_))
        ((refine gga0 ?_))
        refine ⟨(k + 1, tt + 1 + 1), hlt, by show l.length - (k + 1) < l.length - k; omega, ?_⟩
        simp only [hst]
        (simp (disch := omega) only [StLe, tmLe, hpLe_refl, hpLe, bl, bb, bt, zDs, zD, eqCells, simprocAttr])
      have hbv := (hin.resolve_left hb).2
      have hM := refCmp Y.1 B.1 (hfv hy) hbv
      by_cases hc : 0 < cmpV Y.1 B.1
      · rw [if_pos ⟨hy, .inr hc⟩] at hst
        ((refine ggb0 (F := _∧_∧_) ⟨@Int.ofNat_lt, hlt, hld⟩ ?_))
        ((repeat refine AW_seq ?_))
        refine AW_block ?_
        ((refine ggb2 (F := _∧_∧_∧_∧_∧_) ⟨hlt, hld, hra, e1, hb, hc⟩ hF hM ?_))
        ((repeat refine AW_seq ?_); (refine gdza_ARW ?_))
        ((refine gga0 ?_))
        refine ⟨(k + 1, tt + 1 + 1), hlt, by show l.length - (k + 1) < l.length - k; omega, ?_⟩
        simp only [hst]
        (simp (disch := omega) only [StLe, tmLe, hpLe_refl, hpLe, bl, bb, bt, zDs, zD, eqCells, simprocAttr])
      · rw [if_neg (fun h => h.2.elim hb hc)] at hst
        ((refine ggb0 (F := _∧_∧_) ⟨@Int.ofNat_lt, hlt, hld⟩ ?_))
        ((repeat refine AW_seq ?_))
        refine AW_block ?_
        ((refine ggb2 (F := _∧_∧_∧_∧_∧_) ⟨hlt, hld, hra, e1, hb, hc⟩ hF hM ?_))
        refine ⟨(k + 1, tt + 1), hlt, by show l.length - (k + 1) < l.length - k; omega, ?_⟩
        simp only [hst]
        (simp (disch := omega) only [StLe, tmLe, hpLe_refl, hpLe, bl, bb, bt, zDs, zD, eqCells, simprocAttr])
    · have hke : k = l.length := by omega
      subst hke
      ((refine wqb (F := _∧_) ⟨@Int.lt_irrefl, hld⟩ ?_))
      ((refine wia ?_))
      ((refine wxa ?_))
      exact ⟨tt, trivial, by (simp (disch := omega) only [StLe, tmLe, hpLe_refl, hpLe, bl, bb, bt, zDs, zD, eqCells, simprocAttr])⟩
  rintro tt -
  generalize bstK l nm l.length = B at *
  by_cases hb : B.2 < 0
  · rw [if_pos hb]
    ((refine ggb0 hb ?_))
    ((repeat refine AW_seq ?_); (refine wta ?_); simp (disch := omega) only [retQ, resD, oneD, rsv, rs, rsL, rsL_eq_map, List.map_map, bb, bt, zDs, zD, eqCells, simprocAttr, Tryz.results41])
  · rw [if_neg hb]
    ((refine ggb0 hb ?_))
    ((repeat refine AW_seq ?_); (refine wta ?_); simp (disch := omega) only [retQ, resD, oneD, rsv, rs, rsL, rsL_eq_map, List.map_map, bb, bt, zDs, zD, eqCells, simprocAttr, Tryz.results41])
end Go.Proofs.YtjjpjgnoanfaoaaGreat.T

namespace Go.Proofs.YtjjpjgnoanfaoaaGreat.T
open Go Go.RowKit Lin
theorem ggb8_ARL {F C1 C2 C3 C4 C5 C6 C7 C8 P Q : Prop} (f : F) (c1 : C1) (c2 : C2) (c3 : C3) (c4 : C4) (c5 : C5) (c6 : C6) (c7 : C7) (c8 : C8) (q : Q) (h : F → C1 → C2 → C3 → C4 → C5 → C6 → C7 → C8 → Q → P := by
  intro ff cc1 cc2 cc3 cc4 cc5 cc6 cc7 cc8 hq
  (try with_reducible intro KR hKR)
  (repeat' (first | (with_reducible refine AW_seq ?_) | (with_reducible refine AW_region_k tab_ok fun KR hKR => ?_) | ((first | with_reducible refine AW_skip ?_ | with_reducible refine AW_exit ?_ | ((with_reducible refine awOps_nil ?_); refine hKR _ ?_; (try clear hKR KR))); (repeat (with_reducible first | refine q1 ?_ | refine q2 ?_ | refine q3 ?_ | refine q4 ?_ | refine q5 ?_ | refine q6 ?_ | (refine q7 ?_ ?_; (focus (with_unfolding_all rfl)))))) | ((first | ((with_reducible refine at_ops ?_); (first | refine awOps_n rfl fun KK hKK => ?_ | refine awOps_g rfl rfl fun KK hKK => ?_ | refine awOps_gc rfl fun KK hKK => ?_ | refine awOps_nc fun KK hKK => ?_)) | with_reducible refine AW_cond_k (tab := tab) fun KK hKK => ?_); simp (disch := omega) only [bb, bt, zDs, zD, eqCells, simprocAttr, ff, bne_self_eq_false, Int.reduceBNe, Int.reduceBEq, Bool.bne_false, Bool.bne_true, Bool.false_bne, Bool.true_bne, goC, callO_fn, argsD, and_self]; (try ((first | (with_reducible refine ACall.of_pret (cc1) ?_ ?_; (focus (first | (simp only [um]; done) | rfl))) | (with_reducible refine ACall.of_pret (cc2) ?_ ?_; (focus (first | (simp only [um]; done) | rfl))) | (with_reducible refine ACall.of_pret (cc3) ?_ ?_; (focus (first | (simp only [um]; done) | rfl))) | (with_reducible refine ACall.of_pret (cc4) ?_ ?_; (focus (first | (simp only [um]; done) | rfl))) | (with_reducible refine ACall.of_pret (cc5) ?_ ?_; (focus (first | (simp only [um]; done) | rfl))) | (with_reducible refine ACall.of_pret (cc6) ?_ ?_; (focus (first | (simp only [um]; done) | rfl))) | (with_reducible refine ACall.of_pret (cc7) ?_ ?_; (focus (first | (simp only [um]; done) | rfl))) | (with_reducible refine ACall.of_pret (cc8) ?_ ?_; (focus (first | (simp only [um]; done) | rfl)))); simp only [afterC, St.put, putTM, ↓reduceIte, Nat.reduceEqDiff])); refine hKK _ ?_; clear hKK KK; (first | with_reducible refine at_ops ?_ | with_reducible refine i1 ?_ | with_reducible refine i0 ?_))))
  (first | exact hq | (revert hKR; revert KR; exact hq))) : P := h f c1 c2 c3 c4 c5 c6 c7 c8 q
set_option linter.unusedSimpArgs false

/-! Chapter 13: the answers are those of the reference. -/
set_option maxHeartbeats 4000000 in
theorem law_works13 (s : Sy) (h : List Int) : PRet Tryz.prog 5 [syD s, ints h] (bool true) := by
  refine PRet.intro 1 fun t => ACall.enter tab_ok Tryz.func5 rfl rfl Tryz.ntmps5 (by simp) ?_
  simp only [enterTM]
  have hL := large13 s
  cases hs : smallS s
  · rw [hs] at hL
    ((refine gga2 awake13 hL ?_))
    ((repeat refine AW_seq ?_); (refine wta ?_); simp (disch := omega) only [retQ, resD, oneD, rsv, rs, rsL, rsL_eq_map, List.map_map, bb, bt, zDs, zD, eqCells, simprocAttr, Tryz.results5])
  rw [hs] at hL
  by_cases hh : (10 : Int) < h.length
  · ((refine ggb2 hh awake13 hL ?_))
    ((repeat refine AW_seq ?_); (refine wta ?_); simp (disch := omega) only [retQ, resD, oneD, rsv, rs, rsL, rsL_eq_map, List.map_map, bb, bt, zDs, zD, eqCells, simprocAttr, Tryz.results5])
  have hf := small_fits hs
  have hW := work13 s hf h (by omega)
  have hR := work_ref s hf h (by omega)
  generalize workP s h = X at *
  obtain ⟨⟨a1, a2⟩, ⟨b1, b2⟩, e⟩ := X
  simp only at *
  have v1 : (a1 == a1) = true := by simp
  have v2 : (a2 == a2) = true := by simp
  have v3 : (b1 == b1) = true := by simp
  have v4 : (b2 == b2) = true := by simp
  have v5 : (e == e) = true := by simp
  ((refine ggb4 (F := _∧_∧_∧_∧_∧_) ⟨hh, v1, v2, v3, v4, v5⟩ awake13 hL hW hR ?_))
  ((repeat refine AW_seq ?_); (refine wta ?_); simp (disch := omega) only [retQ, resD, oneD, rsv, rs, rsL, rsL_eq_map, List.map_map, bb, bt, zDs, zD, eqCells, simprocAttr, Tryz.results5])
set_option maxRecDepth 100000 in
set_option maxHeartbeats 4000000 in
theorem law_both13 (s : Sy) (nm : ByteArray) : PRet Tryz.prog 6 [syD s, str nm] (bool true) := by
  refine PRet.intro 1 fun t => ACall.enter tab_ok Tryz.func6 rfl rfl Tryz.ntmps6 (by simp) ?_
  simp only [enterTM]
  have hL := large13 s
  cases hs : smallS s
  · rw [hs] at hL
    ((refine gga2 awake13 hL ?_))
    ((repeat refine AW_seq ?_); (refine wta ?_); simp (disch := omega) only [retQ, resD, oneD, rsv, rs, rsL, rsL_eq_map, List.map_map, bb, bt, zDs, zD, eqCells, simprocAttr, Tryz.results6])
  rw [hs] at hL
  by_cases hn : (60 : Int) < nm.size
  · ((refine ggb2 hn awake13 hL ?_))
    ((repeat refine AW_seq ?_); (refine wta ?_); simp (disch := omega) only [retQ, resD, oneD, rsv, rs, rsL, rsL_eq_map, List.map_map, bb, bt, zDs, zD, eqCells, simprocAttr, Tryz.results6])
  have hf := small_fits hs
  have h1 := forces13 s hf nm
  have h2 := travels13 s hf nm
  have h3 := ratio13 s hf
  have h4 := forces_ref s hf nm
  have h5 := travel_ref s hf nm
  have h6 := ratio_ref s hf
  generalize forP s nm = X at *
  generalize travP s nm = Y at *
  generalize ratP s = Z at *
  obtain ⟨⟨a1, a2⟩, a3⟩ := X
  obtain ⟨⟨b1, b2⟩, b3⟩ := Y
  obtain ⟨⟨c1, c2⟩, c3⟩ := Z
  have v1 : (a1 == a1) = true := by simp
  have v2 : (a2 == a2) = true := by simp
  have v3 : (a3 == a3) = true := by simp
  have v4 : (b1 == b1) = true := by simp
  have v5 : (b2 == b2) = true := by simp
  have v6 : (b3 == b3) = true := by simp
  have v7 : (c1 == c1) = true := by simp
  have v8 : (c2 == c2) = true := by simp
  have v9 : (c3 == c3) = true := by simp
  ((refine ggb8_ARL (F := _∧_∧_∧_∧_∧_∧_∧_∧_∧_) ⟨hn, v1, v2, v3, v4, v5, v6, v7, v8, v9⟩ awake13 hL h1 h2 h3 h4 h5 h6 ?_))
  ((repeat refine AW_seq ?_); (refine wta ?_); simp (disch := omega) only [retQ, resD, oneD, rsv, rs, rsL, rsL_eq_map, List.map_map, bb, bt, zDs, zD, eqCells, simprocAttr, Tryz.results6])
set_option maxRecDepth 100000 in
set_option maxHeartbeats 4000000 in
theorem law_best13 (l : List Sy) (nm : ByteArray) : PRet Tryz.prog 7 [sys l, str nm] (bool true) := by
  refine PRet.intro 1 fun t => ACall.enter tab_ok Tryz.func7 rfl rfl Tryz.ntmps7 (by simp) ?_
  simp only [enterTM]
  have hld := sys_div l
  have go : l.length ≤ 22 → ¬ (60 : Int) < nm.size → (l.any fun x => !smallS x) = false → ∃ n e, PRet Tryz.prog 40 [sys l, str nm] (.tup [int n, int e]) ∧ PRet Tryz.prog 41 [sys l, str nm] (.tup [int n, int e]) := fun h _ ha => by
    have hfl : ∀ x ∈ l, Fits x := fun x hx => small_fits (by have := List.any_eq_false.1 ha x hx; simpa using this)
    exact ⟨_, _, best13 l nm (by omega) hfl, best_ref l nm (by omega) hfl⟩
  by_cases h22 : 22 < l.length
  · have g1 : (6 : Int) < l.length := by omega
    have g2 : ¬ (l.length : Int) ≤ 20 := by omega
    have g3 : (22 : Int) < l.length := by omega
    ((refine ggb1 (F := _∧_∧_∧_) ⟨hld, g1, g2, g3⟩ awake13 ?_))
    ((repeat refine AW_seq ?_); (refine wta ?_); simp (disch := omega) only [retQ, resD, oneD, rsv, rs, rsL, rsL_eq_map, List.map_map, bb, bt, zDs, zD, eqCells, simprocAttr, Tryz.results7])
  have g3 : ¬ (22 : Int) < l.length := by omega
  have hC := containsFuncSy l 30 [] (fun x => !smallS x) (by omega) (fun x _ => large13 x)
  by_cases h6 : 6 < l.length
  · have g1 : (6 : Int) < l.length := by omega
    by_cases h20 : l.length ≤ 20
    · have g2 : (l.length : Int) ≤ 20 := by omega
      ((refine ggb1 (F := _∧_∧_∧_) ⟨hld, g1, g2, g3⟩ awake13 ?_))
      ((repeat refine AW_seq ?_); (refine wta ?_); simp (disch := omega) only [retQ, resD, oneD, rsv, rs, rsL, rsL_eq_map, List.map_map, bb, bt, zDs, zD, eqCells, simprocAttr, Tryz.results7])
    have g2 : ¬ (l.length : Int) ≤ 20 := by omega
    by_cases hn : (60 : Int) < nm.size
    · ((refine ggb1 (F := _∧_∧_∧_∧_) ⟨hld, g1, g2, g3, hn⟩ awake13 ?_))
      ((repeat refine AW_seq ?_); (refine wta ?_); simp (disch := omega) only [retQ, resD, oneD, rsv, rs, rsL, rsL_eq_map, List.map_map, bb, bt, zDs, zD, eqCells, simprocAttr, Tryz.results7])
    cases ha : l.any (fun x => !smallS x)
    rotate_left 1
    · rw [ha] at hC
      ((refine ggb2 (F := _∧_∧_∧_∧_) ⟨hld, g1, g2, g3, hn⟩ awake13 hC ?_))
      ((repeat refine AW_seq ?_); (refine wta ?_); simp (disch := omega) only [retQ, resD, oneD, rsv, rs, rsL, rsL_eq_map, List.map_map, bb, bt, zDs, zD, eqCells, simprocAttr, Tryz.results7])
    rw [ha] at hC
    obtain ⟨n, e, hA, hB⟩ := go (by omega) hn ha
    have v1 : (n == n) = true := by simp
    have v2 : (e == e) = true := by simp
    ((refine ggb4 (F := _∧_∧_∧_∧_∧_∧_) ⟨hld, g1, g2, g3, hn, v1, v2⟩ awake13 hC hA hB ?_))
    ((repeat refine AW_seq ?_); (refine wta ?_); simp (disch := omega) only [retQ, resD, oneD, rsv, rs, rsL, rsL_eq_map, List.map_map, bb, bt, zDs, zD, eqCells, simprocAttr, Tryz.results7])
  · have g1 : ¬ (6 : Int) < l.length := by omega
    by_cases hn : (60 : Int) < nm.size
    · ((refine ggb1 (F := _∧_∧_∧_) ⟨hld, g1, g3, hn⟩ awake13 ?_))
      ((repeat refine AW_seq ?_); (refine wta ?_); simp (disch := omega) only [retQ, resD, oneD, rsv, rs, rsL, rsL_eq_map, List.map_map, bb, bt, zDs, zD, eqCells, simprocAttr, Tryz.results7])
    cases ha : l.any (fun x => !smallS x)
    rotate_left 1
    · rw [ha] at hC
      ((refine ggb2 (F := _∧_∧_∧_) ⟨hld, g1, g3, hn⟩ awake13 hC ?_))
      ((repeat refine AW_seq ?_); (refine wta ?_); simp (disch := omega) only [retQ, resD, oneD, rsv, rs, rsL, rsL_eq_map, List.map_map, bb, bt, zDs, zD, eqCells, simprocAttr, Tryz.results7])
    rw [ha] at hC
    obtain ⟨n, e, hA, hB⟩ := go (by omega) hn ha
    have v1 : (n == n) = true := by simp
    have v2 : (e == e) = true := by simp
    ((refine ggb4 (F := _∧_∧_∧_∧_∧_) ⟨hld, g1, g3, hn, v1, v2⟩ awake13 hC hA hB ?_))
    ((repeat refine AW_seq ?_); (refine wta ?_); simp (disch := omega) only [retQ, resD, oneD, rsv, rs, rsL, rsL_eq_map, List.map_map, bb, bt, zDs, zD, eqCells, simprocAttr, Tryz.results7])
end Go.Proofs.YtjjpjgnoanfaoaaGreat.T

/- What the arguments of chapter 4's laws stand for. -/
section
namespace Go.Proofs.YtjjpjgnoanfaoaaGreat.T
open Go Go.RowKit Go.ChangeShapes

theorem slice_one {P : Program} {w : World} {r : Reach} {base : Nat} {t e : TypeId} {v : Value} (ht : P.underlying t = some (.slice e)) (h : Value.okWide P w r base t v) : v.cells = #[v] := by
  simp only [Value.okWide, ht, Cell.okWide] at h
  cases v <;> simp_all [Value.cells, Cell.ok]
theorem ints_of : ∀ {rows : List (List D)}, (∀ r ∈ rows, (∃ n, r = [int n] ∧ (Lit.int .i64 n).wf = true) ∧ r.length = 1) → ∃ l : List Int, rows.flatten = l.map int ∧ ∀ x ∈ l, (Lit.int .i64 x).wf = true
  | [], _ => ⟨[], rfl, by simp⟩
  | r :: rows, h => by
    obtain ⟨⟨n, rfl, hw⟩, _⟩ := h r (by simp)
    obtain ⟨l, e, hl⟩ := ints_of fun x hx => h x (List.mem_cons_of_mem _ hx)
    exact ⟨n :: l, by simp [e], fun x hx => by
      rcases List.mem_cons.1 hx with rfl | hx
      · exact hw
      · exact hl x hx⟩
theorem rows_of : ∀ {rows : List (List D)}, (∀ r ∈ rows, (∃ l : List Int, r = [ints l] ∧ ∀ x ∈ l, (Lit.int .i64 x).wf = true) ∧ r.length = 1) → ∃ m : List (List Int), rows.flatten = m.map ints ∧ ∀ l ∈ m, ∀ x ∈ l, (Lit.int .i64 x).wf = true
  | [], _ => ⟨[], rfl, by simp⟩
  | r :: rows, h => by
    obtain ⟨⟨n, rfl, hw⟩, _⟩ := h r (by simp)
    obtain ⟨l, e, hl⟩ := rows_of fun x hx => h x (List.mem_cons_of_mem _ hx)
    exact ⟨n :: l, by simp [e], fun x hx => by
      rcases List.mem_cons.1 hx with rfl | hx
      · exact hw
      · exact hl x hx⟩

theorem u8_of {x : Int} (h : (Lit.int .u8 x).wf = true) : 0 ≤ x ∧ x < 256 := by
  rw [Lit.wf, Bool.and_eq_true] at h
  have h1 := of_decide_eq_true h.1
  have h2 := of_decide_eq_true h.2
  have e1 : IntKind.u8.min = 0 := rfl
  have e2 : IntKind.u8.max = 255 := rfl
  rw [e1] at h1
  rw [e2] at h2
  exact ⟨h1, by omega⟩
theorem cellsInt : Tryz.prog.cellsOf 3 = 1 := by kernel_rfl
theorem cellsInts : Tryz.prog.cellsOf 50 = 1 := by kernel_rfl
section
variable {H : Type} {enc : TypeId × Value → H} {W : World}
theorem opn_ints : Opn enc Tryz.prog W 50 fun ds => ∃ l : List Int, ds = [ints l] ∧ ∀ x ∈ l, (Lit.int .i64 x).wf = true :=
  (Opn.slice Tryz.underlying50 cellsInt (by decide) (Opn.int Tryz.underlying3)).mono fun ds ⟨rows, e, h, _⟩ => by
    obtain ⟨l, e2, hl⟩ := ints_of h
    exact ⟨l, by rw [e, e2], hl⟩
theorem opn_mat : Opn enc Tryz.prog W 99 fun ds => ∃ m : List (List Int), ds = [mat m] ∧ ∀ l ∈ m, ∀ x ∈ l, (Lit.int .i64 x).wf = true :=
  (Opn.slice Tryz.underlying99 cellsInts (by decide) opn_ints).mono fun ds ⟨rows, e, h, _⟩ => by
    obtain ⟨l, e2, hl⟩ := rows_of h
    exact ⟨l, by rw [e, e2], hl⟩
end
end Go.Proofs.YtjjpjgnoanfaoaaGreat.T
end

/- Arguments that are lists of fractions. -/
section
namespace Go.Proofs.YtjjpjgnoanfaoaaGreat.T
open Go Go.RowKit Go.ChangeShapes

theorem fracs_of : ∀ {rows : List (List D)}, (∀ r ∈ rows, (∃ a b, r = [int a, int b]) ∧ r.length = 2) → ∃ l : List (Int × Int), rows.flatten = frC l
  | [], _ => ⟨[], rfl⟩
  | r :: rows, h => by
    obtain ⟨⟨a, b, rfl⟩, _⟩ := h r (by simp)
    obtain ⟨l, e⟩ := fracs_of fun x hx => h x (List.mem_cons_of_mem _ hx)
    exact ⟨(a, b) :: l, by simp [e, frC]⟩
theorem cellsFrac : Tryz.prog.cellsOf 43 = 2 := by kernel_rfl
section
variable {H : Type} {enc : TypeId × Value → H} {W : World}
theorem opn_frac : Opn enc Tryz.prog W 43 fun ds => ∃ a b, ds = [int a, int b] :=
  (Opn.struct Tryz.underlying43 ⟨_, _, rfl, rfl, Opn.int Tryz.underlying3, _, _, rfl, by simp only [cellsInt], Opn.int Tryz.underlying3, rfl⟩ (by kernel_rfl)).mono fun ds h => by
    obtain ⟨d1, r1, rfl, ⟨a, rfl, _⟩, d2, r2, rfl, ⟨b, rfl, _⟩, rfl⟩ := h
    exact ⟨a, b, rfl⟩
theorem opn_fracs : Opn enc Tryz.prog W 40 fun ds => ∃ l : List (Int × Int), ds = [frs l] ∧ True :=
  (Opn.slice Tryz.underlying40 cellsFrac (by decide) opn_frac).mono fun ds ⟨rows, e, h, _⟩ => by
    obtain ⟨l, e2⟩ := fracs_of h
    exact ⟨l, by rw [e, e2], trivial⟩
end
end Go.Proofs.YtjjpjgnoanfaoaaGreat.T
end

/- Arguments that are systems. -/
section
namespace Go.Proofs.YtjjpjgnoanfaoaaGreat.T
open Go Go.RowKit Go.ChangeShapes

theorem flats_of {α : Type} {f : α → List D} {n : Nat} : ∀ {rows : List (List D)}, (∀ r ∈ rows, (∃ x, r = f x) ∧ r.length = n) → ∃ l : List α, rows.flatten = l.flatMap f
  | [], _ => ⟨[], rfl⟩
  | r :: rows, h => by
    obtain ⟨⟨x, rfl⟩, _⟩ := h r (by simp)
    obtain ⟨l, e⟩ := flats_of fun x hx => h x (List.mem_cons_of_mem _ hx)
    exact ⟨x :: l, by simp [e]⟩
theorem cellsHold : Tryz.prog.cellsOf 76 = 4 := by kernel_rfl
theorem cellsRope : Tryz.prog.cellsOf 72 = 3 := by kernel_rfl
theorem cellsBlock : Tryz.prog.cellsOf 78 = 2 := by kernel_rfl
theorem agg_of {P : Program} {w : World} {r : Reach} {base : Nat} {t : TypeId} {fs : Array Field} {v : Value} (ht : P.underlying t = some (.struct fs)) (h : Value.okWide P w r base t v) : ∃ cs, v = .agg cs := by
  simp only [Value.okWide, ht] at h
  obtain ⟨cs, e, _⟩ := h
  exact ⟨cs, e⟩
section
variable {H : Type} {enc : TypeId × Value → H} {W : World}
theorem opn_hold : Opn enc Tryz.prog W 76 fun ds => ∃ h : Hd, ds = hd1 h :=
  (Opn.struct Tryz.underlying76 ⟨_, _, rfl, (by kernel_rfl), Opn.str Tryz.underlying9, _, _, rfl, (by kernel_rfl), Opn.int Tryz.underlying3, _, _, rfl, (by kernel_rfl), opn_frac, rfl⟩ (by kernel_rfl)).mono fun ds h => by
    obtain ⟨d1, r1, rfl, ⟨s, rfl, _⟩, d2, r2, rfl, ⟨p, rfl, _⟩, d3, r3, rfl, ⟨a, b, rfl⟩, rfl⟩ := h
    exact ⟨⟨s, p, a, b⟩, rfl⟩
theorem opn_holds : Opn enc Tryz.prog W 70 fun ds => ∃ l : List Hd, ds = [hds l] :=
  (Opn.slice Tryz.underlying70 cellsHold (by decide) opn_hold).mono fun ds ⟨rows, e, h, _⟩ => by
    obtain ⟨l, e2⟩ := flats_of h
    exact ⟨l, by rw [e, e2]; rfl⟩
theorem opn_rope : Opn enc Tryz.prog W 72 fun ds => ∃ r : Rp, ds = rp1 r :=
  (Opn.struct Tryz.underlying72 ⟨_, _, rfl, (by kernel_rfl), Opn.str Tryz.underlying9, _, _, rfl, (by kernel_rfl), opn_holds, _, _, rfl, (by kernel_rfl), Opn.bool Tryz.underlying4, rfl⟩ (by kernel_rfl)).mono fun ds h => by
    obtain ⟨d1, r1, rfl, ⟨s, rfl, _⟩, d2, r2, rfl, ⟨l, rfl⟩, d3, r3, rfl, ⟨b, rfl⟩, rfl⟩ := h
    exact ⟨⟨s, l, b⟩, rfl⟩
theorem opn_ropes : Opn enc Tryz.prog W 23 fun ds => ∃ l : List Rp, ds = [rps l] :=
  (Opn.slice Tryz.underlying23 cellsRope (by decide) opn_rope).mono fun ds ⟨rows, e, h, _⟩ => by
    obtain ⟨l, e2⟩ := flats_of h
    exact ⟨l, by rw [e, e2]; rfl⟩
theorem opn_block : Opn enc Tryz.prog W 78 fun ds => ∃ b : Bk, ds = bk1 b :=
  (Opn.struct Tryz.underlying78 ⟨_, _, rfl, (by kernel_rfl), Opn.str Tryz.underlying9, _, _, rfl, (by kernel_rfl), Opn.int Tryz.underlying3, rfl⟩ (by kernel_rfl)).mono fun ds h => by
    obtain ⟨d1, r1, rfl, ⟨s, rfl, _⟩, d2, r2, rfl, ⟨p, rfl, _⟩, rfl⟩ := h
    exact ⟨⟨s, p⟩, rfl⟩
theorem opn_blocks : Opn enc Tryz.prog W 22 fun ds => ∃ l : List Bk, ds = [bks l] :=
  (Opn.slice Tryz.underlying22 cellsBlock (by decide) opn_block).mono fun ds ⟨rows, e, h, _⟩ => by
    obtain ⟨l, e2⟩ := flats_of h
    exact ⟨l, by rw [e, e2]; rfl⟩
theorem opn_sys : Opn enc Tryz.prog W 25 fun ds => ∃ s : Sy, ds = [bks s.bs, rps s.rs] :=
  (Opn.struct Tryz.underlying25 ⟨_, _, rfl, (by kernel_rfl), opn_blocks, _, _, rfl, (by kernel_rfl), opn_ropes, rfl⟩ (by kernel_rfl)).mono fun ds h => by
    obtain ⟨d1, r1, rfl, ⟨a, rfl⟩, d2, r2, rfl, ⟨b, rfl⟩, rfl⟩ := h
    exact ⟨⟨a, b⟩, rfl⟩
theorem arg_sys {v : Value} {base : Nat} {r : Reach} {d : DataW H} {p : List MemPlace} (h : DataW.Trod enc Tryz.prog W 0 (fun _ => true) true 25 v d p) (hv : Value.okWide Tryz.prog W r base 25 v) : ∃ s : Sy, Rep (memOf W) [] (syD s) v := by
  obtain ⟨cs, rfl⟩ : ∃ cs, v = .agg cs := by
    simp only [Value.okWide, Tryz.underlying25] at hv
    obtain ⟨cs, e, _⟩ := hv
    exact ⟨cs, e⟩
  obtain ⟨ds, hr, s, rfl⟩ := arg_agg opn_sys h
  exact ⟨s, hr⟩
theorem cellsSys : Tryz.prog.cellsOf 25 = 2 := by kernel_rfl
theorem opn_syss : Opn enc Tryz.prog W 62 fun ds => ∃ l : List Sy, ds = [sys l] ∧ True :=
  (Opn.slice Tryz.underlying62 cellsSys (by decide) opn_sys).mono fun ds ⟨rows, e, h, _⟩ => by
    obtain ⟨l, e2⟩ := flats_of (f := sy1) h
    exact ⟨l, by rw [e, e2], trivial⟩
theorem arg_rope {v : Value} {base : Nat} {r : Reach} {d : DataW H} {p : List MemPlace} (h : DataW.Trod enc Tryz.prog W 0 (fun _ => true) true 72 v d p) (hv : Value.okWide Tryz.prog W r base 72 v) : ∃ s : Rp, Rep (memOf W) [] (.agg (rp1 s)) v := by
  obtain ⟨cs, rfl⟩ : ∃ cs, v = .agg cs := by
    simp only [Value.okWide, Tryz.underlying72] at hv
    obtain ⟨cs, e, _⟩ := hv
    exact ⟨cs, e⟩
  obtain ⟨ds, hr, s, rfl⟩ := arg_agg opn_rope h
  exact ⟨s, hr⟩
theorem arg_frac {v : Value} {base : Nat} {r : Reach} {d : DataW H} {p : List MemPlace} (h : DataW.Trod enc Tryz.prog W 0 (fun _ => true) true 43 v d p) (hv : Value.okWide Tryz.prog W r base 43 v) : ∃ s : Int × Int, Rep (memOf W) [] (frD s) v := by
  obtain ⟨cs, rfl⟩ : ∃ cs, v = .agg cs := by
    simp only [Value.okWide, Tryz.underlying43] at hv
    obtain ⟨cs, e, _⟩ := hv
    exact ⟨cs, e⟩
  obtain ⟨ds, hr, a, b, rfl⟩ := arg_agg opn_frac h
  exact ⟨(a, b), hr⟩
abbrev u16s (l : List Int) : D := .sl 1 (l.map fun n => .v (.int .u16 n)) false
theorem u16_of {x : Int} (h : (Lit.int .u16 x).wf = true) : 0 ≤ x ∧ x < 65536 := by
  rw [Lit.wf, Bool.and_eq_true] at h
  have h1 := of_decide_eq_true h.1
  have h2 := of_decide_eq_true h.2
  have e1 : IntKind.u16.min = 0 := rfl
  have e2 : IntKind.u16.max = 65535 := rfl
  rw [e1] at h1
  rw [e2] at h2
  exact ⟨h1, by omega⟩
theorem u16_rows : ∀ {rows : List (List D)}, (∀ r ∈ rows, (∃ n, r = [.v (.int .u16 n)] ∧ (Lit.int .u16 n).wf = true) ∧ r.length = 1) → ∃ l : List Int, rows.flatten = l.map (fun n => .v (.int .u16 n)) ∧ ∀ x ∈ l, (Lit.int .u16 x).wf = true
  | [], _ => ⟨[], rfl, by simp⟩
  | r :: rows, h => by
    obtain ⟨⟨n, rfl, hw⟩, _⟩ := h r (by simp)
    obtain ⟨l, e, hl⟩ := u16_rows fun x hx => h x (List.mem_cons_of_mem _ hx)
    exact ⟨n :: l, by simp [e], fun x hx => by
      rcases List.mem_cons.1 hx with rfl | hx
      · exact hw
      · exact hl x hx⟩
theorem u64_of {x : Int} (h : (Lit.int .u64 x).wf = true) : 0 ≤ x ∧ x ≤ 18446744073709551615 := by
  rw [Lit.wf, Bool.and_eq_true] at h
  have h1 := of_decide_eq_true h.1
  have h2 := of_decide_eq_true h.2
  have e1 : IntKind.u64.min = 0 := rfl
  have e2 : IntKind.u64.max = 18446744073709551615 := rfl
  rw [e1] at h1
  rw [e2] at h2
  exact ⟨h1, h2⟩
end
end Go.Proofs.YtjjpjgnoanfaoaaGreat.T
end

/- The signs of the head's word (printed by mkmake.py): the kernel need not take a long string apart. -/
namespace Go.Proofs.YtjjpjgnoanfaoaaGreat.T
open Go Go.RowKit Go.Joins
def wordSigns0 : List Char := [104,97,114,110,101,115,115,32,102,52,55,98,51,102,54,100,49,50,97,57,49,99,99,100,98,50,54,50,55,97,97,51,100,57,97,98,50,55,101,98,101,51,53,52,50,98,57,49,50,98,49,55,53,56,52,55,48,48,53,54,99,101,101,48].map Char.ofNat
def wordSigns1 : List Char := [57,57,51,56,52,100,56,51,32,99,117,116,32,97,116,32,108,111,102,116,98,108,111,99,107,47,108,111,102,116,98,108,111,99,107,108,97,119,49,54,46,77,111,98,105,108,105,116,121,77,111,100,101,115,32,108,111,102,116,98,108,111,99,107].map Char.ofNat
def wordSigns2 : List Char := [47,108,111,102,116,98,108,111,99,107,108,97,119,49,54,46,77,111,98,105,108,105,116,121,82,101,100,117,110,100,97,110,116,32,108,111,102,116,98,108,111,99,107,47,108,111,102,116,98,108,111,99,107,108,97,119,49,51,46,65,100,118,97,110].map Char.ofNat
def wordSigns3 : List Char := [116,97,103,101,87,111,114,107,115,32,108,111,102,116,98,108,111,99,107,47,108,111,102,116,98,108,111,99,107,108,97,119,49,51,46,65,100,118,97,110,116,97,103,101,66,111,116,104,32,108,111,102,116,98,108,111,99,107,47,108,111,102,116,98].map Char.ofNat
def wordSigns4 : List Char := [108,111,99,107,108,97,119,49,51,46,65,100,118,97,110,116,97,103,101,66,101,115,116,32,108,111,102,116,98,108,111,99,107,47,108,111,102,116,98,108,111,99,107,108,97,119,49,52,46,76,111,115,115,101,115,67,97,114,114,121,32,108,111,102].map Char.ofNat
def wordSigns5 : List Char := [116,98,108,111,99,107,47,108,111,102,116,98,108,111,99,107,108,97,119,49,52,46,76,111,115,115,101,115,70,111,114,99,101,115,32,108,111,102,116,98,108,111,99,107,47,108,111,102,116,98,108,111,99,107,108,97,119,49,52,46,76,111,115,115].map Char.ofNat
def wordSigns6 : List Char := [101,115,79,114,100,101,114,32,108,111,102,116,98,108,111,99,107,47,108,111,102,116,98,108,111,99,107,108,97,119,49,52,46,76,111,115,115,101,115,72,111,108,100,115,32,108,111,102,116,98,108,111,99,107,47,108,111,102,116,98,108,111,99,107].map Char.ofNat
def wordSigns7 : List Char := [108,97,119,49,52,46,76,111,115,115,101,115,69,120,97,99,116,32,108,111,102,116,98,108,111,99,107,47,108,111,102,116,98,108,111,99,107,108,97,119,49,52,46,76,111,115,115,101,115,78,111,110,101].map Char.ofNat
def wordSigns : List Char := wordSigns0 ++ wordSigns1 ++ wordSigns2 ++ wordSigns3 ++ wordSigns4 ++ wordSigns5 ++ wordSigns6 ++ wordSigns7
theorem word_is : Tryz.prog.initOrder.toList = wordSigns := by
  have h : Tryz.prog.initOrder = String.ofList wordSigns := by kernel_rfl
  rw [h, String.toList_ofList]
theorem word_cut : behindMainWord (wordsSigns wordSigns) = "cut".toList :: (behindMainWord (wordsSigns wordSigns)).tail := by kernel_rfl
theorem make_of (P : Program) (l : List Char) (h : P.initOrder.toList = l) (r : List (List Char)) (hr : behindMainWord (wordsSigns l) = "cut".toList :: r) : P.make = some .cut := by
  unfold Program.make
  rw [h, hr]
  rfl
theorem enter_of (P : Program) (l : List Char) (h : P.initOrder.toList = l) (r : List (List Char)) (hr : behindMainWord (wordsSigns l) = "cut".toList :: r) (h1 : P.laysLater = false) (h2 : P.bearsReflect = false) (h3 : P.doorFits [] = true) (hs : stripLifts liftWords ("cut".toList :: r) = ([], "cut".toList :: r)) : P.mayEnter = true := by
  unfold Program.mayEnter
  rw [h, hr]
  simp only [hs, h1, h2, h3]
  rfl
theorem word_make : Tryz.prog.make = some .cut := make_of _ wordSigns word_is _ word_cut
theorem word_enter : Tryz.prog.mayEnter = true := enter_of _ wordSigns word_is _ word_cut (by kernel_rfl) (by kernel_rfl) (by kernel_rfl) (by kernel_rfl)
theorem word_lifts : Tryz.prog.liftsFinal = false := by
  unfold Program.liftsFinal Program.headLifts
  rw [word_is]
  kernel_rfl
theorem word_enterP : Tryz.pinned.checked.prog.mayEnter = true := word_enter
theorem word_liftsP : Tryz.pinned.checked.prog.liftsFinal = false := word_lifts
theorem word_makeP : Tryz.pinned.checked.prog.make = some .cut := word_make
end Go.Proofs.YtjjpjgnoanfaoaaGreat.T

