import Derived.Test.YtifmgjieplmbnaaGreatMGI
import Derived.Test.YtifmgjieplmbnaaGreatLSJ
import Derived.Test.YtifmgjieplmbnaaGreatWPC
set_option linter.all false
namespace Go.Proofs.YtifmgjieplmbnaaGreat.T
open Go Go.RowKit Lin
theorem ggb9_MT {F C1 C2 C3 C4 C5 C6 C7 C8 C9 P Q : Prop} (f : F) (c1 : C1) (c2 : C2) (c3 : C3) (c4 : C4) (c5 : C5) (c6 : C6) (c7 : C7) (c8 : C8) (c9 : C9) (q : Q) (h : F → C1 → C2 → C3 → C4 → C5 → C6 → C7 → C8 → C9 → Q → P := by
  intro ff cc1 cc2 cc3 cc4 cc5 cc6 cc7 cc8 cc9 hq
  (try with_reducible intro KR hKR)
  (repeat' (first | (with_reducible refine AW_seq ?_) | (with_reducible refine AW_region_k tab_ok fun KR hKR => ?_) | ((first | with_reducible refine AW_skip ?_ | with_reducible refine AW_exit ?_ | ((with_reducible refine awOps_nil ?_); refine hKR _ ?_; (try clear hKR KR))); (repeat (with_reducible first | refine q1 ?_ | refine q2 ?_ | refine q3 ?_ | refine q4 ?_ | refine q5 ?_ | refine q6 ?_ | (refine q7 ?_ ?_; (focus (with_unfolding_all rfl)))))) | ((first | ((with_reducible refine at_ops ?_); (first | refine awOps_n rfl fun KK hKK => ?_ | refine awOps_g rfl rfl fun KK hKK => ?_ | refine awOps_gc rfl fun KK hKK => ?_ | refine awOps_nc fun KK hKK => ?_)) | with_reducible refine AW_cond_k (tab := tab) fun KK hKK => ?_); simp (disch := omega) only [bb, bt, zDs, zD, eqCells, simprocAttr, ff, bne_self_eq_false, Int.reduceBNe, Int.reduceBEq, Bool.bne_false, Bool.bne_true, Bool.false_bne, Bool.true_bne, goC, callO_fn, argsD, and_self]; (try ((first | (with_reducible refine ACall.of_pret (cc1) ?_ ?_; (focus (first | (simp only [um]; done) | rfl))) | (with_reducible refine ACall.of_pret (cc2) ?_ ?_; (focus (first | (simp only [um]; done) | rfl))) | (with_reducible refine ACall.of_pret (cc3) ?_ ?_; (focus (first | (simp only [um]; done) | rfl))) | (with_reducible refine ACall.of_pret (cc4) ?_ ?_; (focus (first | (simp only [um]; done) | rfl))) | (with_reducible refine ACall.of_pret (cc5) ?_ ?_; (focus (first | (simp only [um]; done) | rfl))) | (with_reducible refine ACall.of_pret (cc6) ?_ ?_; (focus (first | (simp only [um]; done) | rfl))) | (with_reducible refine ACall.of_pret (cc7) ?_ ?_; (focus (first | (simp only [um]; done) | rfl))) | (with_reducible refine ACall.of_pret (cc8) ?_ ?_; (focus (first | (simp only [um]; done) | rfl))) | (with_reducible refine ACall.of_pret (cc9) ?_ ?_; (focus (first | (simp only [um]; done) | rfl)))); simp only [afterC, St.put, putTM, ↓reduceIte, Nat.reduceEqDiff])); refine hKK _ ?_; clear hKK KK; (first | with_reducible refine at_ops ?_ | with_reducible refine i1 ?_ | with_reducible refine i0 ?_))))
  (first | exact hq | (revert hKR; revert KR; exact hq))) : P := h f c1 c2 c3 c4 c5 c6 c7 c8 c9 q
set_option linter.unusedSimpArgs false

/-! Chapter 12: the reference's travel, check, and lengths. -/
theorem refOver (a b : Int × Int) (ha : vfrac a.1 a.2 = true) (hb : vfrac b.1 b.2 = true) : PRet Tryz.prog 69 [frD a, frD b] (fe (divR a b)) := by
  obtain ⟨a1, a2, a3, a4, a5⟩ := fr_bounds ha
  obtain ⟨b1, b2, b3, b4, b5⟩ := fr_bounds hb
  obtain ⟨n, d⟩ := a
  obtain ⟨u, v⟩ := b
  simp only at *
  have s1 := refSize n (by omega)
  have s2 := refSize u (by omega)
  have s3 := refSize d (by omega)
  have s4 := refSize v (by omega)
  have m1 := refMul n.natAbs v.natAbs (by omega)
  have m2 := refMul d.natAbs u.natAbs (by omega)
  have c1 : n.natAbs * v.natAbs ≤ 1152921504606846976 * 1152921504606846976 := Nat.mul_le_mul (by omega) (by omega)
  have c2 : d.natAbs * u.natAbs ≤ 1152921504606846976 * 1152921504606846976 := Nat.mul_le_mul (by omega) (by omega)
  have hm := made (n.natAbs * v.natAbs) (decide (n < 0) != decide (u < 0)) (d.natAbs * u.natAbs) (by omega) (by omega)
  have e : divR (n, d) (u, v) = madeP (n.natAbs * v.natAbs) (decide (n < 0) != decide (u < 0)) (d.natAbs * u.natAbs) := rfl
  rw [e]
  generalize madeP (n.natAbs * v.natAbs) (decide (n < 0) != decide (u < 0)) (d.natAbs * u.natAbs) = r at *
  refine PRet.intro 2 fun t => ACall.enter tab_ok Tryz.func69 rfl rfl Tryz.ntmps69 (by simp) ?_
  simp only [enterTM]
  ((refine gga0 ?_))
  ((repeat refine AW_seq ?_); (refine gdza7 s1 s2 s3 s4 m1 m2 hm ?_))
  ((repeat refine AW_seq ?_); (refine wta ?_); simp (disch := omega) only [retQ, resD, oneD, rsv, rs, rsL, rsL_eq_map, List.map_map, bb, bt, zDs, zD, eqCells, simprocAttr, Tryz.results69])
set_option maxHeartbeats 2000000 in
theorem travel_ref (s : Sy) (hf : Fits s) (nm : ByteArray) : PRet Tryz.prog 25 [syD s, str nm] (fe (travP s nm)) := by
  refine PRet.intro 1 fun t => ACall.enter tab_ok Tryz.func25 rfl rfl Tryz.ntmps25 (by simp) ?_
  simp only [enterTM]
  have hV := valid_ref s hf
  have hnb := hf.nb
  have hnr := hf.nr
  have hdr := rpC_div s.rs
  have hI := refFindBlock s nm hnb
  have hH := refHaul s hnr
  cases hv : validS s
  · rw [hv] at hV
    have e : travP s nm = ((0, 0), 1) := by simp [travP, hv]
    ((refine gga1 hV ?_))
    ((repeat refine AW_seq ?_); (refine wta ?_); simp (disch := omega) only [retQ, resD, oneD, rsv, rs, rsL, rsL_eq_map, List.map_map, bb, bt, zDs, zD, eqCells, simprocAttr, Tryz.results25, e])
  rw [hv] at hV
  by_cases hb : findB s.bs nm < 0
  · have e : travP s nm = ((0, 0), 9) := by simp [travP, hv, hb]
    ((refine ggb2 hb hV hI ?_))
    ((repeat refine AW_seq ?_); (refine wta ?_); simp (disch := omega) only [retQ, resD, oneD, rsv, rs, rsL, rsL_eq_map, List.map_map, bb, bt, zDs, zD, eqCells, simprocAttr, Tryz.results25, e])
  obtain ⟨j, b, hj, hbj, _⟩ := findB_hit (show 0 ≤ findB s.bs nm by omega)
  by_cases hh : hix s < 0
  · have e : travP s nm = ((0, 0), 11) := by simp [travP, hv, hb, hh]
    ((refine ggb3 (F := _∧_) ⟨hb, hh⟩ hV hI hH ?_))
    ((repeat refine AW_seq ?_); (refine wta ?_); simp (disch := omega) only [retQ, resD, oneD, rsv, rs, rsL, rsL_eq_map, List.map_map, bb, bt, zDs, zD, eqCells, simprocAttr, Tryz.results25, e])
  obtain ⟨i, r, hi, hri, _⟩ := hix_hit hh
  have hir := (List.getElem?_eq_some_iff.1 hri).1
  have e : travP s nm = if (speedsP s (unitH s)).2 = 0 then divP (1, 1) ((speedsP s (unitH s)).1.getD j (0, 0)) else ((0, 0), (speedsP s (unitH s)).2) := by
    have : ¬ (j : Int) < 0 := by omega
    simp [travP, hv, hh, hj, this]
  have hu : ((List.replicate s.rs.length (0 : Int)).map int).set i (int 1) = (unitH s).map int := by
    unfold unitH
    rw [hi, Int.toNat_natCast, List.map_set]
  have hul : (unitH s).length = s.rs.length := by simp [unitH]
  have hS := speeds_ref s hf (unitH s) (by omega)
  have hfull := speedsP_full (s := s) (h := unitH s)
  have hval := speedsP_val (s := s) (h := unitH s)
  have hj0 : ¬ (j : Int) < 0 := by omega
  have hi0 : ¬ (i : Int) < 0 := by omega
  rw [hj] at hI
  rw [hi] at hH
  have hbl := (List.getElem?_eq_some_iff.1 hbj).1
  generalize speedsP s (unitH s) = X at *
  have hrl2 : (List.replicate s.rs.length (0 : Int)).length = s.rs.length := by simp
  have hz0 := zerosI s.rs.length
  ((refine ggb2 (F := _∧_) ⟨hj0, hdr⟩ hV hI ?_))
  ((refine wka1 hH ?_))
  ((refine wra ?_)); ((refine wea ?_); (try clear hKR KR))
  ((refine wqb hi0 ?_))
  ((refine wib hi0 ?_))
  ((refine wsa ?_))
  ((refine wqb (F := _∧_) ⟨hdr, hz0⟩ ?_))
  ((refine wqb (F := _∧_∧_∧_) ⟨hz0, hu, hir, hrl2⟩ ?_))
  have hfin : List.take s.rs.length ((unitH s).map int) = (unitH s).map int := List.take_of_length_le (by simp [hul])
  ((refine AW.freeze (2) (by first | rfl | (simp only [setH, List.getElem?_cons_zero, List.getElem?_cons_succ, fz_bk, fz_rp, hfin, hul, List.length_map, Nat.le_refl]; done)) ?_); simp (disch := omega) only [fzT, fz, fzL, fzL_ints, fzL_mat, fzH, fzB, eq_self, bb, bt, zDs, zD, eqCells, simprocAttr, fz_bk, fz_rp, hfin, hul, List.length_map, Nat.le_refl])
  cases hx : (X.2 == 0)
  · have hx' : (X.2 != 0) = true := by simpa using hx
    rw [if_neg (by simpa using hx)] at e
    ((refine ggb1 hx' hS ?_))
    ((repeat refine AW_seq ?_); (refine wta ?_); simp (disch := omega) only [retQ, resD, oneD, rsv, rs, rsL, rsL_eq_map, List.map_map, bb, bt, zDs, zD, eqCells, simprocAttr, Tryz.results25, e])
  have hx' : (X.2 != 0) = false := by simpa using hx
  have hx0 : X.2 = 0 := by simpa using hx
  rw [if_pos hx0] at e
  obtain ⟨_, hXl⟩ := hfull hx0
  obtain ⟨_, _, _, _, _, hXv⟩ := hval hx0
  obtain ⟨f, hfj⟩ : ∃ y, X.1[j]? = some y := ⟨_, List.getElem?_eq_getElem (by omega)⟩
  rw [List.getD_eq_getElem?_getD, hfj, Option.getD_some] at e
  have hfv := (hXv j f hfj).v
  have ed : divP (1, 1) f = divR (1, 1) f := by unfold divP; rw [if_pos ⟨by decide, hfv⟩]
  rw [ed] at e
  have hra := frC_read X.1 j f hfj
  have hfd := frC_div X.1
  have hjl : j < X.1.length := by omega
  have hO := refOf 1
  have hD := refOver (1, 1) f (by decide) hfv
  rw [← e] at hD
  generalize travP s nm = Y at *
  ((refine ggb1 hx' hS ?_))
  ((repeat refine AW_seq ?_); (refine gdzb2 (F := _∧_∧_) ⟨hfd, hjl, hra⟩ hO hD ?_))
  ((repeat refine AW_seq ?_); (refine wta ?_); simp (disch := omega) only [retQ, resD, oneD, rsv, rs, rsL, rsL_eq_map, List.map_map, bb, bt, zDs, zD, eqCells, simprocAttr, Tryz.results25])
set_option maxHeartbeats 4000000 in
theorem check12_ref (s : Sy) (hf : Fits s) (h : List Int) (v : List (Int × Int)) (hvl : v.length ≤ 1000000) : PRet Tryz.prog 30 [syD s, ints h, frs v] (.tup [bool (chkM s h v).1, int (chkM s h v).2]) := by
  refine PRet.intro 1 fun t => ACall.enter tab_ok Tryz.func30 rfl rfl Tryz.ntmps30 (by simp) ?_
  simp only [enterTM]
  have hV := valid_ref s hf
  have hdb := bkC_div s.bs
  have hvd := frC_div v
  have hA := refAll v hvl
  have hG := givH_refL s hf h
  cases hv : validS s
  · rw [hv] at hV
    have e : chkM s h v = (false, 1) := by simp [chkM, hv]
    ((refine gga1 hV ?_))
    ((repeat refine AW_seq ?_); (refine wta ?_); simp (disch := omega) only [retQ, resD, oneD, rsv, rs, rsL, rsL_eq_map, List.map_map, bb, bt, zDs, zD, eqCells, simprocAttr, Tryz.results30, e])
  rw [hv] at hV
  have ok := validS_ok hv
  cases ha : allV v
  · rw [ha] at hA
    have e : chkM s h v = (false, 1) := by simp [chkM, ha]
    ((refine gga2 hV hA ?_))
    ((repeat refine AW_seq ?_); (refine wta ?_); simp (disch := omega) only [retQ, resD, oneD, rsv, rs, rsL, rsL_eq_map, List.map_map, bb, bt, zDs, zD, eqCells, simprocAttr, Tryz.results30, e])
  rw [ha] at hA
  by_cases hzb : v.length = s.bs.length
  rotate_left 1
  · have en2 : ((v.length : Int) != (s.bs.length : Int)) = true := by simpa using fun e => hzb (by omega)
    have e : chkM s h v = (false, 3) := by simp [chkM, hv, ha, hzb]
    ((refine ggb2 (F := _∧_∧_) ⟨hvd, hdb, en2⟩ hV hA ?_))
    ((repeat refine AW_seq ?_); (refine wta ?_); simp (disch := omega) only [retQ, resD, oneD, rsv, rs, rsL, rsL_eq_map, List.map_map, bb, bt, zDs, zD, eqCells, simprocAttr, Tryz.results30, e])
  have en2 : ((v.length : Int) != (s.bs.length : Int)) = false := by simp [hzb]
  by_cases hg : givH s h = 0
  rotate_left 1
  · have hg' : (givH s h != 0) = true := by simpa using hg
    have e : chkM s h v = (false, givH s h) := by
      unfold chkM givH
      rw [if_pos ⟨hv, ha⟩, if_pos hv]
      unfold givH at hg
      rw [if_pos hv] at hg
      by_cases h1 : h.length = s.rs.length
      · rw [if_pos ⟨h1, hzb⟩, if_pos h1]
        rw [if_pos h1] at hg
        by_cases h2 : rangedP s.rs h = true
        · rw [if_pos h2] at hg
          exact absurd rfl hg
        · rw [if_neg h2, if_neg h2]
      · rw [if_neg (fun x => h1 x.1), if_neg h1]
    ((refine ggb3 (F := _∧_∧_∧_) ⟨hvd, hdb, en2, hg'⟩ hV hA hG ?_))
    ((repeat refine AW_seq ?_); (refine wta ?_); simp (disch := omega) only [retQ, resD, oneD, rsv, rs, rsL, rsL_eq_map, List.map_map, bb, bt, zDs, zD, eqCells, simprocAttr, Tryz.results30, e])
  have e := chkM_is hg ha hzb
  obtain ⟨_, hz, hr⟩ := givH_zero hg
  rw [hg] at hG
  obtain ⟨tv, tw⟩ := ok.tr_valid
  have tl := ok.tr_len
  have hT := turned_ref s hv
  have hP := refProduct (trS s) v tv ha hvl
  have ep : prodP (trS s) v = prodA v [] (trS s) := by unfold prodP; rw [if_pos ⟨tv, ha⟩, if_pos (by rw [tw]; exact hzb)]
  rw [ep] at hP
  have hyl : (prodA v [] (trS s)).2 = 0 → (prodA v [] (trS s)).1.length = h.length := fun h0 => by
    rw [prodA_full _ _ _ h0]
    simp
    omega
  have hr6 := ok.r6
  generalize prodA v [] (trS s) = Y at *
  rw [e]
  clear e
  cases hy : (Y.2 == 0)
  · have hy' : (Y.2 != 0) = true := by simpa using hy
    rw [if_neg (by simpa using hy)]
    ((refine ggb5 (F := _∧_∧_∧_) ⟨hvd, hdb, en2, hy'⟩ hV hA hG hT hP ?_))
    ((repeat refine AW_seq ?_); (refine wta ?_); simp (disch := omega) only [retQ, resD, oneD, rsv, rs, rsL, rsL_eq_map, List.map_map, bb, bt, zDs, zD, eqCells, simprocAttr, Tryz.results30])
  have hy' : (Y.2 != 0) = false := by simpa using hy
  rw [if_pos (by simpa using hy)]
  have hyl := hyl (by simpa using hy)
  have hyd := frC_div Y.1
  have hzl : (Y.1.zip h).length = h.length := by simp [List.length_zip]; omega
  ((refine ggb5 (F := _∧_∧_∧_) ⟨hvd, hdb, en2, hy'⟩ hV hA hG hT hP ?_))
  ((repeat refine AW_seq ?_))
  refine AW_block ?_
  refine AW_loop_w (fun x : Nat × Nat => ⟨[(1, ints h), (9, frs Y.1), (11, int x.1)], [], x.2⟩) (fun x => Y.1.length - x.1) (fun x => x.1 ≤ Y.1.length ∧ ((Y.1.zip h).take x.1).all goP = true) (0, t + 1) ⟨Nat.zero_le _, rfl⟩ (by (simp (disch := omega) only [StLe, tmLe, hpLe_refl, hpLe, bl, bb, bt, zDs, zD, eqCells, simprocAttr])) ?_
  rintro ⟨k, tt⟩ ⟨hk, hi⟩
  simp only at hk hi
  by_cases hlt : k < Y.1.length
  · obtain ⟨f, hfk⟩ : ∃ y, Y.1[k]? = some y := ⟨_, List.getElem?_eq_getElem hlt⟩
    obtain ⟨n, hn⟩ : ∃ y, h[k]? = some y := ⟨_, List.getElem?_eq_getElem (by omega)⟩
    have hkh : k < h.length := by omega
    have hra := frC_read Y.1 k f hfk
    have hzk := zip_atF hfk hn
    have hst := all_take (p := goP) hzk
    rw [hi, Bool.true_and] at hst
    have hO := refOf n
    cases g1 : (f.1 == n)
    · have ho : (Y.1.zip h).all goP = false := all_miss hzk (by simp [goP, g1])
      ((refine ggb0 (F := _∧_∧_) ⟨@Int.ofNat_lt, hlt, hyd⟩ ?_))
      ((repeat refine AW_seq ?_))
      refine AW_block ?_
      ((repeat refine AW_seq ?_); (refine gdzb1 (F := _∧_∧_∧_∧_∧_) ⟨hyd, hlt, hra, hkh, hn, g1⟩ hO ?_))
      ((refine gga0 ?_))
      ((repeat refine AW_seq ?_); (refine wta ?_); simp (disch := omega) only [retQ, resD, oneD, rsv, rs, rsL, rsL_eq_map, List.map_map, bb, bt, zDs, zD, eqCells, simprocAttr, Tryz.results30, ho])
    cases g2 : (f.2 == 1)
    · have ho : (Y.1.zip h).all goP = false := all_miss hzk (by simp [goP, g2])
      ((refine ggb0 (F := _∧_∧_) ⟨@Int.ofNat_lt, hlt, hyd⟩ ?_))
      ((repeat refine AW_seq ?_))
      refine AW_block ?_
      ((repeat refine AW_seq ?_); (refine gdzb1 (F := _∧_∧_∧_∧_∧_∧_) ⟨hyd, hlt, hra, hkh, hn, g1, g2⟩ hO ?_))
      ((refine gga0 ?_))
      ((repeat refine AW_seq ?_); (refine wta ?_); simp (disch := omega) only [retQ, resD, oneD, rsv, rs, rsL, rsL_eq_map, List.map_map, bb, bt, zDs, zD, eqCells, simprocAttr, Tryz.results30, ho])
    ((refine ggb0 (F := _∧_∧_) ⟨@Int.ofNat_lt, hlt, hyd⟩ ?_))
    ((repeat refine AW_seq ?_))
    refine AW_block ?_
    ((repeat refine AW_seq ?_); (refine gdzb1 (F := _∧_∧_∧_∧_∧_∧_) ⟨hyd, hlt, hra, hkh, hn, g1, g2⟩ hO ?_))
    ((refine gga0 ?_))
    refine ⟨(k + 1, tt + 1), ⟨hlt, by rw [hst]; simp [goP, g1, g2]⟩, by show Y.1.length - (k + 1) < Y.1.length - k; omega, ?_⟩
    (simp (disch := omega) only [StLe, tmLe, hpLe_refl, hpLe, bl, bb, bt, zDs, zD, eqCells, simprocAttr])
  · have hke : k = Y.1.length := by omega
    subst hke
    have ho : (Y.1.zip h).all goP = true := by
      rw [List.take_of_length_le (by omega)] at hi
      exact hi
    ((refine ggb0 (F := _∧_) ⟨@Int.lt_irrefl, hyd⟩ ?_))
    ((repeat refine AW_seq ?_); (refine wta ?_); simp (disch := omega) only [retQ, resD, oneD, rsv, rs, rsL, rsL_eq_map, List.map_map, bb, bt, zDs, zD, eqCells, simprocAttr, Tryz.results30, ho])
set_option maxHeartbeats 4000000 in
theorem lengths_ref (s : Sy) (hf : Fits s) (mv : List Int) : PRet Tryz.prog 32 [syD s, ints mv] (ise (lenP s mv)) := by
  refine PRet.intro 1 fun t => ACall.enter tab_ok Tryz.func32 rfl rfl Tryz.ntmps32 (by simp) ?_
  simp only [enterTM]
  have hV := valid_ref s hf
  have hdb := bkC_div s.bs
  cases hv : validS s
  · rw [hv] at hV
    have e : lenP s mv = ([], 1) := by simp [lenP, hv]
    ((refine gga1 hV ?_))
    ((repeat refine AW_seq ?_); (refine wta ?_); simp (disch := omega) only [retQ, resD, oneD, rsv, rs, rsL, rsL_eq_map, List.map_map, bb, bt, zDs, zD, eqCells, simprocAttr, Tryz.results32, e])
    rfl
  rw [hv] at hV
  have ok := validS_ok hv
  by_cases hz : mv.length = s.bs.length
  rotate_left 1
  · have en : ((mv.length : Int) != (s.bs.length : Int)) = true := by simpa using fun e => hz (by omega)
    have e : lenP s mv = ([], 3) := by simp [lenP, hv, hz]
    ((refine ggb1 (F := _∧_) ⟨hdb, en⟩ hV ?_))
    ((repeat refine AW_seq ?_); (refine wta ?_); simp (disch := omega) only [retQ, resD, oneD, rsv, rs, rsL, rsL_eq_map, List.map_map, bb, bt, zDs, zD, eqCells, simprocAttr, Tryz.results32, e])
    rfl
  have en : ((mv.length : Int) != (s.bs.length : Int)) = false := by simp [hz]
  have eL : lenP s mv = if mv.any farP = true then ([], 2) else ((trS s).map (lenF mv), 0) := by simp [lenP, hv, hz]
  have b6 := ok.b6
  have hT := turned_ref s hv
  obtain ⟨tv, tw⟩ := ok.tr_valid
  obtain ⟨m1, m2, m3⟩ := validP_iff.1 tv
  ((refine ggb1 (F := _∧_) ⟨hdb, en⟩ hV ?_))
  ((repeat refine AW_seq ?_))
  refine AW_mid (fun x : Nat => ⟨[(1, ints mv), (2, .ptr 0 (t + 1) 0)], [some ⟨25, t + 1, [bks s.bs, rps s.rs]⟩], x⟩) (fun _ => mv.any farP = false) ?_ ?_
  · refine AW_block ?_
    refine AW_loop_w (fun x : Nat × Nat => ⟨[(1, ints mv), (2, .ptr 0 (t + 1) 0), (6, int x.1)], [some ⟨25, t + 1, [bks s.bs, rps s.rs]⟩], x.2⟩) (fun x => mv.length - x.1) (fun x => x.1 ≤ mv.length ∧ (mv.take x.1).any farP = false) (0, t + 1) ⟨Nat.zero_le _, rfl⟩ (by (simp (disch := omega) only [StLe, tmLe, hpLe_refl, hpLe, bl, bb, bt, zDs, zD, eqCells, simprocAttr])) ?_
    rintro ⟨k, tt⟩ ⟨hk, hi⟩
    simp only at hk hi
    by_cases hlt : k < mv.length
    · obtain ⟨n, hn⟩ : ∃ y, mv[k]? = some y := ⟨_, List.getElem?_eq_getElem hlt⟩
      have hst := any_take (p := farP) hn
      rw [hi, Bool.false_or] at hst
      ((refine ggb0 (F := _∧_) ⟨@Int.ofNat_lt, hlt⟩ ?_))
      ((repeat refine AW_seq ?_))
      refine AW_block ?_
      by_cases c1 : n < -1048576
      · rw [any_hit hn (by simp [farP, c1])] at eL
        ((refine ggb0 (F := _∧_∧_) ⟨hlt, hn, c1⟩ ?_))
        ((repeat refine AW_seq ?_); (refine wta ?_); simp (disch := omega) only [retQ, resD, oneD, rsv, rs, rsL, rsL_eq_map, List.map_map, bb, bt, zDs, zD, eqCells, simprocAttr, Tryz.results32, eL, if_true])
        rfl
      by_cases c2 : 1048576 < n
      · rw [any_hit hn (by simp [farP, c2])] at eL
        ((refine ggb0 (F := _∧_∧_∧_) ⟨hlt, hn, c1, c2⟩ ?_))
        ((repeat refine AW_seq ?_); (refine wta ?_); simp (disch := omega) only [retQ, resD, oneD, rsv, rs, rsL, rsL_eq_map, List.map_map, bb, bt, zDs, zD, eqCells, simprocAttr, Tryz.results32, eL, if_true])
        rfl
      ((refine ggb0 (F := _∧_∧_∧_) ⟨hlt, hn, c1, c2⟩ ?_))
      refine ⟨(k + 1, tt), ⟨hlt, by rw [hst]; simp [farP]; omega⟩, by show mv.length - (k + 1) < mv.length - k; omega, ?_⟩
      (simp (disch := omega) only [StLe, tmLe, hpLe_refl, hpLe, bl, bb, bt, zDs, zD, eqCells, simprocAttr])
    · have hke : k = mv.length := by omega
      subst hke
      rw [List.take_length] at hi
      ((refine wqb @Int.lt_irrefl ?_))
      ((refine wia ?_))
      ((refine wxa ?_))
      exact ⟨tt, hi, by (simp (disch := omega) only [StLe, tmLe, hpLe_refl, hpLe, bl, bb, bt, zDs, zD, eqCells, simprocAttr])⟩
  rintro t0 ha
  rw [ha] at eL
  simp only [Bool.false_eq_true, if_false] at eL
  rw [eL]
  have hmb : ∀ x ∈ mv, -1048576 ≤ x ∧ x ≤ 1048576 := fun x hx => by
    have := List.any_eq_false.1 ha x hx
    unfold farP at this
    simp at this
    omega
  have hrw := ok.tr_rows
  clear eL hf
  generalize trS s = m at *
  ((refine gga0 ?_))
  ((refine wka1 hT ?_))
  ((refine wra ?_)); ((refine wea ?_); (try clear hKR KR))
  ((refine wqa ?_))
  ((refine wqa ?_))
  refine AW.begin 8 1 3 rfl (by decide) ?_
  simp only [putTM, List.length_cons, List.length_nil, Nat.reduceEqDiff, ↓reduceIte, List.cons_append, List.nil_append]
  refine AW_mid (fun x : Nat × Nat => ⟨[(8, .own 1 1 x.1 0 m.length)], [none, some ⟨3, x.1, (m.map (lenF mv)).map int⟩], x.2⟩) (fun _ => True) ?_ ?_
  · refine AW_block ?_
    refine AW_loop_w (fun x : Nat × Nat × Nat => ⟨[(1, ints mv), (7, mat m), (8, .own 1 1 x.2.1 0 x.1), (9, int x.1)], [none, some ⟨3, x.2.1, ((m.take x.1).map (lenF mv)).map int⟩], x.2.2⟩) (fun x => m.length - x.1) (fun x => x.1 ≤ m.length) (0, t0 + 1, t0 + 1) (Nat.zero_le _) (by (simp (disch := omega) only [StLe, tmLe, hpLe_refl, hpLe, bl, bb, bt, zDs, zD, eqCells, simprocAttr, List.take_zero, List.map_nil])) ?_
    rintro ⟨k, g, tt⟩ hk
    simp only at hk
    by_cases hlt : k < m.length
    · obtain ⟨r, hr⟩ : ∃ y, m[k]? = some y := ⟨_, List.getElem?_eq_getElem hlt⟩
      obtain ⟨r1, r2⟩ := m3 r (List.mem_of_getElem? hr)
      have hst : (m.take (k + 1)).map (lenF mv) = (m.take k).map (lenF mv) ++ [lenF mv r] := by rw [List.take_add_one, hr]; simp
      have hcl : ((m.take k).map (lenF mv)).length = k := by simp; omega
      have hrl : r.length = mv.length := by omega
      ((refine ggb0 (F := _∧_) ⟨@Int.ofNat_lt, hlt⟩ ?_))
      ((repeat refine AW_seq ?_))
      refine AW_block ?_
      ((refine gga0 ?_))
      ((repeat refine AW_seq ?_))
      refine AW_block ?_
      refine AW_loop_w (fun x : Nat × Nat => ⟨[(1, ints mv), (7, mat m), (8, .own 1 1 g 0 k), (9, int k), (10, int (dotN r mv x.1)), (11, int x.1)], [none, some ⟨3, g, ((m.take k).map (lenF mv)).map int⟩], x.2⟩) (fun x => mv.length - x.1) (fun x => x.1 ≤ mv.length) (0, tt) (Nat.zero_le _) (by (simp (disch := omega) only [StLe, tmLe, hpLe_refl, hpLe, bl, bb, bt, zDs, zD, eqCells, simprocAttr, dotN, sumN])) ?_
      rintro ⟨j, t2⟩ hj
      simp only at hj
      by_cases hlj : j < mv.length
      · have hjr : j < r.length := by omega
        obtain ⟨n, hn⟩ : ∃ y, r[j]? = some y := ⟨_, List.getElem?_eq_getElem hjr⟩
        obtain ⟨x, hx⟩ : ∃ y, mv[j]? = some y := ⟨_, List.getElem?_eq_getElem hlj⟩
        have hdj := dotN_le r2 hmb j
        have hnx := Lin.abs_mul_le (A := 32) (B := 1048576) (r2 n (List.mem_of_getElem? hn)) (hmb x (List.mem_of_getElem? hx))
        have hds := dotN_step hn hx
        ((refine ggb0 (F := _∧_) ⟨@Int.ofNat_lt, hlj⟩ ?_))
        ((repeat refine AW_seq ?_))
        refine AW_block ?_
        ((repeat refine AW_seq ?_); (refine gdzb (F := _∧_∧_∧_∧_∧_) ⟨hlt, hr, hjr, hn, hlj, hx⟩ ?_))
        ((refine gga0 ?_))
        refine ⟨(j + 1, t2 + 1), hlj, by show mv.length - (j + 1) < mv.length - j; omega, ?_⟩
        simp only [hds]
        (simp (disch := omega) only [StLe, tmLe, hpLe_refl, hpLe, bl, bb, bt, zDs, zD, eqCells, simprocAttr])
      · have hje : j = mv.length := by omega
        subst hje
        ((refine ggb0 (F := _∧_) ⟨@Int.lt_irrefl, hcl⟩ ?_))
        refine ⟨(k + 1, t2 + 1, t2 + 1), hlt, by show m.length - (k + 1) < m.length - k; omega, ?_⟩
        simp only [hst, List.map_append, List.map_cons, List.map_nil, lenF, hrl]
        (simp (disch := omega) only [StLe, tmLe, hpLe_refl, hpLe, bl, bb, bt, zDs, zD, eqCells, simprocAttr])
    · have hke : k = m.length := by omega
      subst hke
      rw [List.take_length]
      ((refine wqb @Int.lt_irrefl ?_))
      ((refine wia ?_))
      ((refine wxa ?_))
      exact ⟨(g, tt), trivial, by (simp (disch := omega) only [StLe, tmLe, hpLe_refl, hpLe, bl, bb, bt, zDs, zD, eqCells, simprocAttr])⟩
  rintro ⟨g, tt⟩ -
  have hfin : List.take m.length ((m.map (lenF mv)).map int) = (m.map (lenF mv)).map int := List.take_of_length_le (by simp)
  ((refine AW.freeze (1) (by first | rfl | (simp only [setH, List.getElem?_cons_zero, List.getElem?_cons_succ, hfin, List.length_map, Nat.le_refl]; done)) ?_); simp (disch := omega) only [fzT, fz, fzL, fzL_ints, fzL_mat, fzH, fzB, eq_self, bb, bt, zDs, zD, eqCells, simprocAttr, hfin, List.length_map, Nat.le_refl])
  ((refine gga0 ?_))
  ((repeat refine AW_seq ?_); (refine wta ?_); simp (disch := omega) only [retQ, resD, oneD, bb, bt, zDs, zD, eqCells, simprocAttr, Tryz.results32])
  exact rsv_tidy _ _ (by simp only [tidyD, tidyL, tidy_ints, Bool.not_false, Bool.and_self])
/-! The laws. -/
set_option maxHeartbeats 2000000 in
theorem law_checks12 (s : Sy) (h mv : List Int) (v : List (Int × Int)) : PRet Tryz.prog 6 [syD s, ints h, ints mv, frs v] (bool true) := by
  refine PRet.intro 1 fun t => ACall.enter tab_ok Tryz.func6 rfl rfl Tryz.ntmps6 (by simp) ?_
  simp only [enterTM]
  have hvd := frC_div v
  have hL : PRet Tryz.prog 23 [syD s, .sl 1 [int h.length, int mv.length, int v.length] false] (bool (longL s [(h.length : Int), (mv.length : Int), (v.length : Int)])) := long12 s [(h.length : Int), (mv.length : Int), (v.length : Int)] (by simp)
  cases hlo : longL s [(h.length : Int), (mv.length : Int), (v.length : Int)]
  rotate_left 1
  · rw [hlo] at hL
    ((refine ggb2 hvd awake12 hL ?_))
    ((repeat refine AW_seq ?_); (refine wta ?_); simp (disch := omega) only [retQ, resD, oneD, rsv, rs, rsL, rsL_eq_map, List.map_map, bb, bt, zDs, zD, eqCells, simprocAttr, Tryz.results6])
  rw [hlo] at hL
  obtain ⟨hs, hn⟩ := longL_false hlo
  have hl20 : (h.length : Int) ≤ 20 := hn _ (by simp)
  have hm20 : (mv.length : Int) ≤ 20 := hn _ (by simp)
  have hv20 : (v.length : Int) ≤ 20 := hn _ (by simp)
  have hf := small_fits hs
  have hP := check12 s hf h (by omega) v (by omega)
  have hR := check12_ref s hf h v (by omega)
  have hPl := lengths_prog s hf mv (by omega)
  have hRl := lengths_ref s hf mv
  have hle : (lenP s mv).1.length ≤ 1000 := by
    unfold lenP
    split
    · rename_i hv
      split
      · split
        · simp
        · have ok := validS_ok hv
          have := ok.tr_len
          have := ok.r6
          simp only [List.length_map]
          omega
      · simp
    · simp
  generalize chkM s h v = X at *
  generalize lenP s mv = Y at *
  have hQ := equalInts Y.1 Y.1 (by omega) (by omega)
  rw [beq_self_eq_true] at hQ
  have e1 : (X.1 == X.1) = true := by simp
  have e2 : (X.2 == X.2) = true := by simp
  have e3 : (Y.2 == Y.2) = true := by simp
  ((refine ggb7 (F := _∧_∧_∧_) ⟨e1, e2, e3, hvd⟩ awake12 hL hP hR hPl hRl hQ ?_))
  ((repeat refine AW_seq ?_); (refine wta ?_); simp (disch := omega) only [retQ, resD, oneD, rsv, rs, rsL, rsL_eq_map, List.map_map, bb, bt, zDs, zD, eqCells, simprocAttr, Tryz.results6])
set_option maxHeartbeats 2000000 in
theorem law_travels (s : Sy) (nm : ByteArray) : PRet Tryz.prog 5 [syD s, str nm] (bool true) := by
  refine PRet.intro 1 fun t => ACall.enter tab_ok Tryz.func5 rfl rfl Tryz.ntmps5 (by simp) ?_
  simp only [enterTM]
  have hL : PRet Tryz.prog 23 [syD s, .sl 1 [] false] (bool (longL s [])) := long12 s [] (by simp)
  cases hlo : longL s []
  rotate_left 1
  · rw [hlo] at hL
    ((refine gga2 awake12 hL ?_))
    ((repeat refine AW_seq ?_); (refine wta ?_); simp (disch := omega) only [retQ, resD, oneD, rsv, rs, rsL, rsL_eq_map, List.map_map, bb, bt, zDs, zD, eqCells, simprocAttr, Tryz.results5])
  rw [hlo] at hL
  by_cases h60 : (60 : Int) < nm.size
  · ((refine ggb2 h60 awake12 hL ?_))
    ((repeat refine AW_seq ?_); (refine wta ?_); simp (disch := omega) only [retQ, resD, oneD, rsv, rs, rsL, rsL_eq_map, List.map_map, bb, bt, zDs, zD, eqCells, simprocAttr, Tryz.results5])
  obtain ⟨hs, _⟩ := longL_false hlo
  have hf := small_fits hs
  have hP := travel_prog s hf nm
  have hR := travel_ref s hf nm
  have hF := free_prog s hf
  have hV := valid_ref s hf
  generalize travP s nm = X at *
  have e1 : (X.2 == X.2) = true := by simp
  have e1' : (X.2 != X.2) = false := by simp
  have e2 : (X.1.1 == X.1.1) = true := by simp
  have e3 : (X.1.2 == X.1.2) = true := by simp
  have e2' : (X.1.1 != X.1.1) = false := by simp
  have e3' : (X.1.2 != X.1.2) = false := by simp
  cases hv : validS s
  · rw [hv] at hV
    have ef : freeP s = ([], 1) := by simp [freeP, hv]
    rw [ef] at hF
    ((refine ggb6 (F := _∧_∧_∧_∧_∧_∧_) ⟨h60, e1, e1', e2, e3, e2', e3'⟩ awake12 hL hP hR hF hV ?_))
    ((repeat refine AW_seq ?_); (refine wta ?_); simp (disch := omega) only [retQ, resD, oneD, rsv, rs, rsL, rsL_eq_map, List.map_map, bb, bt, zDs, zD, eqCells, simprocAttr, Tryz.results5])
  rw [hv] at hV
  have ok := validS_ok hv
  obtain ⟨tv, tw⟩ := ok.tr_valid
  have hT := turned_ref s hv
  have hN := refNull (trS s) tv
  have ef : freeP s = (nulls (elimBy mvR (trS s) (wid (trS s))) (wid (trS s)) (wid (trS s)), 0) := by
    unfold freeP
    rw [if_pos hv]
    unfold nullP
    have hsm := valid_small tv
    have iv1 := elim_inv (ups_mover (trS s) (wid (trS s))) hsm.lens (wid (trS s)) (Nat.le_refl _)
    have iv2 := elim_inv (mvR_mover (trS s) (wid (trS s))) hsm.lens (wid (trS s)) (Nat.le_refl _)
    have ip := pivots_agree (ups_mover (trS s) (wid (trS s))) (mvR_mover (trS s) (wid (trS s))) hsm.lens (wid (trS s)) (Nat.le_refl _)
    rw [if_pos tv, elim_by, nulls_same iv1 iv2 ip (wid (trS s)) (Nat.le_refl _)]
  rw [ef] at hF
  have n1 := nulls_len (elimBy mvR (trS s) (wid (trS s))) (wid (trS s)) (wid (trS s))
  have n2 : ∀ x ∈ nulls (elimBy mvR (trS s) (wid (trS s))) (wid (trS s)) (wid (trS s)), x.length ≤ 1000000 := fun x hx => by
    obtain ⟨c, _, _, rfl⟩ := nulls_mem _ _ _ x hx
    have := ok.b6
    rw [nvec_len]
    omega
  have b6 := ok.b6
  generalize nulls (elimBy mvR (trS s) (wid (trS s))) (wid (trS s)) (wid (trS s)) = NN at *
  have hEq := equalFuncFr NN NN (by omega) (by omega) n2 n2
  rw [beq_self_eq_true] at hEq
  ((refine ggb9_MT (F := _∧_∧_∧_∧_∧_∧_) ⟨h60, e1, e1', e2, e3, e2', e3'⟩ awake12 hL hP hR hF hV hT hN hEq ?_))
  ((repeat refine AW_seq ?_); (refine wta ?_); simp (disch := omega) only [retQ, resD, oneD, rsv, rs, rsL, rsL_eq_map, List.map_map, bb, bt, zDs, zD, eqCells, simprocAttr, Tryz.results5])
end Go.Proofs.YtifmgjieplmbnaaGreat.T
