import Derived.Test.YtpcakodemleoiaaGreatFALPMQX
import Derived.Test.YtpcakodemleoiaaGreatFTB
import Derived.Test.YtpcakodemleoiaaGreatFWPJ
import Derived.Test.YtpcakodemleoiaaGreatFSNQMGI
import Derived.Test.YtpcakodemleoiaaGreatFLSJ
set_option linter.all false
namespace Go.Proofs.YtpcakodemleoiaaGreat.T
open Go Go.RowKit Lin
theorem unitC_set {n k : Nat} (hk : k < n) : (List.replicate n ((0 : Int), (1 : Int))).set k (1, 1) = unitC k n := by
  refine List.ext_getElem? fun i => ?_
  unfold unitC
  rw [List.getElem?_set, List.getElem?_map]
  by_cases hi : i < n
  · by_cases hki : k = i
    · subst hki
      simp [hi]
    · have : ¬ i = k := fun h => hki h.symm
      simp [hi, hki, this]
  · have h1 : n ≤ i := by omega
    have h2 : ¬ k = i := by omega
    simp [h1, h2]
theorem mot_uniq {s : Sy} (hv : validS s = true) {h : Nat} (hh : hix s = (h : Int)) : (∃ q, s.rs[h]? = some q ∧ q.hl = true) ∧ ∀ (k : Nat) (r : Rp), s.rs[k]? = some r → r.hl = true → k = h := by
  obtain ⟨i, q, hi, hq, hqh⟩ := hix_hit (s := s) (by omega)
  have e : i = h := by omega
  subst e
  have hone : hauls s.rs ≤ 1 := by
    unfold validS at hv
    rw [Bool.and_eq_true, decide_eq_true_eq] at hv
    exact hv.2
  exact ⟨⟨q, hq, hqh⟩, fun k r hr hrl => filt_one (p := fun r : Rp => r.hl) s.rs k i r q hone hr hq hrl hqh⟩
set_option maxRecDepth 100000 in
set_option maxHeartbeats 16000000 in
theorem motions14 (s : Sy) (hf : Fits s) (hv : validS s = true) {h : Nat} (hh : hix s = (h : Int)) : PRet Tryz.prog 82 [syD s, int h] (.tup [frss (modesP s).1, int (modesP s).2]) := by
  refine PRet.intro 1 fun t => ACall.enter tab_ok Tryz.func82 rfl rfl Tryz.ntmps82 (by simp) ?_
  simp only [enterTM]
  have ok := validS_ok hv
  have hb1 := ok.b1
  have hb6 := ok.b6
  have hr6 := ok.r6
  have hr1 := ok.r1
  have hdb := bkC_div s.bs
  have hdr := rpC_div s.rs
  have hw0 := whole14 0
  have hw1 := whole14 1
  obtain ⟨⟨q, hq, hqh⟩, huniq⟩ := mot_uniq hv hh
  have hhr := (List.getElem?_eq_some_iff.1 hq).1
  by_cases h1 : s.rs.length = 1
  · have hfx : fixA s = [] := by
      cases hL : fixA s with
      | nil => rfl
      | cons a l =>
        have ha : a ∈ fixA s := by rw [hL]; simp
        have hal : a < s.rs.length := fixP_lt ha
        obtain ⟨r, hr⟩ : ∃ y, s.rs[a]? = some y := ⟨_, List.getElem?_eq_getElem hal⟩
        have hrl := (fixA_mem hr).1 ha
        have e : a = h := by omega
        subst e
        rw [hq, Option.some.injEq] at hr
        subst hr
        rw [hqh] at hrl
        cases hrl
    have e : modesP s = (unitL s.bs.length s.bs.length, 0) := by
      unfold modesP
      rw [if_pos hv, if_pos hfx]
      rfl
    have c1 : ((s.rs.length : Int) == 1) = true := by rw [h1]; rfl
    rw [e]
    have hz0 : ∀ n, unitL n 0 = [] := fun n => rfl
    ((refine ggb0 (F := _∧_∧_) ⟨hdb, hdr, c1⟩ ?_))
    generalize hn : s.bs.length = n at *
    have hRep := repeatFr 0 1 n (by omega) (by omega)
    rw [pairC_frC] at hRep
    refine AW.begin 7 1 28 rfl (by decide) ?_
    simp only [putTM, List.length_cons, List.length_nil, Nat.reduceEqDiff, ↓reduceIte, List.cons_append, List.nil_append]
    refine AW_mid (fun x : Nat × Nat => ⟨[(7, .own 1 1 x.1 0 n)], [none, some ⟨28, x.1, (unitL n n).map frs⟩], x.2⟩) (fun _ => True) ?_ ?_
    · refine AW_block ?_
      refine AW_loop_w (fun x : Nat × Nat × Nat => ⟨[(6, int n), (7, .own 1 1 x.2.1 0 x.1), (23, int n), (24, int x.1)], [none, some ⟨28, x.2.1, (unitL n x.1).map frs⟩], x.2.2⟩) (fun x => n - x.1) (fun x => x.1 ≤ n) (0, t + 1 + 1, t + 1 + 1) (Nat.zero_le _) (by (simp (disch := omega) only [StLe, tmLe, hpLe_refl, hpLe, bl, bb, bt, zDs, zD, eqCells, simprocAttr, hz0, List.map_nil])) ?_
      rintro ⟨k, g, tt⟩ hk
      simp only at hk
      have htl : (unitL n k).length = k := unitL_len n k
      by_cases hlt : k < n
      · have hset0 := frC_set (List.replicate n ((0 : Int), (1 : Int))) k 1 1 (by rw [List.length_replicate]; exact hlt)
        rw [unitC_set hlt] at hset0
        simp only [List.append_assoc, List.cons_append, List.nil_append] at hset0
        have hl0 := frC_len (List.replicate n ((0 : Int), (1 : Int)))
        rw [List.length_replicate] at hl0
        have hle0 : k * 2 + 2 ≤ n * 2 := by omega
        have hul := unitL_succ n k
        have hcl := unitC_len k n
        have hfl2 : (frC (unitC k n)).length = n * 2 := by rw [frC_len, hcl]
        have hfin : List.take (n * 2) (frC (unitC k n)) = frC (unitC k n) := List.take_of_length_le (by omega)
        ((refine ggb0 (F := _∧_) ⟨@Int.ofNat_lt, hlt⟩ ?_))
        ((repeat refine AW_seq ?_))
        refine AW_block ?_
        ((refine gga1 hw0 ?_))
        intro KR hKR
        ((first | refine awOps_nc fun KK hKK => ?_ | refine awOps_gc rfl fun KK hKK => ?_); simp (disch := omega) only [bb, bt, zDs, zD, eqCells, simprocAttr, goC, callO_fn, argsD, and_self]; refine ACall.of_fresh (hRep) (by first | (simp only [List.map_cons, List.map_nil, List.append_nil, List.nil_append, List.cons_append, ufa, uf]; done) | rfl) ?_; simp (disch := omega) only [bb, bt, zDs, zD, eqCells, simprocAttr, afterC]; refine hKK _ ?_; clear hKK KK)
        ((refine wra ?_)); ((refine wea ?_); (try clear hKR KR))
        ((repeat refine AW_seq ?_); (refine AW_region_k tab_ok fun KR hKR => ?_)); ((refine wra ?_)); ((refine wka1 hw1 ?_)); ((refine wrb (F := _∧_∧_∧_) ⟨hl0, hlt, hle0, hset0⟩ ?_)); ((refine wea ?_); (try clear hKR KR))
        generalize unitC k n = U at *
        ((refine AW.freeze (2) (by first | rfl | (simp only [setH, List.getElem?_cons_zero, List.getElem?_cons_succ, fzS_frss, fz_bk, fz_rp, hfl2, hfin, Nat.le_refl]; done)) ?_); simp (disch := omega) only [fzT, fz, fzL, fzL_ints, fzL_mat, fzH, fzB, eq_self, bb, bt, zDs, zD, eqCells, simprocAttr, fzS_frss, fz_bk, fz_rp, hfl2, hfin, Nat.le_refl])
        ((refine ggb0 htl ?_))
        refine ⟨(k + 1, tt + 1 + 1, tt + 1 + 1), hlt, by show n - (k + 1) < n - k; omega, ?_⟩
        simp only [hul, List.map_append, List.map_cons, List.map_nil]
        (simp (disch := omega) only [StLe, tmLe, hpLe_refl, hpLe, bl, bb, bt, zDs, zD, eqCells, simprocAttr])
      · have hke : k = n := by omega
        subst hke
        ((refine wqb @Int.lt_irrefl ?_))
        ((refine wia ?_))
        ((refine wxa ?_))
        exact ⟨(g, tt), trivial, by (simp (disch := omega) only [StLe, tmLe, hpLe_refl, hpLe, bl, bb, bt, zDs, zD, eqCells, simprocAttr])⟩
    rintro ⟨g, tt⟩ -
    have htl : (unitL n n).length = n := unitL_len n n
    generalize unitL n n = U at *
    have hfin : List.take n (U.map frs) = U.map frs := List.take_of_length_le (by simp [htl])
    ((refine AW.freeze (1) (by first | rfl | (simp only [setH, List.getElem?_cons_zero, List.getElem?_cons_succ, fzS_frss, hfin, htl, List.length_map, Nat.le_refl]; done)) ?_); simp (disch := omega) only [fzT, fz, fzL, fzL_ints, fzL_mat, fzH, fzB, eq_self, bb, bt, zDs, zD, eqCells, simprocAttr, fzS_frss, hfin, htl, List.length_map, Nat.le_refl])
    ((refine gga0 ?_))
    ((repeat refine AW_seq ?_); (refine wta ?_); simp (disch := omega) only [retQ, resD, oneD, bb, bt, zDs, zD, eqCells, simprocAttr, Tryz.results82])
    exact rsv_tidy _ _ (by simp only [tidyD, tidyL, tidy_frss, Bool.not_false, Bool.and_self])
  have c1 : ((s.rs.length : Int) == 1) = false := by simp; omega
  have hM := matrix_prog s hf
  rw [hv] at hM
  simp only [if_true] at hM
  have hrow := ok.rows
  have ml := ok.mat_len
  have mw := ok.mat_wid
  have hz0 : fixP s.rs (-1) 0 = [] := rfl
  have hcol : ∀ i, i < s.rs.length → (trS s).getD i [] = colP (matS s) i := fun i h => trS_getD s h
  have hne : fixA s ≠ [] := by
    intro h0
    obtain ⟨k, hk, hkh⟩ : ∃ k, k < s.rs.length ∧ k ≠ h := by
      by_cases h00 : h = 0
      · exact ⟨1, by omega, by omega⟩
      · exact ⟨0, by omega, by omega⟩
    obtain ⟨r, hr⟩ : ∃ y, s.rs[k]? = some y := ⟨_, List.getElem?_eq_getElem hk⟩
    have hm := (fixA_mem hr).2 (by
      cases hb : r.hl
      · rfl
      · exact absurd (huniq k r hr hb) hkh)
    rw [h0] at hm
    cases hm
  have e : modesP s = nullP (rowsF s (fixA s)) := by simp [modesP, hv, hne]
  obtain ⟨rv, rw', rm⟩ := rowsF_valid ok hne (by have := fixP_len s.rs (-1) s.rs.length; unfold fixA; omega) (fun i hi => fixP_lt hi)
  have hN := null (rowsF s (fixA s)) (by rw [rowsF_len]; have := fixP_len s.rs (-1) s.rs.length; unfold fixA; omega) (fun r hr => by rw [(rm r hr).2]; omega)
  rw [e]
  generalize nullP (rowsF s (fixA s)) = Y at *
  unfold fixA at hN
  generalize hm : matS s = m at *
  ((refine ggb1 (F := _∧_∧_) ⟨hdb, hdr, c1⟩ hM ?_))
  refine AW.begin 12 1 126 rfl (by decide) ?_
  simp only [putTM, List.length_cons, List.length_nil, Nat.reduceEqDiff, ↓reduceIte, List.cons_append, List.nil_append]
  refine AW_mid (fun x : Nat × Nat => ⟨[(12, .own 1 1 x.1 0 (fixP s.rs (-1) s.rs.length).length)], [none, some ⟨126, x.1, (rowsF s (fixP s.rs (-1) s.rs.length)).map ints⟩], x.2⟩) (fun _ => True) ?_ ?_
  · refine AW_block ?_
    refine AW_loop_w (fun x : Nat × Nat × Nat => ⟨[(1, int h), (6, int s.bs.length), (10, mat m), (12, .own 1 1 x.2.1 0 (fixP s.rs (-1) x.1).length), (51, int s.rs.length), (52, int x.1)], [none, some ⟨126, x.2.1, (rowsF s (fixP s.rs (-1) x.1)).map ints⟩], x.2.2⟩) (fun x => s.rs.length - x.1) (fun x => x.1 ≤ s.rs.length) (0, t + 1 + 1, t + 1 + 1) (Nat.zero_le _) (by (simp (disch := omega) only [StLe, tmLe, hpLe_refl, hpLe, bl, bb, bt, zDs, zD, eqCells, simprocAttr, hz0, nums, rowsF, List.map_nil, List.length_nil])) ?_
    rintro ⟨k, g1, tt⟩ hk
    simp only at hk
    by_cases hlt : k < s.rs.length
    · obtain ⟨r, hr⟩ : ∃ y, s.rs[k]? = some y := ⟨_, List.getElem?_eq_getElem hlt⟩
      have hst := fixP_step (but := -1) hr
      have hfl := fixP_len s.rs (-1) k
      have hrl := rowsF_len s (fixP s.rs (-1) k)
      generalize fixP s.rs (-1) k = L at *
      ((refine ggb0 (F := _∧_) ⟨@Int.ofNat_lt, hlt⟩ ?_))
      ((repeat refine AW_seq ?_))
      refine AW_block ?_
      by_cases hkh : k = h
      · have e0 : ((k : Int) == (h : Int)) = true := by simp [hkh]
        have hrl1 : r.hl = true := by
          subst hkh
          rw [hq, Option.some.injEq] at hr
          rw [← hr]
          exact hqh
        rw [hrl1, Bool.not_true, Bool.false_and, if_neg (by simp)] at hst
        ((refine ggb0 e0 ?_))
        refine ⟨(k + 1, g1, tt), hlt, by show s.rs.length - (k + 1) < s.rs.length - k; omega, ?_⟩
        simp only [hst]
        (simp (disch := omega) only [StLe, tmLe, hpLe_refl, hpLe, bl, bb, bt, zDs, zD, eqCells, simprocAttr])
      · have e0 : ((k : Int) == (h : Int)) = false := by simp; omega
        have hrl0 : r.hl = false := by
          cases hb : r.hl
          · rfl
          · exact absurd (huniq k r hr hb) hkh
        have hk1 : (!((k : Int) == -1)) = true := by simp
        rw [hrl0, Bool.not_false, Bool.true_and, if_pos hk1] at hst
        ((refine ggb0 e0 ?_))
        refine AW.begin 14 1 3 rfl (by decide) ?_
        simp only [putTM, List.length_cons, List.length_nil, Nat.reduceEqDiff, ↓reduceIte, List.cons_append, List.nil_append]
        refine AW_mid (fun x : Nat × Nat => ⟨[(1, int h), (6, int s.bs.length), (10, mat m), (12, .own 1 1 g1 0 L.length), (14, .own 1 2 x.1 0 m.length), (51, int s.rs.length), (52, int k)], [none, some ⟨126, g1, (rowsF s L).map ints⟩, some ⟨3, x.1, (colP m k).map int⟩], x.2⟩) (fun _ => True) ?_ ?_
        · refine AW_block ?_
          refine AW_loop_w (fun x : Nat × Nat × Nat => ⟨[(1, int h), (6, int s.bs.length), (10, mat m), (12, .own 1 1 g1 0 L.length), (13, int k), (14, .own 1 2 x.2.1 0 x.1), (51, int s.rs.length), (52, int k), (58, int s.bs.length), (59, int x.1)], [none, some ⟨126, g1, (rowsF s L).map ints⟩, some ⟨3, x.2.1, (colP (m.take x.1) k).map int⟩], x.2.2⟩) (fun x => m.length - x.1) (fun x => x.1 ≤ m.length) (0, tt + 1, tt + 1) (Nat.zero_le _) (by (simp (disch := omega) only [StLe, tmLe, hpLe_refl, hpLe, bl, bb, bt, zDs, zD, eqCells, simprocAttr, colP])) ?_
          rintro ⟨j, g, t2⟩ hj
          simp only at hj
          by_cases hlj : j < m.length
          · obtain ⟨q', hq'⟩ : ∃ y, m[j]? = some y := ⟨_, List.getElem?_eq_getElem hlj⟩
            have hql := (hrow q' (List.mem_of_getElem? hq')).1
            have hkr : k < q'.length := by omega
            obtain ⟨v, hv'⟩ : ∃ y, q'[k]? = some y := ⟨_, List.getElem?_eq_getElem hkr⟩
            have hct := colP_take hq' hv'
            have hcl : (colP (m.take j) k).length = j := by simp [colP]; omega
            have hlb : j < s.bs.length := by omega
            ((refine ggb0 (F := _∧_) ⟨@Int.ofNat_lt, hlb⟩ ?_))
            ((repeat refine AW_seq ?_))
            refine AW_block ?_
            ((refine ggb0 (F := _∧_∧_∧_∧_) ⟨hlj, hq', hkr, hv', hcl⟩ ?_))
            refine ⟨(j + 1, t2 + 1, t2 + 1), hlj, by show m.length - (j + 1) < m.length - j; omega, ?_⟩
            simp only [hct, List.map_append, List.map_cons, List.map_nil]
            (simp (disch := omega) only [StLe, tmLe, hpLe_refl, hpLe, bl, bb, bt, zDs, zD, eqCells, simprocAttr])
          · have hje : j = m.length := by omega
            subst hje
            rw [List.take_length]
            have hnl : ¬ m.length < s.bs.length := by omega
            ((refine wqb (F := _∧_) ⟨@Int.ofNat_lt, hnl⟩ ?_))
            ((refine wia ?_))
            ((refine wxa ?_))
            exact ⟨(g, t2), trivial, by (simp (disch := omega) only [StLe, tmLe, hpLe_refl, hpLe, bl, bb, bt, zDs, zD, eqCells, simprocAttr])⟩
        rintro ⟨g, t2⟩ -
        have hcl : (colP m k).length = m.length := by simp [colP]
        have hfin : List.take m.length ((colP m k).map int) = (colP m k).map int := List.take_of_length_le (by simp [hcl])
        have hro : rowsF s (L ++ [k]) = rowsF s L ++ [colP m k] := by unfold rowsF; rw [List.map_append, List.map_cons, List.map_nil, hcol k hlt]
        ((refine AW.freeze (2) (by first | rfl | (simp only [setH, List.getElem?_cons_zero, List.getElem?_cons_succ, fzL_ints, fzL_mat, hcl, hfin, List.length_map, Nat.le_refl]; done)) ?_); simp (disch := omega) only [fzT, fz, fzL, fzL_ints, fzL_mat, fzH, fzB, eq_self, bb, bt, zDs, zD, eqCells, simprocAttr, fzL_ints, fzL_mat, hcl, hfin, List.length_map, Nat.le_refl])
        ((refine ggb0 hrl ?_))
        refine ⟨(k + 1, t2 + 1, t2 + 1), hlt, by show s.rs.length - (k + 1) < s.rs.length - k; omega, ?_⟩
        simp only [hst, hro, List.length_append, List.length_cons, List.length_nil, List.map_append, List.map_cons, List.map_nil]
        (simp (disch := omega) only [StLe, tmLe, hpLe_refl, hpLe, bl, bb, bt, zDs, zD, eqCells, simprocAttr])
    · have hke : k = s.rs.length := by omega
      subst hke
      ((refine wqb @Int.lt_irrefl ?_))
      ((refine wia ?_))
      ((refine wxa ?_))
      exact ⟨(g1, tt), trivial, by (simp (disch := omega) only [StLe, tmLe, hpLe_refl, hpLe, bl, bb, bt, zDs, zD, eqCells, simprocAttr])⟩
  rintro ⟨g1, tt⟩ -
  have hrl := rowsF_len s (fixP s.rs (-1) s.rs.length)
  generalize fixP s.rs (-1) s.rs.length = L at *
  have hfin2 : List.take L.length ((rowsF s L).map ints) = (rowsF s L).map ints := List.take_of_length_le (by simp [rowsF])
  ((refine AW.freeze (1) (by first | rfl | (simp only [setH, List.getElem?_cons_zero, List.getElem?_cons_succ, fzL_ints, fzL_mat, hfin2, hrl, List.length_map, Nat.le_refl]; done)) ?_); simp (disch := omega) only [fzT, fz, fzL, fzL_ints, fzL_mat, fzH, fzB, eq_self, bb, bt, zDs, zD, eqCells, simprocAttr, fzL_ints, fzL_mat, hfin2, hrl, List.length_map, Nat.le_refl])
  ((refine gga1 hN ?_))
  ((repeat refine AW_seq ?_); (refine wta ?_); simp (disch := omega) only [retQ, resD, oneD, bb, bt, zDs, zD, eqCells, simprocAttr, Tryz.results82])
  exact rsv_tidy _ _ (by simp only [tidyD, tidyL, tidy_frss, Bool.not_false, Bool.and_self])
end Go.Proofs.YtpcakodemleoiaaGreat.T

namespace Go.Proofs.YtpcakodemleoiaaGreat.T
open Go Go.RowKit Lin
def hauR (s : Sy) : Rp := s.rs.getD (hix s).toNat ⟨ByteArray.empty, [], false⟩
def loadP (s : Sy) : List (Int × Int) := s.bs.map fun b => (b.w, 1)
def prsP (s : Sy) (up : Bool) : (List (Int × Int) × List (Int × Int)) × Int := pairA (loadP s) (gripsA (hauR s) up s.bs []).1 (modesP s).1 [] []
def firstP (s : Sy) (up : Bool) : (Int × Int) × List (Int × Int) × Int :=
  if givL s = 0 then (if (alongP (hauR s) up).2 = 0 then (if (gripsA (hauR s) up s.bs []).2 = 0 then (if (prsP s up).2 = 0 then ((balP (prsP s up).1.1 (prsP s up).1.2).1, (alongP (hauR s) up).1, (balP (prsP s up).1.1 (prsP s up).1.2).2) else ((0, 0), [], (prsP s up).2)) else ((0, 0), [], (gripsA (hauR s) up s.bs []).2)) else ((0, 0), [], (alongP (hauR s) up).2)) else ((0, 0), [], givL s)
theorem gripsA_len {r : Rp} {up : Bool} : ∀ (bs : List Bk) (acc : List (Int × Int)), (gripsA r up bs acc).2 = 0 → (gripsA r up bs acc).1.length = acc.length + bs.length
  | [], acc, _ => rfl
  | b :: l, acc, h => by
    simp only [gripsA] at h ⊢
    split at h
    · rename_i h0
      rw [if_pos h0, gripsA_len l _ h]
      simp
      omega
    · rename_i h0
      exact absurd h h0
theorem pairA_step {load grip x : List (Int × Int)} {L : List (List (Int × Int))} {k : Nat} (hx : L[k]? = some x) (w p : List (Int × Int)) : pairA load grip (L.drop k) w p = if (dotV x load (0, 1)).2 = 0 then (if (dotV x grip (0, 1)).2 = 0 then pairA load grip (L.drop (k + 1)) (w ++ [(dotV x load (0, 1)).1]) (p ++ [(dotV x grip (0, 1)).1]) else (([], []), (dotV x grip (0, 1)).2)) else (([], []), (dotV x load (0, 1)).2) := by
  rw [List.drop_eq_getElem_cons (List.getElem?_eq_some_iff.1 hx).1, (List.getElem?_eq_some_iff.1 hx).2]
  rfl
set_option maxRecDepth 100000 in
set_option maxHeartbeats 16000000 in
theorem first14 (s : Sy) (hf : Fits s) (up : Bool) : PRet Tryz.prog 41 [syD s, bool up] (.tup [frD (firstP s up).1, frs (firstP s up).2.1, int (firstP s up).2.2]) := by
  refine PRet.intro 1 fun t => ACall.enter tab_ok Tryz.func41 rfl rfl Tryz.ntmps41 (by simp) ?_
  simp only [enterTM]
  have hG := given14 s hf
  by_cases hg : givL s = 0
  rotate_left 1
  · have e : firstP s up = ((0, 0), [], givL s) := by unfold firstP; rw [if_neg hg]
    rw [e]
    rw [if_neg hg] at hG
    have e1 : (givL s != 0) = true := by simpa using hg
    generalize givL s = E at *
    ((refine ggb1 e1 hG ?_))
    ((repeat refine AW_seq ?_); (refine wta ?_); simp (disch := omega) only [retQ, resD, oneD, rsv, rs, rsL, rsL_eq_map, List.map_map, bb, bt, zDs, zD, eqCells, simprocAttr, Tryz.results41])
    rfl
  have hv : validS s = true := by
    cases hv : validS s
    · unfold givL at hg
      rw [if_neg (by simp [hv])] at hg
      cases hg
    · rfl
  have hix0 : ¬ hix s < 0 := by
    intro h
    unfold givL at hg
    rw [if_pos hv, if_pos h] at hg
    cases hg
  have ok := validS_ok hv
  have hb6 := ok.b6
  have hr6 := ok.r6
  obtain ⟨i, r, hi, hr, _⟩ := hix_hit hix0
  have ehr : hauR s = r := by unfold hauR; rw [hi, Int.toNat_natCast, List.getD_eq_getElem?_getD, hr]; rfl
  have hir := (List.getElem?_eq_some_iff.1 hr).1
  have hdr := rpC_div s.rs
  have hdb := bkC_div s.bs
  have hra := rpC_read s.rs i r hr
  have hrm := List.mem_of_getElem? hr
  have hA := along14 r up (hf.sr r hrm).2
  have hMo := motions14 s hf hv hi
  have m0 : (modesP s).2 = 0 := (modesP_facts s).2.2.2 hv
  obtain ⟨ml, mn, _⟩ := modesP_facts s
  rw [m0] at hMo
  rw [hg, if_pos rfl, hi] at hG
  unfold firstP
  rw [if_pos hg, ehr]
  have ep : prsP s up = pairA (loadP s) (gripsA r up s.bs []).1 (modesP s).1 [] [] := by unfold prsP; rw [ehr]
  rw [ep]
  by_cases ha : (alongP r up).2 = 0
  rotate_left 1
  · have e1 : ((alongP r up).2 != 0) = true := by simpa using ha
    rw [if_neg ha]
    generalize alongP r up = X at *
    ((refine ggb2 (F := _∧_∧_∧_) ⟨hir, hdr, hra, e1⟩ hG hA ?_))
    ((repeat refine AW_seq ?_); (refine wta ?_); simp (disch := omega) only [retQ, resD, oneD, rsv, rs, rsL, rsL_eq_map, List.map_map, bb, bt, zDs, zD, eqCells, simprocAttr, Tryz.results41])
    rfl
  have hright : rightR r = true := by
    cases h : rightR r
    · unfold alongP at ha
      rw [if_neg (by simp [h])] at ha
      cases ha
    · rfl
  have ea : alongP r up = (facL r up (r.hs.length - 1), 0) := by unfold alongP; rw [if_pos hright]
  have hGr := grips14 s r up hright (by omega) (fun h hh => ok.pulls r hrm h hh)
  rw [if_pos ha]
  rw [ea] at hA ⊢
  simp only at hA ⊢
  have hgl := gripsA_len (r := r) (up := up) s.bs []
  generalize gripsA r up s.bs [] = Gr at *
  generalize facL r up (r.hs.length - 1) = Fs at *
  by_cases hgr : Gr.2 = 0
  rotate_left 1
  · have e1 : (Gr.2 != 0) = true := by simpa using hgr
    rw [if_neg hgr]
    ((refine ggb3 (F := _∧_∧_∧_) ⟨hir, hdr, hra, e1⟩ hG hA hGr ?_))
    ((repeat refine AW_seq ?_); (refine wta ?_); simp (disch := omega) only [retQ, resD, oneD, rsv, rs, rsL, rsL_eq_map, List.map_map, bb, bt, zDs, zD, eqCells, simprocAttr, Tryz.results41])
    rfl
  have e1 : (Gr.2 != 0) = false := by simpa using hgr
  have hgl := hgl hgr
  rw [if_pos hgr]
  generalize (modesP s).1 = L at *
  have hz : frC [] = [] := rfl
  ((refine ggb4 (F := _∧_∧_∧_∧_) ⟨hir, hdr, hra, e1, hdb⟩ hG hA hGr hMo ?_))
  have hll : (loadP s).length = s.bs.length := by simp [loadP]
  have hl0 : ∀ l : List Bk, frC ((l.take 0).map fun b => (b.w, (1 : Int))) = [] := fun l => rfl
  generalize hPP : pairA (loadP s) Gr.1 L [] [] = PP at *
  refine AW.begin 13 2 33 rfl (by decide) ?_
  simp only [putTM, List.length_cons, List.length_nil, Nat.reduceEqDiff, ↓reduceIte, List.cons_append, List.nil_append]
  refine AW_mid (fun x : Nat × Nat => ⟨[(4, .ptr 1 (t + 1 + 1) 0), (10, frs Fs), (11, frs Gr.1), (12, frss L), (13, .own 2 3 x.1 0 s.bs.length)], [none, some ⟨33, t + 1 + 1, [int 0, int 0]⟩, none, some ⟨33, x.1, frC (loadP s)⟩], x.2⟩) (fun _ => True) ?_ ?_
  · refine AW_block ?_
    refine AW_loop_w (fun x : Nat × Nat × Nat => ⟨[(4, .ptr 1 (t + 1 + 1) 0), (10, frs Fs), (11, frs Gr.1), (12, frss L), (13, .own 2 3 x.2.1 0 x.1), (70, bks s.bs), (71, int s.bs.length), (72, int x.1)], [none, some ⟨33, t + 1 + 1, [int 0, int 0]⟩, none, some ⟨33, x.2.1, frC ((s.bs.take x.1).map fun b => (b.w, 1))⟩], x.2.2⟩) (fun x => s.bs.length - x.1) (fun x => x.1 ≤ s.bs.length) (0, t + 1 + 1 + 1 + 1, t + 1 + 1 + 1 + 1) (Nat.zero_le _) (by (simp (disch := omega) only [StLe, tmLe, hpLe_refl, hpLe, bl, bb, bt, zDs, zD, eqCells, simprocAttr, hl0, hz, List.take_zero, List.map_nil])) ?_
    rintro ⟨k, g, tt⟩ hk
    simp only at hk
    by_cases hlt : k < s.bs.length
    · obtain ⟨b, hb⟩ : ∃ y, s.bs[k]? = some y := ⟨_, List.getElem?_eq_getElem hlt⟩
      have hrb := bkC_read s.bs k b hb
      have hw := whole14 b.w
      have hst : frC ((s.bs.take (k + 1)).map fun b => (b.w, (1 : Int))) = frC ((s.bs.take k).map fun b => (b.w, 1)) ++ [int b.w, int 1] := by
        rw [List.take_add_one, hb, Option.toList_some, List.map_append]
        simp [frC]
      have hlk := frC_len ((s.bs.take k).map fun b => (b.w, (1 : Int)))
      rw [List.length_map, List.length_take, Nat.min_eq_left hk] at hlk
      ((refine ggb0 (F := _∧_) ⟨@Int.ofNat_lt, hlt⟩ ?_))
      ((repeat refine AW_seq ?_))
      refine AW_block ?_
      ((refine ggb1 (F := _∧_∧_∧_) ⟨hlt, hdb, hrb, hlk⟩ hw ?_))
      refine ⟨(k + 1, tt + 1 + 1, tt + 1 + 1), hlt, by show s.bs.length - (k + 1) < s.bs.length - k; omega, ?_⟩
      simp only [hst]
      (simp (disch := omega) only [StLe, tmLe, hpLe_refl, hpLe, bl, bb, bt, zDs, zD, eqCells, simprocAttr])
    · have hke : k = s.bs.length := by omega
      subst hke
      have hfull : frC ((s.bs.take s.bs.length).map fun b => (b.w, (1 : Int))) = frC (loadP s) := by rw [List.take_length]; rfl
      rw [hfull]
      ((refine wqb @Int.lt_irrefl ?_))
      ((refine wia ?_))
      ((refine wxa ?_))
      exact ⟨(g, tt), trivial, by (simp (disch := omega) only [StLe, tmLe, hpLe_refl, hpLe, bl, bb, bt, zDs, zD, eqCells, simprocAttr])⟩
  rintro ⟨g0, t1⟩ -
  generalize loadP s = ld at *
  have hlw := frC_len ld
  rw [hll] at hlw
  have hfin : List.take (s.bs.length * 2) (frC ld) = frC ld := List.take_of_length_le (by omega)
  ((refine AW.freeze (3) (by first | rfl | (simp only [setH, List.getElem?_cons_zero, List.getElem?_cons_succ, fz_bk, fz_rp, fz_frS, fzS_frss, hfin, hlw, Nat.le_refl]; done)) ?_); simp (disch := omega) only [fzT, fz, fzL, fzL_ints, fzL_mat, fzH, fzB, eq_self, bb, bt, zDs, zD, eqCells, simprocAttr, fz_bk, fz_rp, fz_frS, fzS_frss, hfin, hlw, Nat.le_refl])
  ((refine gga0 ?_))
  refine AW.begin 16 2 33 rfl (by decide) ?_
  simp only [putTM, List.length_cons, List.length_nil, Nat.reduceEqDiff, ↓reduceIte, List.cons_append, List.nil_append]
  refine AW.begin 17 2 33 rfl (by decide) ?_
  simp only [putTM, List.length_cons, List.length_nil, Nat.reduceEqDiff, ↓reduceIte, List.cons_append, List.nil_append]
  refine AW_mid (fun x : Nat × Nat × Nat => ⟨[(4, .ptr 1 (t + 1 + 1) 0), (10, frs Fs), (16, .own 2 4 x.1 0 L.length), (17, .own 2 5 x.2.1 0 L.length)], [none, some ⟨33, t + 1 + 1, [int 0, int 0]⟩, none, none, some ⟨33, x.1, frC PP.1.1⟩, some ⟨33, x.2.1, frC PP.1.2⟩], x.2.2⟩) (fun _ => PP.2 = 0 ∧ PP.1.1.length = L.length ∧ PP.1.2.length = L.length) ?_ ?_
  · refine AW_block ?_
    refine AW_loop_w (fun x : List (Int × Int) × List (Int × Int) × Nat × Nat × Nat × Nat => ⟨[(4, .ptr 1 (t + 1 + 1) 0), (10, frs Fs), (11, frs Gr.1), (13, frs ld), (16, .own 2 4 x.2.2.2.1 0 x.2.2.1), (17, .own 2 5 x.2.2.2.2.1 0 x.2.2.1), (83, frss L), (84, int L.length), (85, int x.2.2.1)], [none, some ⟨33, t + 1 + 1, [int 0, int 0]⟩, none, none, some ⟨33, x.2.2.2.1, frC x.1⟩, some ⟨33, x.2.2.2.2.1, frC x.2.1⟩], x.2.2.2.2.2⟩) (fun x => L.length - x.2.2.1) (fun x => x.2.2.1 ≤ L.length ∧ x.1.length = x.2.2.1 ∧ x.2.1.length = x.2.2.1 ∧ pairA ld Gr.1 (L.drop x.2.2.1) x.1 x.2.1 = PP) ([], [], 0, t1 + 1, t1 + 1 + 1, t1 + 1 + 1) ⟨Nat.zero_le _, rfl, rfl, hPP⟩ (by (simp (disch := omega) only [StLe, tmLe, hpLe_refl, hpLe, bl, bb, bt, zDs, zD, eqCells, simprocAttr, hz])) ?_
    rintro ⟨w, p, k, g1, g2, tt⟩ ⟨hk, hwl, hpl, hd⟩
    simp only at hk hwl hpl hd
    by_cases hlt : k < L.length
    · obtain ⟨v, hvk⟩ : ∃ y, L[k]? = some y := ⟨_, List.getElem?_eq_getElem hlt⟩
      have hvl := ml v (List.mem_of_getElem? hvk)
      have hS1 := sum14 v ld (by omega) (by omega)
      have hS2 := sum14 v Gr.1 (by rw [hgl, List.length_nil]; omega) (by rw [hgl, List.length_nil]; omega)
      rw [pairA_step hvk] at hd
      generalize dotV v ld (0, 1) = A at *
      generalize dotV v Gr.1 (0, 1) = B at *
      ((refine ggb0 (F := _∧_) ⟨@Int.ofNat_lt, hlt⟩ ?_))
      ((repeat refine AW_seq ?_))
      refine AW_block ?_
      by_cases ha0 : A.2 = 0
      rotate_left 1
      · have ea : (A.2 != 0) = true := by simpa using ha0
        rw [if_neg ha0] at hd
        rw [← hd, if_neg ha0]
        ((refine ggb1 (F := _∧_∧_) ⟨hlt, hvk, ea⟩ hS1 ?_))
        ((repeat refine AW_seq ?_); (refine wta ?_); simp (disch := omega) only [retQ, resD, oneD, rsv, rs, rsL, rsL_eq_map, List.map_map, bb, bt, zDs, zD, eqCells, simprocAttr, Tryz.results41])
        rfl
      have ea : (A.2 != 0) = false := by simpa using ha0
      rw [if_pos ha0] at hd
      by_cases hb0 : B.2 = 0
      rotate_left 1
      · have eb : (B.2 != 0) = true := by simpa using hb0
        rw [if_neg hb0] at hd
        rw [← hd, if_neg hb0]
        ((refine ggb2 (F := _∧_∧_∧_) ⟨hlt, hvk, ea, eb⟩ hS1 hS2 ?_))
        ((repeat refine AW_seq ?_); (refine wta ?_); simp (disch := omega) only [retQ, resD, oneD, rsv, rs, rsL, rsL_eq_map, List.map_map, bb, bt, zDs, zD, eqCells, simprocAttr, Tryz.results41])
        rfl
      have eb : (B.2 != 0) = false := by simpa using hb0
      rw [if_pos hb0] at hd
      have hap1 : frC w ++ [int A.1.1, int A.1.2] = frC (w ++ [A.1]) := by simp [frC]
      have hap2 : frC p ++ [int B.1.1, int B.1.2] = frC (p ++ [B.1]) := by simp [frC]
      have hlw1 := frC_len w
      rw [hwl] at hlw1
      have hlp1 := frC_len p
      rw [hpl] at hlp1
      ((refine ggb2 (F := _∧_∧_∧_) ⟨hlt, hvk, ea, eb⟩ hS1 hS2 ?_))
      ((repeat refine AW_seq ?_); (refine gdzb (F := _∧_∧_∧_) ⟨hap1, hap2, hlw1, hlp1⟩ ?_))
      ((refine gga0 ?_))
      refine ⟨(w ++ [A.1], p ++ [B.1], k + 1, tt + 1 + 1 + 1, tt + 1 + 1 + 1, tt + 1 + 1 + 1), ⟨hlt, by simp [hwl], by simp [hpl], hd⟩, by show L.length - (k + 1) < L.length - k; omega, ?_⟩
      (simp (disch := omega) only [StLe, tmLe, hpLe_refl, hpLe, bl, bb, bt, zDs, zD, eqCells, simprocAttr])
    · have hke : k = L.length := by omega
      subst hke
      have hde : pairA ld Gr.1 (L.drop L.length) w p = ((w, p), 0) := by rw [List.drop_eq_nil_of_le (Nat.le_refl _)]; try rfl
      rw [hde] at hd
      subst hd
      ((refine wqb @Int.lt_irrefl ?_))
      ((refine wia ?_))
      ((refine wxa ?_))
      exact ⟨(g1, g2, tt), ⟨rfl, hwl, hpl⟩, by (simp (disch := omega) only [StLe, tmLe, hpLe_refl, hpLe, bl, bb, bt, zDs, zD, eqCells, simprocAttr])⟩
  rintro ⟨g1, g2, tt⟩ ⟨hP0, hP1, hP2⟩
  rw [if_pos hP0]
  have hB := balance14 PP.1.1 PP.1.2 (by omega) (by omega)
  obtain ⟨⟨w, p⟩, pe⟩ := PP
  simp only at *
  generalize balP w p = Z at *
  have hlw1 := frC_len w
  rw [hP1] at hlw1
  have hlp1 := frC_len p
  rw [hP2] at hlp1
  have hf1 : List.take (L.length * 2) (frC w) = frC w := List.take_of_length_le (by omega)
  have hf2 : List.take (L.length * 2) (frC p) = frC p := List.take_of_length_le (by omega)
  ((refine AW.freeze (4) (by first | rfl | (simp only [setH, List.getElem?_cons_zero, List.getElem?_cons_succ, fz_frS, hf1, hlw1, Nat.le_refl]; done)) ?_); simp (disch := omega) only [fzT, fz, fzL, fzL_ints, fzL_mat, fzH, fzB, eq_self, bb, bt, zDs, zD, eqCells, simprocAttr, fz_frS, hf1, hlw1, Nat.le_refl])
  ((refine AW.freeze (5) (by first | rfl | (simp only [setH, List.getElem?_cons_zero, List.getElem?_cons_succ, fz_frS, hf2, hlp1, Nat.le_refl]; done)) ?_); simp (disch := omega) only [fzT, fz, fzL, fzL_ints, fzL_mat, fzH, fzB, eq_self, bb, bt, zDs, zD, eqCells, simprocAttr, fz_frS, hf2, hlp1, Nat.le_refl])
  ((refine gga1 hB ?_))
  ((repeat refine AW_seq ?_); (refine wta ?_); simp (disch := omega) only [retQ, resD, oneD, bb, bt, zDs, zD, eqCells, simprocAttr, Tryz.results41])
  exact rsv_tidy _ _ (by simp only [tidyD, tidyL, tidy_fr, Bool.not_false, Bool.and_self])
def forceP (s : Sy) (up : Bool) : (Int × Int) × Int := if (firstP s up).2.2 = 0 then mulP (firstP s up).1 ((firstP s up).2.1.getD ((firstP s up).2.1.length - 1) (0, 0)) else ((0, 0), (firstP s up).2.2)
theorem first_len {s : Sy} {up : Bool} (h : (firstP s up).2.2 = 0) : 1 ≤ (firstP s up).2.1.length ∧ (firstP s up).2.1.length ≤ 9 := by
  unfold firstP at h ⊢
  split at h
  · rename_i h1
    rw [if_pos h1]
    split at h
    · rename_i h2
      rw [if_pos h2]
      split at h
      · rename_i h3
        rw [if_pos h3]
        split at h
        · rename_i h4
          rw [if_pos h4]
          simp only
          have hr : rightR (hauR s) = true := by
            cases hr : rightR (hauR s)
            · unfold alongP at h2
              rw [if_neg (by simp [hr])] at h2
              cases h2
            · rfl
          unfold alongP
          rw [if_pos hr]
          simp only
          rw [facL_len]
          have := rightR_len hr
          omega
        · rename_i h4; exact absurd h h4
      · rename_i h3; exact absurd h h3
    · rename_i h2; exact absurd h h2
  · rename_i h1; exact absurd h h1
set_option maxHeartbeats 4000000 in
theorem force14 (s : Sy) (hf : Fits s) (up : Bool) : PRet Tryz.prog 42 [syD s, bool up] (fe (forceP s up)) := by
  refine PRet.intro 1 fun t => ACall.enter tab_ok Tryz.func42 rfl rfl Tryz.ntmps42 (by simp) ?_
  simp only [enterTM]
  have hF := first14 s hf up
  have hl := first_len (s := s) (up := up)
  unfold forceP
  generalize firstP s up = X at *
  obtain ⟨f, l, e⟩ := X
  simp only at *
  by_cases h0 : e = 0
  rotate_left 1
  · have e1 : (e != 0) = true := by simpa using h0
    rw [if_neg h0]
    ((refine ggb1 e1 hF ?_))
    ((repeat refine AW_seq ?_); (refine wta ?_); simp (disch := omega) only [retQ, resD, oneD, rsv, rs, rsL, rsL_eq_map, List.map_map, bb, bt, zDs, zD, eqCells, simprocAttr, Tryz.results42])
  subst h0
  obtain ⟨l1, l9⟩ := hl rfl
  rw [if_pos rfl]
  obtain ⟨x, hx⟩ : ∃ y, l[l.length - 1]? = some y := ⟨_, List.getElem?_eq_getElem (by omega)⟩
  have hr := frC_read l (l.length - 1) x hx
  have hd := frC_div l
  have hs : (l.length : Int) - 1 = ((l.length - 1 : Nat) : Int) := by omega
  have hlt : l.length - 1 < l.length := by omega
  rw [List.getD_eq_getElem?_getD, hx, Option.getD_some]
  have hM := rMul f x
  generalize mulP f x = M at *
  ((refine gga1 hF ?_))
  ((repeat refine AW_seq ?_); (refine gdzb1 (F := _∧_∧_∧_) ⟨hd, hs, hlt, hr⟩ hM ?_))
  ((refine gga0 ?_))
  ((repeat refine AW_seq ?_); (refine wta ?_); simp (disch := omega) only [retQ, resD, oneD, rsv, rs, rsL, rsL_eq_map, List.map_map, bb, bt, zDs, zD, eqCells, simprocAttr, Tryz.results42])
theorem raise14 (s : Sy) (hf : Fits s) : PRet Tryz.prog 12 [syD s] (fe (forceP s true)) := by
  refine PRet.intro 1 fun t => ACall.enter tab_ok Tryz.func12 rfl rfl Tryz.ntmps12 (by simp) ?_
  simp only [enterTM]
  have hF := force14 s hf true
  generalize forceP s true = M at *
  ((refine gga1 hF ?_))
  ((repeat refine AW_seq ?_); (refine wta ?_); simp (disch := omega) only [retQ, resD, oneD, rsv, rs, rsL, rsL_eq_map, List.map_map, bb, bt, zDs, zD, eqCells, simprocAttr, Tryz.results12])
theorem lower14 (s : Sy) (hf : Fits s) : PRet Tryz.prog 13 [syD s] (fe (forceP s false)) := by
  refine PRet.intro 1 fun t => ACall.enter tab_ok Tryz.func13 rfl rfl Tryz.ntmps13 (by simp) ?_
  simp only [enterTM]
  have hF := force14 s hf false
  generalize forceP s false = M at *
  ((refine gga1 hF ?_))
  ((repeat refine AW_seq ?_); (refine wta ?_); simp (disch := omega) only [retQ, resD, oneD, rsv, rs, rsL, rsL_eq_map, List.map_map, bb, bt, zDs, zD, eqCells, simprocAttr, Tryz.results13])
end Go.Proofs.YtpcakodemleoiaaGreat.T

namespace Go.Proofs.YtpcakodemleoiaaGreat.T
open Go Go.RowKit Lin
theorem cells14_hd (l : List Hd) : (hdC l).all isCell = true := by
  induction l with
  | nil => rfl
  | cons x r ih => simp only [hdC, List.flatMap_cons, List.all_append, Bool.and_eq_true] at ih ⊢; exact ⟨rfl, ih⟩
set_option maxHeartbeats 1000000 in
theorem clone14_hd_ (x : Hd) (r : List Hd) (hl : r.length ≤ 1000) : PFresh Tryz.prog 65 [hds (x :: r)] 43 4 (r.length + 1) (hdC (x :: r)) := by
  refine PFresh.intro (plain_hd _) fun t => ACall.enter tab_ok Tryz.func65 rfl rfl Tryz.ntmps65 (by simp) ?_
  simp only [enterTM]
  have f2 : hdC (x :: r) = str x.b :: int x.p :: int x.n :: int x.d :: hdC r := rfl
  have hcl := cells14_hd r
  have hld := hdC_div (x :: r)
  have hll := hdC_len (x :: r)
  have f1 : hds (x :: r) = .sl 4 (str x.b :: int x.p :: int x.n :: int x.d :: hdC r) false := rfl
  rw [f2] at hld hll
  rw [f1, f2]
  simp only [List.length_cons] at hll hld
  ((refine wqa ?_))
  ((refine wqa ?_))
  ((refine wia ?_))
  ((refine wsa ?_))
  ((repeat refine AW_seq ?_); (refine AW_region_k tab_ok fun KR hKR => ?_); (repeat ((first | refine awOps_n rfl fun KK hKK => ?_ | refine awOps_g rfl rfl fun KK hKK => ?_ | refine awOps_gc rfl fun KK hKK => ?_); simp (disch := omega) only [bb, bt, zDs, zD, eqCells, simprocAttr, isSlice, hcl, hld]; refine hKK _ ?_; clear hKK KK)); (refine awOps_nil ?_); (refine hKR _ ?_); (try clear hKR KR); (repeat (with_reducible first | refine q1 ?_ | refine q2 ?_ | refine q3 ?_ | refine q4 ?_ | refine q5 ?_ | refine q6 ?_ | (refine q7 ?_ ?_; (focus (with_unfolding_all rfl))))))
  ((repeat refine AW_seq ?_); (refine wta ?_); simp (disch := omega) only [retQ, resD, oneD, rsv, rs, rsL, rsL_eq_map, List.map_map, bb, bt, zDs, zD, eqCells, simprocAttr, Tryz.results65])
  exact .inr ⟨0, t + 1, rfl, rfl⟩
theorem clone14_hd (l : List Hd) (h0 : 1 ≤ l.length) (hl : l.length ≤ 1000) : PFresh Tryz.prog 65 [hds l] 43 4 l.length (hdC l) := by
  cases l with
  | nil => simp at h0
  | cons x r => exact clone14_hd_ x r (by simp at hl; omega)
theorem cells14_rp (l : List Rp) : (rpC l).all isCell = true := by
  induction l with
  | nil => rfl
  | cons x r ih => simp only [rpC, List.flatMap_cons, List.all_append, Bool.and_eq_true] at ih ⊢; exact ⟨rfl, ih⟩
set_option maxHeartbeats 1000000 in
theorem clone14_rp_ (x : Rp) (r : List Rp) (hl : r.length ≤ 1000) : PFresh Tryz.prog 64 [rps (x :: r)] 39 3 (r.length + 1) (rpC (x :: r)) := by
  refine PFresh.intro (plain_rp _) fun t => ACall.enter tab_ok Tryz.func64 rfl rfl Tryz.ntmps64 (by simp) ?_
  simp only [enterTM]
  have f2 : rpC (x :: r) = str x.nm :: hds x.hs :: bool x.hl :: rpC r := rfl
  have hcl := cells14_rp r
  have hld := rpC_div (x :: r)
  have hll := rpC_len (x :: r)
  have f1 : rps (x :: r) = .sl 3 (str x.nm :: hds x.hs :: bool x.hl :: rpC r) false := rfl
  rw [f2] at hld hll
  rw [f1, f2]
  simp only [List.length_cons] at hll hld
  ((refine wqa ?_))
  ((refine wqa ?_))
  ((refine wia ?_))
  ((refine wsa ?_))
  ((repeat refine AW_seq ?_); (refine AW_region_k tab_ok fun KR hKR => ?_); (repeat ((first | refine awOps_n rfl fun KK hKK => ?_ | refine awOps_g rfl rfl fun KK hKK => ?_ | refine awOps_gc rfl fun KK hKK => ?_); simp (disch := omega) only [bb, bt, zDs, zD, eqCells, simprocAttr, isSlice, hcl, hld]; refine hKK _ ?_; clear hKK KK)); (refine awOps_nil ?_); (refine hKR _ ?_); (try clear hKR KR); (repeat (with_reducible first | refine q1 ?_ | refine q2 ?_ | refine q3 ?_ | refine q4 ?_ | refine q5 ?_ | refine q6 ?_ | (refine q7 ?_ ?_; (focus (with_unfolding_all rfl))))))
  ((repeat refine AW_seq ?_); (refine wta ?_); simp (disch := omega) only [retQ, resD, oneD, rsv, rs, rsL, rsL_eq_map, List.map_map, bb, bt, zDs, zD, eqCells, simprocAttr, Tryz.results64])
  exact .inr ⟨0, t + 1, rfl, rfl⟩
theorem clone14_rp (l : List Rp) (h0 : 1 ≤ l.length) (hl : l.length ≤ 1000) : PFresh Tryz.prog 64 [rps l] 39 3 l.length (rpC l) := by
  cases l with
  | nil => simp at h0
  | cons x r => exact clone14_rp_ x r (by simp at hl; omega)
theorem cells14_bk (l : List Bk) : (bkC l).all isCell = true := by
  induction l with
  | nil => rfl
  | cons x r ih => simp only [bkC, List.flatMap_cons, List.all_append, Bool.and_eq_true] at ih ⊢; exact ⟨rfl, ih⟩
set_option maxHeartbeats 1000000 in
theorem clone14_bk_ (x : Bk) (r : List Bk) (hl : r.length ≤ 1000) : PFresh Tryz.prog 63 [bks (x :: r)] 45 2 (r.length + 1) (bkC (x :: r)) := by
  refine PFresh.intro (plain_bk _) fun t => ACall.enter tab_ok Tryz.func63 rfl rfl Tryz.ntmps63 (by simp) ?_
  simp only [enterTM]
  have f2 : bkC (x :: r) = str x.nm :: int x.w :: bkC r := rfl
  have hcl := cells14_bk r
  have hld := bkC_div (x :: r)
  have hll := bkC_len (x :: r)
  have f1 : bks (x :: r) = .sl 2 (str x.nm :: int x.w :: bkC r) false := rfl
  rw [f2] at hld hll
  rw [f1, f2]
  simp only [List.length_cons] at hll hld
  ((refine wqa ?_))
  ((refine wqa ?_))
  ((refine wia ?_))
  ((refine wsa ?_))
  ((repeat refine AW_seq ?_); (refine AW_region_k tab_ok fun KR hKR => ?_); (repeat ((first | refine awOps_n rfl fun KK hKK => ?_ | refine awOps_g rfl rfl fun KK hKK => ?_ | refine awOps_gc rfl fun KK hKK => ?_); simp (disch := omega) only [bb, bt, zDs, zD, eqCells, simprocAttr, isSlice, hcl, hld]; refine hKK _ ?_; clear hKK KK)); (refine awOps_nil ?_); (refine hKR _ ?_); (try clear hKR KR); (repeat (with_reducible first | refine q1 ?_ | refine q2 ?_ | refine q3 ?_ | refine q4 ?_ | refine q5 ?_ | refine q6 ?_ | (refine q7 ?_ ?_; (focus (with_unfolding_all rfl))))))
  ((repeat refine AW_seq ?_); (refine wta ?_); simp (disch := omega) only [retQ, resD, oneD, rsv, rs, rsL, rsL_eq_map, List.map_map, bb, bt, zDs, zD, eqCells, simprocAttr, Tryz.results63])
  exact .inr ⟨0, t + 1, rfl, rfl⟩
theorem clone14_bk (l : List Bk) (h0 : 1 ≤ l.length) (hl : l.length ≤ 1000) : PFresh Tryz.prog 63 [bks l] 45 2 l.length (bkC l) := by
  cases l with
  | nil => simp at h0
  | cons x r => exact clone14_bk_ x r (by simp at hl; omega)
def effP (s : Sy) : (Int × Int) × Int := if (forceP s true).2 = 0 then (if (forceP (cleanS s) true).2 = 0 then divP (forceP (cleanS s) true).1 (forceP s true).1 else ((0, 0), (forceP (cleanS s) true).2)) else ((0, 0), (forceP s true).2)
def clR (l : List Rp) (k : Nat) : List Rp := (l.take k).map cleanR ++ l.drop k
def clH (l : List Hd) (k : Nat) : List Hd := (l.take k).map cleanH ++ l.drop k
theorem clR_len (l : List Rp) (k : Nat) (h : k ≤ l.length) : (clR l k).length = l.length := by simp [clR]; omega
theorem clH_len (l : List Hd) (k : Nat) (h : k ≤ l.length) : (clH l k).length = l.length := by simp [clH]; omega
theorem clR_zero (l : List Rp) : clR l 0 = l := by simp [clR]
theorem clH_zero (l : List Hd) : clH l 0 = l := by simp [clH]
theorem clR_end (l : List Rp) : clR l l.length = l.map cleanR := by simp [clR]
theorem clH_end (l : List Hd) : clH l l.length = l.map cleanH := by simp [clH]
theorem hdC_ls {l : List Hd} {i : Nat} {h : Hd} (hx : l[i]? = some h) (a b : Int) : (hdC l).take (i * 4 + 2) ++ int a :: int b :: (hdC l).drop (i * 4 + 4) = hdC (l.set i ⟨h.b, h.p, a, b⟩) := by
  have h1 := hdC_set l i ⟨h.b, h.p, a, b⟩ (List.getElem?_eq_some_iff.1 hx).1
  have h2 := hdC_read l i h hx
  have h3 : ((hdC l).drop (i * 4)).take 2 = [str h.b, int h.p] := by
    have := congrArg (List.take 2) h2
    rw [List.take_take] at this
    simpa using this
  rw [← h1, List.take_add, h3]
  simp
theorem rpC_hs {l : List Rp} {i : Nat} {r : Rp} (h : l[i]? = some r) (hs : List Hd) : (rpC l).set (i * 3 + 1) (hds hs) = rpC (l.set i ⟨r.nm, hs, r.hl⟩) := by
  have h1 := rpC_set l i ⟨r.nm, hs, r.hl⟩ (List.getElem?_eq_some_iff.1 h).1
  have hl := rpC_len l
  have hi := (List.getElem?_eq_some_iff.1 h).1
  have h2 := rpC_read l i r h
  rw [← h1]
  have e : rpC l = (rpC l).take (i * 3) ++ ([str r.nm, hds r.hs, bool r.hl] ++ (rpC l).drop (i * 3 + 3)) := by
    have : [str r.nm, hds r.hs, bool r.hl] = ((rpC l).drop (i * 3)).take 3 := h2.symm
    rw [this, ← List.drop_drop, List.take_append_drop, List.take_append_drop]
  have hlt : ((rpC l).take (i * 3)).length = i * 3 := by simp; omega
  conv => lhs; rw [e]
  rw [List.set_append_right _ _ (by omega), hlt, show i * 3 + 1 - i * 3 = 1 by omega]
  simp
theorem clR_at {h : List Rp} {x : Rp} {k : Nat} (hx : h[k]? = some x) : (clR h k)[k]? = some x := by
  have hk := (List.getElem?_eq_some_iff.1 hx).1
  unfold clR
  rw [List.getElem?_append_right (by simp; omega)]
  simp only [List.length_map, List.length_take]
  rw [List.getElem?_drop, Nat.min_eq_left (by omega), Nat.sub_self, Nat.add_zero, hx]
theorem clR_set {h : List Rp} {x : Rp} {k : Nat} (hx : h[k]? = some x) : (clR h k).set k (cleanR x) = clR h (k + 1) := by
  have hk := (List.getElem?_eq_some_iff.1 hx).1
  have hl : ((h.take k).map cleanR).length = k := by simp; omega
  unfold clR
  rw [List.set_append_right _ _ (by omega), hl, Nat.sub_self, List.take_add_one, hx, Option.toList_some, List.map_append, List.append_assoc, List.drop_eq_getElem_cons hk]
  rfl
theorem clH_at {h : List Hd} {x : Hd} {k : Nat} (hx : h[k]? = some x) : (clH h k)[k]? = some x := by
  have hk := (List.getElem?_eq_some_iff.1 hx).1
  unfold clH
  rw [List.getElem?_append_right (by simp; omega)]
  simp only [List.length_map, List.length_take]
  rw [List.getElem?_drop, Nat.min_eq_left (by omega), Nat.sub_self, Nat.add_zero, hx]
theorem clH_set {h : List Hd} {x : Hd} {k : Nat} (hx : h[k]? = some x) : (clH h k).set k (cleanH x) = clH h (k + 1) := by
  have hk := (List.getElem?_eq_some_iff.1 hx).1
  have hl : ((h.take k).map cleanH).length = k := by simp; omega
  unfold clH
  rw [List.set_append_right _ _ (by omega), hl, Nat.sub_self, List.take_add_one, hx, Option.toList_some, List.map_append, List.append_assoc, List.drop_eq_getElem_cons hk]
  rfl
theorem force_valid {s : Sy} {up : Bool} (h : (forceP s up).2 = 0) : validS s = true := by
  cases hv : validS s
  · have hg : givL s = 1 := by unfold givL; rw [if_neg (by simp [hv])]
    have hf : (firstP s up).2.2 = 1 := by unfold firstP; rw [if_neg (by rw [hg]; decide), hg]
    unfold forceP at h
    rw [if_neg (by rw [hf]; decide), hf] at h
    cases h
  · rfl
theorem clean_fits {s : Sy} (hf : Fits s) : Fits (cleanS s) := ⟨hf.nb, by simpa [cleanS] using hf.nr, hf.sb, fun r hr => by
  obtain ⟨q, hq, rfl⟩ := List.mem_map.1 hr
  exact ⟨(hf.sr q hq).1, by simpa [cleanR] using (hf.sr q hq).2⟩⟩
set_option maxRecDepth 100000 in
set_option maxHeartbeats 16000000 in
theorem eff14 (s : Sy) (hf : Fits s) : PRet Tryz.prog 27 [syD s] (fe (effP s)) := by
  refine PRet.intro 1 fun t => ACall.enter tab_ok Tryz.func27 rfl rfl Tryz.ntmps27 (by simp) ?_
  simp only [enterTM]
  have hR := raise14 s hf
  have hC := raise14 (cleanS s) (clean_fits hf)
  unfold effP
  by_cases h0 : (forceP s true).2 = 0
  rotate_left 1
  · have e1 : ((forceP s true).2 != 0) = true := by simpa using h0
    rw [if_neg h0]
    generalize forceP s true = X at *
    ((refine ggb1 e1 hR ?_))
    ((repeat refine AW_seq ?_); (refine wta ?_); simp (disch := omega) only [retQ, resD, oneD, rsv, rs, rsL, rsL_eq_map, List.map_map, bb, bt, zDs, zD, eqCells, simprocAttr, Tryz.results27])
  rw [if_pos h0]
  have e1 : ((forceP s true).2 != 0) = false := by simpa using h0
  have hv := force_valid h0
  have ok := validS_ok hv
  have hb6 := ok.b6
  have hr6 := ok.r6
  have hdr := rpC_div s.rs
  have hlr := rpC_len s.rs
  have hlb := bkC_len s.bs
  generalize forceP s true = X at *
  ((refine ggb1 e1 hR ?_))
  ((repeat refine AW_seq ?_); (refine AW_drawn_k tab_ok follows_mixed 3 fun KR hKR => ?_); simp only [List.replicate_succ, List.replicate_zero, List.append_nil, List.nil_append, List.cons_append, List.length_cons, List.length_nil, Nat.reduceAdd])
  ((refine wda ?_))
  ((first | refine awD_nc fun KK hKK => ?_ | refine awD_gc rfl fun KK hKK => ?_); simp (disch := omega) only [bb, bt, zDs, zD, eqCells, simprocAttr, goCDS, callDS_fn, argsZ, argsD, ufa, uf]; refine PGive.fresh (3) (clone14_bk s.bs ok.b1 (by omega)) ?_ ?_; (focus (first | omega | (simp (disch := omega) only [List.length_cons, List.length_nil, List.length_append]; done) | (simp (disch := omega) only [List.length_cons, List.length_nil, List.length_append]; omega))); simp (disch := omega) only [bb, bt, zDs, zD, eqCells, simprocAttr, afterDS]; refine hKK _ _ _ ?_; clear hKK KK)
  ((refine wda ?_))
  ((first | refine awD_nc fun KK hKK => ?_ | refine awD_gc rfl fun KK hKK => ?_); simp (disch := omega) only [bb, bt, zDs, zD, eqCells, simprocAttr, goCDS, callDS_fn, argsZ, argsD, ufa, uf]; refine PGive.fresh (4) (clone14_rp s.rs ok.r1 (by omega)) ?_ ?_; (focus (first | omega | (simp (disch := omega) only [List.length_cons, List.length_nil, List.length_append]; done) | (simp (disch := omega) only [List.length_cons, List.length_nil, List.length_append]; omega))); simp (disch := omega) only [bb, bt, zDs, zD, eqCells, simprocAttr, afterDS]; refine hKK _ _ _ ?_; clear hKK KK)
  ((refine wda ?_))
  ((refine awD_nil ?_); simp only [List.reverse_cons, List.reverse_nil, List.nil_append, List.cons_append]; (refine hKR _ _ (by first | rfl | kernel_rfl) ?_); (try clear hKR KR); (repeat (with_reducible first | refine q1 ?_ | refine q2 ?_ | refine q3 ?_ | refine q4 ?_ | refine q5 ?_ | refine q6 ?_ | (refine q7 ?_ ?_; (focus (with_unfolding_all rfl))))))
  have hfb : List.take (s.bs.length * 2) (bkC s.bs) = bkC s.bs := List.take_of_length_le (by omega)
  ((refine AW.freeze (3) (by first | rfl | (simp only [setH, List.getElem?_cons_zero, List.getElem?_cons_succ, fz_bk, fz_rp, hfb, hlb, Nat.le_refl]; done)) ?_); simp (disch := omega) only [fzT, fz, fzL, fzL_ints, fzL_mat, fzH, fzB, eq_self, bb, bt, zDs, zD, eqCells, simprocAttr, fz_bk, fz_rp, hfb, hlb, Nat.le_refl])
  ((refine gga0 ?_))
  have hw1 := whole14 1
  have hz := clR_zero s.rs
  ((repeat refine AW_seq ?_))
  refine AW_mid (fun x : Nat => ⟨[(2, .ptr 1 (t + 1 + 1) 0), (4, .ptr 2 (t + 1 + 1 + 1) 0), (6, .ptr 5 (t + 1 + 1 + 1 + 1) 0)], [none, some ⟨33, t + 1 + 1, [int 0, int 0]⟩, some ⟨33, t + 1 + 1 + 1, [int X.1.1, int X.1.2]⟩, none, some ⟨39, t + 1 + 1 + 1 + 1, rpC (clR s.rs s.rs.length)⟩, some ⟨25, t + 1 + 1 + 1 + 1, [bks s.bs, .own 3 4 (t + 1 + 1 + 1 + 1) 0 s.rs.length]⟩], x⟩) (fun _ => True) ?_ ?_
  · refine AW_block ?_
    refine AW_loop_w (fun x : Nat × Nat => ⟨[(2, .ptr 1 (t + 1 + 1) 0), (4, .ptr 2 (t + 1 + 1 + 1) 0), (6, .ptr 5 (t + 1 + 1 + 1 + 1) 0), (29, .own 3 4 (t + 1 + 1 + 1 + 1) 0 s.rs.length), (30, int s.rs.length), (31, int x.1)], [none, some ⟨33, t + 1 + 1, [int 0, int 0]⟩, some ⟨33, t + 1 + 1 + 1, [int X.1.1, int X.1.2]⟩, none, some ⟨39, t + 1 + 1 + 1 + 1, rpC (clR s.rs x.1)⟩, some ⟨25, t + 1 + 1 + 1 + 1, [bks s.bs, .own 3 4 (t + 1 + 1 + 1 + 1) 0 s.rs.length]⟩], x.2⟩) (fun x => s.rs.length - x.1) (fun x => x.1 ≤ s.rs.length) (0, t + 1 + 1 + 1 + 1) (Nat.zero_le _) (by (simp (disch := omega) only [StLe, tmLe, hpLe_refl, hpLe, bl, bb, bt, zDs, zD, eqCells, simprocAttr, hz])) ?_
    rintro ⟨k, tt⟩ hk
    simp only at hk
    by_cases hlt : k < s.rs.length
    · obtain ⟨r, hr⟩ : ∃ y, s.rs[k]? = some y := ⟨_, List.getElem?_eq_getElem hlt⟩
      have hat := clR_at hr
      have hra := rpC_read _ k r hat
      have hlk := rpC_len (clR s.rs k)
      rw [clR_len _ _ hk] at hlk
      have hhold := ok.holds r (List.mem_of_getElem? hr)
      have hset := rpC_hs hat (r.hs.map cleanH)
      have hnx : rpC ((clR s.rs k).set k ⟨r.nm, r.hs.map cleanH, r.hl⟩) = rpC (clR s.rs (k + 1)) := by rw [← clR_set hr]; rfl
      rw [hnx] at hset
      have hz2 := clH_zero r.hs
      have hdh := hdC_div r.hs
      ((refine ggb0 (F := _∧_) ⟨@Int.ofNat_lt, hlt⟩ ?_))
      ((repeat refine AW_seq ?_))
      refine AW_block ?_
      ((refine ggb0 (F := _∧_∧_) ⟨hlt, hlk, hra⟩ ?_))
      intro KR hKR
      ((first | refine awOps_nc fun KK hKK => ?_ | refine awOps_gc rfl fun KK hKK => ?_); simp (disch := omega) only [bb, bt, zDs, zD, eqCells, simprocAttr, goC, callO_fn, argsD, and_self]; refine ACall.of_fresh (clone14_hd r.hs (by omega) (by omega)) (by first | (simp only [List.map_cons, List.map_nil, List.append_nil, List.nil_append, List.cons_append, ufa, uf]; done) | rfl) ?_; simp (disch := omega) only [bb, bt, zDs, zD, eqCells, simprocAttr, afterC]; refine hKK _ ?_; clear hKK KK)
      ((refine wra ?_)); ((refine wea ?_); (try clear hKR KR))
      ((refine gga0 ?_))
      ((repeat refine AW_seq ?_))
      refine AW_mid (fun x : Nat => ⟨[(2, .ptr 1 (t + 1 + 1) 0), (4, .ptr 2 (t + 1 + 1 + 1) 0), (6, .ptr 5 (t + 1 + 1 + 1 + 1) 0), (29, .own 3 4 (t + 1 + 1 + 1 + 1) 0 s.rs.length), (30, int s.rs.length), (31, int k), (7, int k), (9, .own 4 7 (tt + 1 + 1) 0 r.hs.length)], [none, some ⟨33, t + 1 + 1, [int 0, int 0]⟩, some ⟨33, t + 1 + 1 + 1, [int X.1.1, int X.1.2]⟩, none, some ⟨39, t + 1 + 1 + 1 + 1, rpC (clR s.rs k)⟩, some ⟨25, t + 1 + 1 + 1 + 1, [bks s.bs, .own 3 4 (t + 1 + 1 + 1 + 1) 0 s.rs.length]⟩, none, some ⟨43, tt + 1 + 1, hdC (clH r.hs r.hs.length)⟩], x⟩) (fun _ => True) ?_ ?_
      · refine AW_block ?_
        refine AW_loop_w (fun x : Nat × Nat => ⟨[(2, .ptr 1 (t + 1 + 1) 0), (4, .ptr 2 (t + 1 + 1 + 1) 0), (6, .ptr 5 (t + 1 + 1 + 1 + 1) 0), (29, .own 3 4 (t + 1 + 1 + 1 + 1) 0 s.rs.length), (30, int s.rs.length), (31, int k), (7, int k), (9, .own 4 7 (tt + 1 + 1) 0 r.hs.length), (40, int r.hs.length), (41, int x.1)], [none, some ⟨33, t + 1 + 1, [int 0, int 0]⟩, some ⟨33, t + 1 + 1 + 1, [int X.1.1, int X.1.2]⟩, none, some ⟨39, t + 1 + 1 + 1 + 1, rpC (clR s.rs k)⟩, some ⟨25, t + 1 + 1 + 1 + 1, [bks s.bs, .own 3 4 (t + 1 + 1 + 1 + 1) 0 s.rs.length]⟩, none, some ⟨43, tt + 1 + 1, hdC (clH r.hs x.1)⟩], x.2⟩) (fun x => r.hs.length - x.1) (fun x => x.1 ≤ r.hs.length) (0, tt + 1 + 1) (Nat.zero_le _) (by (simp (disch := omega) only [StLe, tmLe, hpLe_refl, hpLe, bl, bb, bt, zDs, zD, eqCells, simprocAttr, hz2])) ?_
        rintro ⟨j, t2⟩ hj
        simp only at hj
        by_cases hlj : j < r.hs.length
        · obtain ⟨h, hh⟩ : ∃ y, r.hs[j]? = some y := ⟨_, List.getElem?_eq_getElem hlj⟩
          have hl4 := hdC_len (clH r.hs j)
          rw [clH_len _ _ hj] at hl4
          have hs4 := hdC_ls (clH_at hh) 1 1
          have hn4 : hdC ((clH r.hs j).set j ⟨h.b, h.p, 1, 1⟩) = hdC (clH r.hs (j + 1)) := by rw [← clH_set hh]; rfl
          rw [hn4] at hs4
          have hle4 : j * 4 + 4 ≤ r.hs.length * 4 := by omega
          ((refine ggb0 (F := _∧_) ⟨@Int.ofNat_lt, hlj⟩ ?_))
          ((repeat refine AW_seq ?_))
          refine AW_block ?_
          ((refine ggb1 (F := _∧_∧_∧_) ⟨hlj, hl4, hs4, hle4⟩ hw1 ?_))
          refine ⟨(j + 1, t2), hlj, by show r.hs.length - (j + 1) < r.hs.length - j; omega, ?_⟩
          (simp (disch := omega) only [StLe, tmLe, hpLe_refl, hpLe, bl, bb, bt, zDs, zD, eqCells, simprocAttr])
        · have hje : j = r.hs.length := by omega
          subst hje
          ((refine wqb @Int.lt_irrefl ?_))
          ((refine wia ?_))
          ((refine wxa ?_))
          exact ⟨t2, trivial, by (simp (disch := omega) only [StLe, tmLe, hpLe_refl, hpLe, bl, bb, bt, zDs, zD, eqCells, simprocAttr])⟩
      rintro t2 -
      have hfh : List.take (r.hs.length * 4) (hdC (clH r.hs r.hs.length)) = hdC (clH r.hs r.hs.length) := List.take_of_length_le (by rw [hdC_len, clH_len _ _ (Nat.le_refl _)]; exact Nat.le_refl _)
      have hlh : (hdC (clH r.hs r.hs.length)).length = r.hs.length * 4 := by rw [hdC_len, clH_len _ _ (Nat.le_refl _)]
      rw [clH_end] at hfh hlh ⊢
      ((refine AW.freeze (7) (by first | rfl | (simp only [setH, List.getElem?_cons_zero, List.getElem?_cons_succ, fz_bk, fz_rp, fz_hd, hfh, hlh, Nat.le_refl]; done)) ?_); simp (disch := omega) only [fzT, fz, fzL, fzL_ints, fzL_mat, fzH, fzB, eq_self, bb, bt, zDs, zD, eqCells, simprocAttr, fz_bk, fz_rp, fz_hd, hfh, hlh, Nat.le_refl])
      ((refine ggb0 (F := _∧_∧_) ⟨hlt, hlk, hset⟩ ?_))
      refine ⟨(k + 1, t2), hlt, by show s.rs.length - (k + 1) < s.rs.length - k; omega, ?_⟩
      (simp (disch := omega) only [StLe, tmLe, hpLe_refl, hpLe, bl, bb, bt, zDs, zD, eqCells, simprocAttr])
    · have hke : k = s.rs.length := by omega
      subst hke
      ((refine wqb @Int.lt_irrefl ?_))
      ((refine wia ?_))
      ((refine wxa ?_))
      exact ⟨tt, trivial, by (simp (disch := omega) only [StLe, tmLe, hpLe_refl, hpLe, bl, bb, bt, zDs, zD, eqCells, simprocAttr])⟩
  rintro tt -
  rw [clR_end]
  have hlc := rpC_len (s.rs.map cleanR)
  rw [List.length_map] at hlc
  have hfc : List.take (s.rs.length * 3) (rpC (s.rs.map cleanR)) = rpC (s.rs.map cleanR) := List.take_of_length_le (by omega)
  ((refine AW.freeze (4) (by first | rfl | (simp only [setH, List.getElem?_cons_zero, List.getElem?_cons_succ, fz_bk, fz_rp, hfc, hlc, Nat.le_refl]; done)) ?_); simp (disch := omega) only [fzT, fz, fzL, fzL_ints, fzL_mat, fzH, fzB, eq_self, bb, bt, zDs, zD, eqCells, simprocAttr, fz_bk, fz_rp, hfc, hlc, Nat.le_refl])
  generalize forceP (cleanS s) true = Y at *
  have hC : PRet Tryz.prog 12 [.agg [bks s.bs, rps (s.rs.map cleanR)]] (fe Y) := hC
  have hD := rDiv Y.1 X.1
  by_cases hy : Y.2 = 0
  rotate_left 1
  · have e2 : (Y.2 != 0) = true := by simpa using hy
    rw [if_neg hy]
    ((refine ggb1 e2 hC ?_))
    ((repeat refine AW_seq ?_); (refine wta ?_); simp (disch := omega) only [retQ, resD, oneD, rsv, rs, rsL, rsL_eq_map, List.map_map, bb, bt, zDs, zD, eqCells, simprocAttr, Tryz.results27])
  have e2 : (Y.2 != 0) = false := by simpa using hy
  rw [if_pos hy]
  generalize divP Y.1 X.1 = Z at *
  ((refine ggb2 e2 hC hD ?_))
  ((repeat refine AW_seq ?_); (refine wta ?_); simp (disch := omega) only [retQ, resD, oneD, rsv, rs, rsL, rsL_eq_map, List.map_map, bb, bt, zDs, zD, eqCells, simprocAttr, Tryz.results27])
end Go.Proofs.YtpcakodemleoiaaGreat.T

namespace Go.Proofs.YtpcakodemleoiaaGreat.T
open Go Go.RowKit Lin
end Go.Proofs.YtpcakodemleoiaaGreat.T

namespace Go.Proofs.YtpcakodemleoiaaGreat.T
open Go Go.RowKit Lin
theorem refOver (a b : Int × Int) (ha : vfrac a.1 a.2 = true) (hb : vfrac b.1 b.2 = true) : PRet Tryz.prog 68 [frD a, frD b] (fe (divR a b)) := by
  obtain ⟨a1, a2, a3, a4, a5⟩ := fr_bounds ha
  obtain ⟨b1, b2, b3, b4, b5⟩ := fr_bounds hb
  obtain ⟨n, d⟩ := a
  obtain ⟨u, v⟩ := b
  simp only at *
  have s1 := refSize n (by omega)
  have s2 := refSize u (by omega)
  have s3 := refSize d (by omega)
  have s4 := refSize v (by omega)
  have m1 := refMul n.natAbs v.natAbs (by omega)
  have m2 := refMul d.natAbs u.natAbs (by omega)
  have c1 : n.natAbs * v.natAbs ≤ 1152921504606846976 * 1152921504606846976 := Nat.mul_le_mul (by omega) (by omega)
  have c2 : d.natAbs * u.natAbs ≤ 1152921504606846976 * 1152921504606846976 := Nat.mul_le_mul (by omega) (by omega)
  have hm := made (n.natAbs * v.natAbs) (decide (n < 0) != decide (u < 0)) (d.natAbs * u.natAbs) (by omega) (by omega)
  have e : divR (n, d) (u, v) = madeP (n.natAbs * v.natAbs) (decide (n < 0) != decide (u < 0)) (d.natAbs * u.natAbs) := rfl
  rw [e]
  generalize madeP (n.natAbs * v.natAbs) (decide (n < 0) != decide (u < 0)) (d.natAbs * u.natAbs) = r at *
  refine PRet.intro 2 fun t => ACall.enter tab_ok Tryz.func68 rfl rfl Tryz.ntmps68 (by simp) ?_
  simp only [enterTM]
  ((refine gga0 ?_))
  ((repeat refine AW_seq ?_); (refine gdza7 s1 s2 s3 s4 m1 m2 hm ?_))
  ((repeat refine AW_seq ?_); (refine wta ?_); simp (disch := omega) only [retQ, resD, oneD, rsv, rs, rsL, rsL_eq_map, List.map_map, bb, bt, zDs, zD, eqCells, simprocAttr, Tryz.results68])
end Go.Proofs.YtpcakodemleoiaaGreat.T

namespace Go.Proofs.YtpcakodemleoiaaGreat.T
open Go Go.RowKit Lin
def alrS (r : Rp) (up : Bool) (t : Nat) (x : Bool × Nat × Nat × Nat) : St :=
  if x.1 = true then ⟨[(1, bool up), (2, .ptr 0 (t + 1) 0), (5, .own 2 3 x.2.2.1 0 x.2.1), (6, int x.2.1)], [some ⟨39, t + 1, rp1 r⟩, none, none, some ⟨33, x.2.2.1, frC (facL r up x.2.1)⟩], x.2.2.2⟩
  else ⟨[(1, bool up), (2, .ptr 0 (t + 1) 0), (5, .sl 2 [int 1, int 1] true), (6, int 1)], [some ⟨39, t + 1, rp1 r⟩], x.2.2.2⟩
set_option maxRecDepth 100000 in
set_option maxHeartbeats 16000000 in
theorem along_ref (r : Rp) (up : Bool) (hr : rightR r = true) : PRet Tryz.prog 57 [.agg (rp1 r), bool up] (frs (facL r up (r.hs.length - 1))) := by
  refine PRet.intro 1 fun t => ACall.enter tab_ok Tryz.func57 rfl rfl Tryz.ntmps57 (by simp) ?_
  simp only [enterTM]
  have hdh := hdC_div r.hs
  have o1 := refOf 1
  obtain ⟨n2, n10⟩ := rightR_len hr
  have hf1 := facL_one r up
  ((refine gga1 o1 ?_))
  ((repeat refine AW_seq ?_))
  refine AW_block ?_
  refine AW_loop_w (alrS r up t) (fun x => r.hs.length - x.2.1) (fun x => 1 ≤ x.2.1 ∧ x.2.1 ≤ r.hs.length - 1 ∧ (x.1 = false → x.2.1 = 1) ∧ (x.1 = true → 2 ≤ x.2.1)) (false, 1, t, t + 1) ⟨Nat.le_refl _, (by show (1 : Nat) ≤ r.hs.length - 1; omega), fun _ => rfl, fun h => (by cases h)⟩ (by simp only [alrS, Bool.false_eq_true, ↓reduceIte]; (simp (disch := omega) only [StLe, tmLe, hpLe_refl, hpLe, bl, bb, bt, zDs, zD, eqCells, simprocAttr])) ?_
  rintro ⟨o, k, g, tt⟩ ⟨hk1, hk, ho1, ho2⟩
  simp only at hk1 hk ho1 ho2
  obtain ⟨j, rfl⟩ : ∃ j, k = j + 1 := ⟨k - 1, by omega⟩
  by_cases hlt : j + 1 < r.hs.length - 1
  · obtain ⟨x, hx⟩ : ∃ y, r.hs[j + 1]? = some y := ⟨_, List.getElem?_eq_getElem (by omega)⟩
    have hra := hdC_read r.hs (j + 1) x hx
    have hrl : ((hdC r.hs).drop ((j + 1) * 4 + 2)).take 2 = [int x.n, int x.d] := by
      have h := congrArg (fun l => (l.drop 2).take 2) hra
      simp only [List.drop_take, List.drop_drop] at h
      simpa [List.take_take] using h
    have hlo := okLoss_lossy (rightR_at hr hx)
    have hls : ∀ i h, 1 ≤ i → i ≤ j → r.hs[i]? = some h → lossy h.n h.d = true := fun i h _ hi hh => okLoss_lossy (rightR_at hr hh)
    obtain ⟨n1, n3, n4⟩ := facK_next (hs := r.hs) (up := up) (k := j) (by omega) hls hx hlo
    have hfv := (facK_fb (up := up) j (by omega) hls).v
    have hlv := (lossy_fb hlo).v
    have hM := refTimes (facK r.hs up j) (x.n, x.d) hfv hlv
    have hD := refOver (facK r.hs up j) (x.n, x.d) hfv hlv
    rw [n1] at hM
    rw [n3] at hD
    have hat := facL_at r up (k := j + 1) (i := j) (by omega)
    have hrf := frC_read (facL r up (j + 1)) j _ hat
    have hll := frC_len (facL r up (j + 1))
    rw [facL_len] at hll
    have hll2 : (frC (facL r up (j + 1))).length / 2 = j + 1 := by omega
    have hdv : ((j + 1) * 2 + 2) / 2 = j + 1 + 1 := by omega
    have hsub : ((j + 1 : Nat) : Int) - 1 = (j : Int) := by omega
    have hpu := facL_push r up (j + 1)
    have hap : frC (facL r up (j + 1)) ++ [int (facK r.hs up (j + 1)).1, int (facK r.hs up (j + 1)).2] = frC (facL r up (j + 1 + 1)) := by rw [hpu]; simp [frC]
    have hj1 : j < j + 1 := by omega
    have hjn : j + 1 < r.hs.length := by omega
    have c1 : ((j + 1 : Nat) : Int) + 1 < (r.hs.length : Int) := by omega
    rw [n4] at hap
    generalize (mulR (facK r.hs up j) (x.n, x.d)).1 = A at *
    generalize (divR (facK r.hs up j) (x.n, x.d)).1 = B at *
    cases o
    · have hj0 : j = 0 := by have := ho1 rfl; omega
      have hfe : frC (facL r up (j + 1)) = [int 1, int 1] := by rw [hj0]; exact hf1
      rw [hfe] at hrf hap
      have hap := hap.symm
      simp only [List.cons_append, List.nil_append] at hap
      subst hj0
      simp only [alrS, Bool.false_eq_true, ↓reduceIte]
      have hrl1 : ((hdC r.hs).drop 6).take 2 = [int x.n, int x.d] := by simpa using hrl
      have hjn1 : 1 < r.hs.length := by omega
      have c2 : (2 : Int) < (r.hs.length : Int) := by omega
      cases up
      · have hS : PRet Tryz.prog 68 [frD (1, 1), frD (x.n, x.d)] (fe (B, 0)) := hD
        have hap2 : frC (facL r false 2) = [int 1, int 1, int B.1, int B.2] := hap
        ((refine ggb0 (F := _∧_) ⟨c2, hdh⟩ ?_))
        ((repeat refine AW_seq ?_))
        refine AW_block ?_
        ((refine gga0 ?_))
        ((repeat refine AW_seq ?_); (refine gdob1 (F := _∧_∧_) ⟨hjn1, hdh, hrl1⟩ hS ?_))
        ((refine gga0 ?_))
        refine ⟨(true, 2, tt + 1 + 1 + 1, tt + 1 + 1 + 1), ⟨(by show 1 ≤ 2; omega), (by show 2 ≤ r.hs.length - 1; omega), fun h => (by cases h), fun _ => Nat.le_refl _⟩, by show r.hs.length - 2 < r.hs.length - 1; omega, ?_⟩
        simp only [alrS, ↓reduceIte, hap2]
        (simp (disch := omega) only [StLe, tmLe, hpLe_refl, hpLe, bl, bb, bt, zDs, zD, eqCells, simprocAttr])
      · have hS : PRet Tryz.prog 58 [frD (1, 1), frD (x.n, x.d)] (fe (A, 0)) := hM
        have hap2 : frC (facL r true 2) = [int 1, int 1, int A.1, int A.2] := hap
        ((refine ggb0 (F := _∧_) ⟨c2, hdh⟩ ?_))
        ((repeat refine AW_seq ?_))
        refine AW_block ?_
        ((refine gga0 ?_))
        ((repeat refine AW_seq ?_); (refine gdob1 (F := _∧_∧_) ⟨hjn1, hdh, hrl1⟩ hS ?_))
        ((refine gga0 ?_))
        refine ⟨(true, 2, tt + 1 + 1 + 1, tt + 1 + 1 + 1), ⟨(by show 1 ≤ 2; omega), (by show 2 ≤ r.hs.length - 1; omega), fun h => (by cases h), fun _ => Nat.le_refl _⟩, by show r.hs.length - 2 < r.hs.length - 1; omega, ?_⟩
        simp only [alrS, ↓reduceIte, hap2]
        (simp (disch := omega) only [StLe, tmLe, hpLe_refl, hpLe, bl, bb, bt, zDs, zD, eqCells, simprocAttr])
    · simp only [alrS, ↓reduceIte]
      cases up
      · simp only [Bool.false_eq_true, ↓reduceIte] at hap
        ((refine ggb0 (F := _∧_) ⟨c1, hdh⟩ ?_))
        ((repeat refine AW_seq ?_))
        refine AW_block ?_
        ((refine ggb0 (F := _∧_∧_∧_∧_) ⟨hll, hll2, hsub, hj1, hrf⟩ ?_))
        ((repeat refine AW_seq ?_); (refine gdob1 (F := _∧_∧_∧_) ⟨hjn, hdh, hra, hrl⟩ hD ?_))
        ((refine ggb0 (F := _∧_∧_∧_) ⟨hap, hll, hll2, hdv⟩ ?_))
        refine ⟨(true, j + 1 + 1, tt + 1 + 1 + 1, tt + 1 + 1 + 1), ⟨(by show 1 ≤ j + 1 + 1; omega), (by show j + 1 + 1 ≤ r.hs.length - 1; omega), fun h => (by cases h), fun _ => (by show 2 ≤ j + 1 + 1; omega)⟩, by show r.hs.length - (j + 1 + 1) < r.hs.length - (j + 1); omega, ?_⟩
        simp only [alrS, ↓reduceIte]
        (simp (disch := omega) only [StLe, tmLe, hpLe_refl, hpLe, bl, bb, bt, zDs, zD, eqCells, simprocAttr])
      · simp only [↓reduceIte] at hap
        ((refine ggb0 (F := _∧_) ⟨c1, hdh⟩ ?_))
        ((repeat refine AW_seq ?_))
        refine AW_block ?_
        ((refine ggb0 (F := _∧_∧_∧_∧_) ⟨hll, hll2, hsub, hj1, hrf⟩ ?_))
        ((repeat refine AW_seq ?_); (refine gdob1 (F := _∧_∧_∧_) ⟨hjn, hdh, hra, hrl⟩ hM ?_))
        ((refine ggb0 (F := _∧_∧_∧_) ⟨hap, hll, hll2, hdv⟩ ?_))
        refine ⟨(true, j + 1 + 1, tt + 1 + 1 + 1, tt + 1 + 1 + 1), ⟨(by show 1 ≤ j + 1 + 1; omega), (by show j + 1 + 1 ≤ r.hs.length - 1; omega), fun h => (by cases h), fun _ => (by show 2 ≤ j + 1 + 1; omega)⟩, by show r.hs.length - (j + 1 + 1) < r.hs.length - (j + 1); omega, ?_⟩
        simp only [alrS, ↓reduceIte]
        (simp (disch := omega) only [StLe, tmLe, hpLe_refl, hpLe, bl, bb, bt, zDs, zD, eqCells, simprocAttr])
  · have hke : j + 1 = r.hs.length - 1 := by omega
    have c1 : ¬ ((j + 1 : Nat) : Int) + 1 < (r.hs.length : Int) := by omega
    rw [← hke]
    cases o
    · have hj0 : j = 0 := by have := ho1 rfl; omega
      subst hj0
      have c2 : ¬ (2 : Int) < (r.hs.length : Int) := by omega
      simp only [alrS, Bool.false_eq_true, ↓reduceIte]
      ((refine ggb0 (F := _∧_) ⟨c2, hdh⟩ ?_))
      ((repeat refine AW_seq ?_); (refine wta ?_); simp (disch := omega) only [retQ, resD, oneD, rsv, rs, rsL, rsL_eq_map, List.map_map, bb, bt, zDs, zD, eqCells, simprocAttr, Tryz.results57])
      rfl
    · simp only [alrS, ↓reduceIte]
      have hlen := facL_len r up (j + 1)
      generalize facL r up (j + 1) = W at *
      have hlw := frC_len W
      rw [hlen] at hlw
      have hfin : List.take ((j + 1) * 2) (frC W) = frC W := List.take_of_length_le (by omega)
      ((refine wqb (F := _∧_) ⟨c1, hdh⟩ ?_))
      ((refine wia ?_))
      ((refine wxa ?_))
      ((refine AW.freeze (3) (by first | rfl | (simp only [setH, List.getElem?_cons_zero, List.getElem?_cons_succ, fz_hd, fz_frS, hfin, hlw, Nat.le_refl]; done)) ?_); simp (disch := omega) only [fzT, fz, fzL, fzL_ints, fzL_mat, fzH, fzB, eq_self, bb, bt, zDs, zD, eqCells, simprocAttr, fz_hd, fz_frS, hfin, hlw, Nat.le_refl])
      ((refine gga0 ?_))
      ((repeat refine AW_seq ?_); (refine wta ?_); simp (disch := omega) only [retQ, resD, oneD, bb, bt, zDs, zD, eqCells, simprocAttr, Tryz.results57])
      exact rsv_tidy _ _ (by simp only [tidyD, tidyL, tidy_fr, Bool.not_false, Bool.and_self])
end Go.Proofs.YtpcakodemleoiaaGreat.T

