import Derived.Test.YtpcakodemleoiaaGreatHALPMQX
import Derived.Test.YtpcakodemleoiaaGreatHTB
import Derived.Test.YtpcakodemleoiaaGreatHWPJ
import Derived.Test.YtpcakodemleoiaaGreatHSNQMGI
import Derived.Test.YtpcakodemleoiaaGreatHLSJ
set_option linter.all false
namespace Go.Proofs.YtpcakodemleoiaaGreat.T
open Go Go.RowKit Lin
theorem unitC_set {n k : Nat} (hk : k < n) : (List.replicate n ((0 : Int), (1 : Int))).set k (1, 1) = unitC k n := by
 refine List.ext_getElem? fun i => ?_
 unfold unitC
 rw [List.getElem?_set, List.getElem?_map]
 by_cases hi : i < n
 ·by_cases hki : k = i
  ·subst hki
   simp [hi]
  ·have : ¬ i = k := fun h => hki h.symm
   simp [hi, hki, this]
 ·have h1 : n ≤ i := by omega
  have h2 : ¬ k = i := by omega
  simp [h1, h2]
theorem mot_uniq {s : Sy} (hv : Y0f s = true) {h : Nat} (hh : hix s = (h : Int)) : (∃ q, s.rs[h]? = some q ∧ q.hl = true) ∧ ∀ (k : Nat) (r : Rp), s.rs[k]? = some r → r.hl = true → k = h := by
 obtain ⟨i, q, hi, hq, hqh⟩ := Y80 (s := s) (by omega)
 have e : i = h := by omega
 subst e
 have hone : hauls s.rs ≤ 1 := by
  unfold Y0f at hv
  rw [Bool.and_eq_true, decide_eq_true_eq] at hv
  exact hv.2
 exact ⟨⟨q, hq, hqh⟩, fun k r hr hrl => Yav (p := fun r : Rp => r.hl) s.rs k i r q hone hr hq hrl hqh⟩
set_option maxRecDepth 100000 in
set_option maxHeartbeats 16000000 in
theorem motions14 (s : Sy) (hf : Fits s) (hv : Y0f s = true) {h : Nat} (hh : hix s = (h : Int)) : PRet Tryz.prog 82 [syD s, int h] (.tup [frss (Y1c s).1, int (Y1c s).2]) := by
 refine PRet.intro 1 fun t => ACall.enter tab_ok Tryz.func82 rfl rfl Tryz.ntmps82 (by simp) ?_
 simp only [Y06]
 have ok := Y1b hv
 have hb1 := ok.b1
 have hb6 := ok.b6
 have hr6 := ok.r6
 have hr1 := ok.r1
 have hdb := Y2k s.bs
 have hdr := Y1l s.rs
 have hw0 := Y2s 0
 have hw1 := Y2s 1
 obtain ⟨⟨q, hq, hqh⟩, huniq⟩ := mot_uniq hv hh
 have hhr := (List.getElem?_eq_some_iff.1 hq).1
 by_cases h1 : s.rs.length = 1
 ·have hfx : fixA s = [] := by
   cases hL : fixA s with
   | nil => rfl
   | cons a l =>
    have ha : a ∈ fixA s := by rw [hL]; simp
    have hal : a < s.rs.length := Y88 ha
    obtain ⟨r, hr⟩ : ∃ y, s.rs[a]? = some y := ⟨_, List.getElem?_eq_getElem hal⟩
    have hrl := (Ye9 hr).1 ha
    have e : a = h := by omega
    subst e
    rw [hq, Option.some.injEq] at hr
    subst hr
    rw [hqh] at hrl
    cases hrl
  have e : Y1c s = (unitL s.bs.length s.bs.length, 0) := by
   unfold Y1c
   rw [if_pos hv, if_pos hfx]
   rfl
  have c1 : ((s.rs.length : Int) == 1) = true := by rw [h1]; rfl
  rw [e]
  have hz0 : ∀ n, unitL n 0 = [] := fun n => rfl
  ((refine ggb0 (F := _∧_∧_) ⟨hdb, hdr, c1⟩ ?_))
  generalize hn : s.bs.length = n at *
  have hRep := Ydj 0 1 n (by omega) (by omega)
  rw [Y7p] at hRep
  refine AW.begin 7 1 28 rfl (by decide) ?_
  simp only [putTM, List.length_cons, List.length_nil, Nat.reduceEqDiff, ↓reduceIte, List.cons_append, List.nil_append]
  refine Y0j (fun x : Nat × Nat => ⟨[(7, .own 1 1 x.1 0 n)], [none, some ⟨28, x.1, (unitL n n).map frs⟩], x.2⟩) (fun _ => True) ?_ ?_
  ·refine Y04 ?_
   refine Y07 (fun x : Nat × Nat × Nat => ⟨[(6, int n), (7, .own 1 1 x.2.1 0 x.1), (23, int n), (24, int x.1)], [none, some ⟨28, x.2.1, (unitL n x.1).map frs⟩], x.2.2⟩) (fun x => n - x.1) (fun x => x.1 ≤ n) (0, t + 1 + 1, t + 1 + 1) (Nat.zero_le _) (by (simp (disch := omega) only [StLe, tmLe, Y03, hpLe, bl, bb, bt, zDs, zD, Y00, simprocAttr, hz0, List.map_nil])) ?_
   rintro ⟨k, g, tt⟩ hk
   simp only at hk
   have htl : (unitL n k).length = k := Y56 n k
   by_cases hlt : k < n
   ·have hset0 := Y50 (List.replicate n ((0 : Int), (1 : Int))) k 1 1 (by rw [List.length_replicate]; exact hlt)
    rw [unitC_set hlt] at hset0
    simp only [List.append_assoc, List.cons_append, List.nil_append] at hset0
    have hl0 := Y0o (List.replicate n ((0 : Int), (1 : Int)))
    rw [List.length_replicate] at hl0
    have hle0 : k * 2 + 2 ≤ n * 2 := by omega
    have hul := Y8x n k
    have hcl := Y7e k n
    have hfl2 : (frC (unitC k n)).length = n * 2 := by rw [Y0o, hcl]
    have hfin : List.take (n * 2) (frC (unitC k n)) = frC (unitC k n) := List.take_of_length_le (by omega)
    ((refine ggb0 (F := _∧_) ⟨@Int.ofNat_lt, hlt⟩ ?_))
    ((repeat refine Y01 ?_))
    refine Y04 ?_
    ((refine gga1 hw0 ?_))
    intro KR hKR
    ((first | refine Y0v fun KK hKK => ?_ | refine Y0c rfl fun KK hKK => ?_); simp (disch := omega) only [bb, bt, zDs, zD, Y00, simprocAttr, goC, Y0u, argsD, and_self]; refine ACall.of_fresh (hRep) (by first | (simp only [List.map_cons, List.map_nil, List.append_nil, List.nil_append, List.cons_append, ufa, uf]; done) | rfl) ?_; simp (disch := omega) only [bb, bt, zDs, zD, Y00, simprocAttr, Y1e]; refine hKK _ ?_; clear hKK KK)
    ((refine wra ?_)); ((refine wea ?_); (try clear hKR KR))
    ((repeat refine Y01 ?_); (refine Y05 tab_ok fun KR hKR => ?_)); ((refine wra ?_)); ((refine wka1 hw1 ?_)); ((refine wrb (F := _∧_∧_∧_) ⟨hl0, hlt, hle0, hset0⟩ ?_)); ((refine wea ?_); (try clear hKR KR))
    generalize unitC k n = U at *
    ((refine AW.freeze (2) (by first | rfl | (simp only [setH, List.getElem?_cons_zero, List.getElem?_cons_succ, Y2c, fz_bk, fz_rp, hfl2, hfin, Nat.le_refl]; done)) ?_); simp (disch := omega) only [fzT, fz, fzL, Y0d, Y0m, fzH, fzB, eq_self, bb, bt, zDs, zD, Y00, simprocAttr, Y2c, fz_bk, fz_rp, hfl2, hfin, Nat.le_refl])
    ((refine ggb0 htl ?_))
    refine ⟨(k + 1, tt + 1 + 1, tt + 1 + 1), hlt, by show n - (k + 1) < n - k; omega, ?_⟩
    simp only [hul, List.map_append, List.map_cons, List.map_nil]
    (simp (disch := omega) only [StLe, tmLe, Y03, hpLe, bl, bb, bt, zDs, zD, Y00, simprocAttr])
   ·have hke : k = n := by omega
    subst hke
    ((refine wqb @Int.lt_irrefl ?_))
    ((refine wia ?_))
    ((refine wxa ?_))
    exact ⟨(g, tt), trivial, by (simp (disch := omega) only [StLe, tmLe, Y03, hpLe, bl, bb, bt, zDs, zD, Y00, simprocAttr])⟩
  rintro ⟨g, tt⟩ -
  have htl : (unitL n n).length = n := Y56 n n
  generalize unitL n n = U at *
  have hfin : List.take n (U.map frs) = U.map frs := List.take_of_length_le (by simp [htl])
  ((refine AW.freeze (1) (by first | rfl | (simp only [setH, List.getElem?_cons_zero, List.getElem?_cons_succ, Y2c, hfin, htl, List.length_map, Nat.le_refl]; done)) ?_); simp (disch := omega) only [fzT, fz, fzL, Y0d, Y0m, fzH, fzB, eq_self, bb, bt, zDs, zD, Y00, simprocAttr, Y2c, hfin, htl, List.length_map, Nat.le_refl])
  ((refine gga0 ?_))
  ((repeat refine Y01 ?_); (refine wta ?_); simp (disch := omega) only [retQ, resD, oneD, bb, bt, zDs, zD, Y00, simprocAttr, Tryz.results82])
  exact Y2m _ _ (by simp only [tidyD, tidyL, Y58, Bool.not_false, Bool.and_self])
 have c1 : ((s.rs.length : Int) == 1) = false := by simp; omega
 have hM := matrix_prog s hf
 rw [hv] at hM
 simp only [if_true] at hM
 have hrow := ok.rows
 have ml := ok.mat_len
 have mw := ok.mat_wid
 have hz0 : fixP s.rs (-1) 0 = [] := rfl
 have hcol : ∀ i, i < s.rs.length → (trS s).getD i [] = colP (matS s) i := fun i h => Yd7 s h
 have hne : fixA s ≠ [] := by
  intro h0
  obtain ⟨k, hk, hkh⟩ : ∃ k, k < s.rs.length ∧ k ≠ h := by
   by_cases h00 : h = 0
   ·exact ⟨1, by omega, by omega⟩
   ·exact ⟨0, by omega, by omega⟩
  obtain ⟨r, hr⟩ : ∃ y, s.rs[k]? = some y := ⟨_, List.getElem?_eq_getElem hk⟩
  have hm := (Ye9 hr).2 (by
   cases hb : r.hl
   ·rfl
   ·exact absurd (huniq k r hr hb) hkh)
  rw [h0] at hm
  cases hm
 have e : Y1c s = nullP (rowsF s (fixA s)) := by simp [Y1c, hv, hne]
 obtain ⟨rv, rw', rm⟩ := Y3k ok hne (by have := Y3m s.rs (-1) s.rs.length; unfold fixA; omega) (fun i hi => Y88 hi)
 have hN := null (rowsF s (fixA s)) (by rw [Y2u]; have := Y3m s.rs (-1) s.rs.length; unfold fixA; omega) (fun r hr => by rw [(rm r hr).2]; omega)
 rw [e]
 generalize nullP (rowsF s (fixA s)) = Y at *
 unfold fixA at hN
 generalize hm : matS s = m at *
 ((refine ggb1 (F := _∧_∧_) ⟨hdb, hdr, c1⟩ hM ?_))
 refine AW.begin 12 1 126 rfl (by decide) ?_
 simp only [putTM, List.length_cons, List.length_nil, Nat.reduceEqDiff, ↓reduceIte, List.cons_append, List.nil_append]
 refine Y0j (fun x : Nat × Nat => ⟨[(12, .own 1 1 x.1 0 (fixP s.rs (-1) s.rs.length).length)], [none, some ⟨126, x.1, (rowsF s (fixP s.rs (-1) s.rs.length)).map ints⟩], x.2⟩) (fun _ => True) ?_ ?_
 ·refine Y04 ?_
  refine Y07 (fun x : Nat × Nat × Nat => ⟨[(1, int h), (6, int s.bs.length), (10, mat m), (12, .own 1 1 x.2.1 0 (fixP s.rs (-1) x.1).length), (51, int s.rs.length), (52, int x.1)], [none, some ⟨126, x.2.1, (rowsF s (fixP s.rs (-1) x.1)).map ints⟩], x.2.2⟩) (fun x => s.rs.length - x.1) (fun x => x.1 ≤ s.rs.length) (0, t + 1 + 1, t + 1 + 1) (Nat.zero_le _) (by (simp (disch := omega) only [StLe, tmLe, Y03, hpLe, bl, bb, bt, zDs, zD, Y00, simprocAttr, hz0, nums, rowsF, List.map_nil, List.length_nil])) ?_
  rintro ⟨k, g1, tt⟩ hk
  simp only at hk
  by_cases hlt : k < s.rs.length
  ·obtain ⟨r, hr⟩ : ∃ y, s.rs[k]? = some y := ⟨_, List.getElem?_eq_getElem hlt⟩
   have hst := Yc6 (but := -1) hr
   have hfl := Y3m s.rs (-1) k
   have hrl := Y2u s (fixP s.rs (-1) k)
   generalize fixP s.rs (-1) k = L at *
   ((refine ggb0 (F := _∧_) ⟨@Int.ofNat_lt, hlt⟩ ?_))
   ((repeat refine Y01 ?_))
   refine Y04 ?_
   by_cases hkh : k = h
   ·have e0 : ((k : Int) == (h : Int)) = true := by simp [hkh]
    have hrl1 : r.hl = true := by
     subst hkh
     rw [hq, Option.some.injEq] at hr
     rw [← hr]
     exact hqh
    rw [hrl1, Bool.not_true, Bool.false_and, if_neg (by simp)] at hst
    ((refine ggb0 e0 ?_))
    refine ⟨(k + 1, g1, tt), hlt, by show s.rs.length - (k + 1) < s.rs.length - k; omega, ?_⟩
    simp only [hst]
    (simp (disch := omega) only [StLe, tmLe, Y03, hpLe, bl, bb, bt, zDs, zD, Y00, simprocAttr])
   ·have e0 : ((k : Int) == (h : Int)) = false := by simp; omega
    have hrl0 : r.hl = false := by
     cases hb : r.hl
     ·rfl
     ·exact absurd (huniq k r hr hb) hkh
    have hk1 : (!((k : Int) == -1)) = true := by simp
    rw [hrl0, Bool.not_false, Bool.true_and, if_pos hk1] at hst
    ((refine ggb0 e0 ?_))
    refine AW.begin 14 1 3 rfl (by decide) ?_
    simp only [putTM, List.length_cons, List.length_nil, Nat.reduceEqDiff, ↓reduceIte, List.cons_append, List.nil_append]
    refine Y0j (fun x : Nat × Nat => ⟨[(1, int h), (6, int s.bs.length), (10, mat m), (12, .own 1 1 g1 0 L.length), (14, .own 1 2 x.1 0 m.length), (51, int s.rs.length), (52, int k)], [none, some ⟨126, g1, (rowsF s L).map ints⟩, some ⟨3, x.1, (colP m k).map int⟩], x.2⟩) (fun _ => True) ?_ ?_
    ·refine Y04 ?_
     refine Y07 (fun x : Nat × Nat × Nat => ⟨[(1, int h), (6, int s.bs.length), (10, mat m), (12, .own 1 1 g1 0 L.length), (13, int k), (14, .own 1 2 x.2.1 0 x.1), (51, int s.rs.length), (52, int k), (58, int s.bs.length), (59, int x.1)], [none, some ⟨126, g1, (rowsF s L).map ints⟩, some ⟨3, x.2.1, (colP (m.take x.1) k).map int⟩], x.2.2⟩) (fun x => m.length - x.1) (fun x => x.1 ≤ m.length) (0, tt + 1, tt + 1) (Nat.zero_le _) (by (simp (disch := omega) only [StLe, tmLe, Y03, hpLe, bl, bb, bt, zDs, zD, Y00, simprocAttr, colP])) ?_
     rintro ⟨j, g, t2⟩ hj
     simp only at hj
     by_cases hlj : j < m.length
     ·obtain ⟨q', hq'⟩ : ∃ y, m[j]? = some y := ⟨_, List.getElem?_eq_getElem hlj⟩
      have hql := (hrow q' (List.mem_of_getElem? hq')).1
      have hkr : k < q'.length := by omega
      obtain ⟨v, hv'⟩ : ∃ y, q'[k]? = some y := ⟨_, List.getElem?_eq_getElem hkr⟩
      have hct := Ycd hq' hv'
      have hcl : (colP (m.take j) k).length = j := by simp [colP]; omega
      have hlb : j < s.bs.length := by omega
      ((refine ggb0 (F := _∧_) ⟨@Int.ofNat_lt, hlb⟩ ?_))
      ((repeat refine Y01 ?_))
      refine Y04 ?_
      ((refine ggb0 (F := _∧_∧_∧_∧_) ⟨hlj, hq', hkr, hv', hcl⟩ ?_))
      refine ⟨(j + 1, t2 + 1, t2 + 1), hlj, by show m.length - (j + 1) < m.length - j; omega, ?_⟩
      simp only [hct, List.map_append, List.map_cons, List.map_nil]
      (simp (disch := omega) only [StLe, tmLe, Y03, hpLe, bl, bb, bt, zDs, zD, Y00, simprocAttr])
     ·have hje : j = m.length := by omega
      subst hje
      rw [List.take_length]
      have hnl : ¬ m.length < s.bs.length := by omega
      ((refine wqb (F := _∧_) ⟨@Int.ofNat_lt, hnl⟩ ?_))
      ((refine wia ?_))
      ((refine wxa ?_))
      exact ⟨(g, t2), trivial, by (simp (disch := omega) only [StLe, tmLe, Y03, hpLe, bl, bb, bt, zDs, zD, Y00, simprocAttr])⟩
    rintro ⟨g, t2⟩ -
    have hcl : (colP m k).length = m.length := by simp [colP]
    have hfin : List.take m.length ((colP m k).map int) = (colP m k).map int := List.take_of_length_le (by simp [hcl])
    have hro : rowsF s (L ++ [k]) = rowsF s L ++ [colP m k] := by unfold rowsF; rw [List.map_append, List.map_cons, List.map_nil, hcol k hlt]
    ((refine AW.freeze (2) (by first | rfl | (simp only [setH, List.getElem?_cons_zero, List.getElem?_cons_succ, Y0d, Y0m, hcl, hfin, List.length_map, Nat.le_refl]; done)) ?_); simp (disch := omega) only [fzT, fz, fzL, Y0d, Y0m, fzH, fzB, eq_self, bb, bt, zDs, zD, Y00, simprocAttr, Y0d, Y0m, hcl, hfin, List.length_map, Nat.le_refl])
    ((refine ggb0 hrl ?_))
    refine ⟨(k + 1, t2 + 1, t2 + 1), hlt, by show s.rs.length - (k + 1) < s.rs.length - k; omega, ?_⟩
    simp only [hst, hro, List.length_append, List.length_cons, List.length_nil, List.map_append, List.map_cons, List.map_nil]
    (simp (disch := omega) only [StLe, tmLe, Y03, hpLe, bl, bb, bt, zDs, zD, Y00, simprocAttr])
  ·have hke : k = s.rs.length := by omega
   subst hke
   ((refine wqb @Int.lt_irrefl ?_))
   ((refine wia ?_))
   ((refine wxa ?_))
   exact ⟨(g1, tt), trivial, by (simp (disch := omega) only [StLe, tmLe, Y03, hpLe, bl, bb, bt, zDs, zD, Y00, simprocAttr])⟩
 rintro ⟨g1, tt⟩ -
 have hrl := Y2u s (fixP s.rs (-1) s.rs.length)
 generalize fixP s.rs (-1) s.rs.length = L at *
 have hfin2 : List.take L.length ((rowsF s L).map ints) = (rowsF s L).map ints := List.take_of_length_le (by simp [rowsF])
 ((refine AW.freeze (1) (by first | rfl | (simp only [setH, List.getElem?_cons_zero, List.getElem?_cons_succ, Y0d, Y0m, hfin2, hrl, List.length_map, Nat.le_refl]; done)) ?_); simp (disch := omega) only [fzT, fz, fzL, Y0d, Y0m, fzH, fzB, eq_self, bb, bt, zDs, zD, Y00, simprocAttr, Y0d, Y0m, hfin2, hrl, List.length_map, Nat.le_refl])
 ((refine gga1 hN ?_))
 ((repeat refine Y01 ?_); (refine wta ?_); simp (disch := omega) only [retQ, resD, oneD, bb, bt, zDs, zD, Y00, simprocAttr, Tryz.results82])
 exact Y2m _ _ (by simp only [tidyD, tidyL, Y58, Bool.not_false, Bool.and_self])
end Go.Proofs.YtpcakodemleoiaaGreat.T

namespace Go.Proofs.YtpcakodemleoiaaGreat.T
open Go Go.RowKit Lin
def hauR (s : Sy) : Rp := s.rs.getD (hix s).toNat ⟨ByteArray.empty, [], false⟩
def loadP (s : Sy) : List (Int × Int) := s.bs.map fun b => (b.w, 1)
def prsP (s : Sy) (up : Bool) : (List (Int × Int) × List (Int × Int)) × Int := pairA (loadP s) (Y11 (hauR s) up s.bs []).1 (Y1c s).1 [] []
def Y0h (s : Sy) (up : Bool) : (Int × Int) × List (Int × Int) × Int :=
 if givL s = 0 then (if (Y1j (hauR s) up).2 = 0 then (if (Y11 (hauR s) up s.bs []).2 = 0 then (if (prsP s up).2 = 0 then ((balP (prsP s up).1.1 (prsP s up).1.2).1, (Y1j (hauR s) up).1, (balP (prsP s up).1.1 (prsP s up).1.2).2) else ((0, 0), [], (prsP s up).2)) else ((0, 0), [], (Y11 (hauR s) up s.bs []).2)) else ((0, 0), [], (Y1j (hauR s) up).2)) else ((0, 0), [], givL s)
theorem Y6a {r : Rp} {up : Bool} : ∀ (bs : List Bk) (acc : List (Int × Int)), (Y11 r up bs acc).2 = 0 → (Y11 r up bs acc).1.length = acc.length + bs.length
 | [], acc, _ => rfl
 | b :: l, acc, h => by
  simp only [Y11] at h ⊢
  split at h
  ·rename_i h0
   rw [if_pos h0, Y6a l _ h]
   simp
   omega
  ·rename_i h0
   exact absurd h h0
theorem Y9a {load grip x : List (Int × Int)} {L : List (List (Int × Int))} {k : Nat} (hx : L[k]? = some x) (w p : List (Int × Int)) : pairA load grip (L.drop k) w p = if (dotV x load (0, 1)).2 = 0 then (if (dotV x grip (0, 1)).2 = 0 then pairA load grip (L.drop (k + 1)) (w ++ [(dotV x load (0, 1)).1]) (p ++ [(dotV x grip (0, 1)).1]) else (([], []), (dotV x grip (0, 1)).2)) else (([], []), (dotV x load (0, 1)).2) := by
 rw [List.drop_eq_getElem_cons (List.getElem?_eq_some_iff.1 hx).1, (List.getElem?_eq_some_iff.1 hx).2]
 rfl
set_option maxRecDepth 100000 in
set_option maxHeartbeats 16000000 in
theorem first14 (s : Sy) (hf : Fits s) (up : Bool) : PRet Tryz.prog 41 [syD s, bool up] (.tup [frD (Y0h s up).1, frs (Y0h s up).2.1, int (Y0h s up).2.2]) := by
 refine PRet.intro 1 fun t => ACall.enter tab_ok Tryz.func41 rfl rfl Tryz.ntmps41 (by simp) ?_
 simp only [Y06]
 have hG := given14 s hf
 by_cases hg : givL s = 0
 rotate_left 1
 ·have e : Y0h s up = ((0, 0), [], givL s) := by unfold Y0h; rw [if_neg hg]
  rw [e]
  rw [if_neg hg] at hG
  have e1 : (givL s != 0) = true := by simpa using hg
  generalize givL s = E at *
  ((refine ggb1 e1 hG ?_))
  ((repeat refine Y01 ?_); (refine wta ?_); simp (disch := omega) only [retQ, resD, oneD, rsv, rs, rsL, Y02, List.map_map, bb, bt, zDs, zD, Y00, simprocAttr, Tryz.results41])
  rfl
 have hv : Y0f s = true := by
  cases hv : Y0f s
  ·unfold givL at hg
   rw [if_neg (by simp [hv])] at hg
   cases hg
  ·rfl
 have hix0 : ¬ hix s < 0 := by
  intro h
  unfold givL at hg
  rw [if_pos hv, if_pos h] at hg
  cases hg
 have ok := Y1b hv
 have hb6 := ok.b6
 have hr6 := ok.r6
 obtain ⟨i, r, hi, hr, _⟩ := Y80 hix0
 have ehr : hauR s = r := by unfold hauR; rw [hi, Int.toNat_natCast, List.getD_eq_getElem?_getD, hr]; rfl
 have hir := (List.getElem?_eq_some_iff.1 hr).1
 have hdr := Y1l s.rs
 have hdb := Y2k s.bs
 have hra := Y1s s.rs i r hr
 have hrm := List.mem_of_getElem? hr
 have hA := along14 r up (hf.sr r hrm).2
 have hMo := motions14 s hf hv hi
 have m0 : (Y1c s).2 = 0 := (Y42 s).2.2.2 hv
 obtain ⟨ml, mn, _⟩ := Y42 s
 rw [m0] at hMo
 rw [hg, if_pos rfl, hi] at hG
 unfold Y0h
 rw [if_pos hg, ehr]
 have ep : prsP s up = pairA (loadP s) (Y11 r up s.bs []).1 (Y1c s).1 [] [] := by unfold prsP; rw [ehr]
 rw [ep]
 by_cases ha : (Y1j r up).2 = 0
 rotate_left 1
 ·have e1 : ((Y1j r up).2 != 0) = true := by simpa using ha
  rw [if_neg ha]
  generalize Y1j r up = X at *
  ((refine ggb2 (F := _∧_∧_∧_) ⟨hir, hdr, hra, e1⟩ hG hA ?_))
  ((repeat refine Y01 ?_); (refine wta ?_); simp (disch := omega) only [retQ, resD, oneD, rsv, rs, rsL, Y02, List.map_map, bb, bt, zDs, zD, Y00, simprocAttr, Tryz.results41])
  rfl
 have hright : Y1m r = true := by
  cases h : Y1m r
  ·unfold Y1j at ha
   rw [if_neg (by simp [h])] at ha
   cases ha
  ·rfl
 have ea : Y1j r up = (facL r up (r.hs.length - 1), 0) := by unfold Y1j; rw [if_pos hright]
 have hGr := grips14 s r up hright (by omega) (fun h hh => ok.pulls r hrm h hh)
 rw [if_pos ha]
 rw [ea] at hA ⊢
 simp only at hA ⊢
 have hgl := Y6a (r := r) (up := up) s.bs []
 generalize Y11 r up s.bs [] = Gr at *
 generalize facL r up (r.hs.length - 1) = Fs at *
 by_cases hgr : Gr.2 = 0
 rotate_left 1
 ·have e1 : (Gr.2 != 0) = true := by simpa using hgr
  rw [if_neg hgr]
  ((refine ggb3 (F := _∧_∧_∧_) ⟨hir, hdr, hra, e1⟩ hG hA hGr ?_))
  ((repeat refine Y01 ?_); (refine wta ?_); simp (disch := omega) only [retQ, resD, oneD, rsv, rs, rsL, Y02, List.map_map, bb, bt, zDs, zD, Y00, simprocAttr, Tryz.results41])
  rfl
 have e1 : (Gr.2 != 0) = false := by simpa using hgr
 have hgl := hgl hgr
 rw [if_pos hgr]
 generalize (Y1c s).1 = L at *
 have hz : frC [] = [] := rfl
 ((refine ggb4 (F := _∧_∧_∧_∧_) ⟨hir, hdr, hra, e1, hdb⟩ hG hA hGr hMo ?_))
 have hll : (loadP s).length = s.bs.length := by simp [loadP]
 have hl0 : ∀ l : List Bk, frC ((l.take 0).map fun b => (b.w, (1 : Int))) = [] := fun l => rfl
 generalize hPP : pairA (loadP s) Gr.1 L [] [] = PP at *
 refine AW.begin 13 2 33 rfl (by decide) ?_
 simp only [putTM, List.length_cons, List.length_nil, Nat.reduceEqDiff, ↓reduceIte, List.cons_append, List.nil_append]
 refine Y0j (fun x : Nat × Nat => ⟨[(4, .ptr 1 (t + 1 + 1) 0), (10, frs Fs), (11, frs Gr.1), (12, frss L), (13, .own 2 3 x.1 0 s.bs.length)], [none, some ⟨33, t + 1 + 1, [int 0, int 0]⟩, none, some ⟨33, x.1, frC (loadP s)⟩], x.2⟩) (fun _ => True) ?_ ?_
 ·refine Y04 ?_
  refine Y07 (fun x : Nat × Nat × Nat => ⟨[(4, .ptr 1 (t + 1 + 1) 0), (10, frs Fs), (11, frs Gr.1), (12, frss L), (13, .own 2 3 x.2.1 0 x.1), (70, bks s.bs), (71, int s.bs.length), (72, int x.1)], [none, some ⟨33, t + 1 + 1, [int 0, int 0]⟩, none, some ⟨33, x.2.1, frC ((s.bs.take x.1).map fun b => (b.w, 1))⟩], x.2.2⟩) (fun x => s.bs.length - x.1) (fun x => x.1 ≤ s.bs.length) (0, t + 1 + 1 + 1 + 1, t + 1 + 1 + 1 + 1) (Nat.zero_le _) (by (simp (disch := omega) only [StLe, tmLe, Y03, hpLe, bl, bb, bt, zDs, zD, Y00, simprocAttr, hl0, hz, List.take_zero, List.map_nil])) ?_
  rintro ⟨k, g, tt⟩ hk
  simp only at hk
  by_cases hlt : k < s.bs.length
  ·obtain ⟨b, hb⟩ : ∃ y, s.bs[k]? = some y := ⟨_, List.getElem?_eq_getElem hlt⟩
   have hrb := Y4m s.bs k b hb
   have hw := Y2s b.w
   have hst : frC ((s.bs.take (k + 1)).map fun b => (b.w, (1 : Int))) = frC ((s.bs.take k).map fun b => (b.w, 1)) ++ [int b.w, int 1] := by
    rw [List.take_add_one, hb, Option.toList_some, List.map_append]
    simp [frC]
   have hlk := Y0o ((s.bs.take k).map fun b => (b.w, (1 : Int)))
   rw [List.length_map, List.length_take, Nat.min_eq_left hk] at hlk
   ((refine ggb0 (F := _∧_) ⟨@Int.ofNat_lt, hlt⟩ ?_))
   ((repeat refine Y01 ?_))
   refine Y04 ?_
   ((refine ggb1 (F := _∧_∧_∧_) ⟨hlt, hdb, hrb, hlk⟩ hw ?_))
   refine ⟨(k + 1, tt + 1 + 1, tt + 1 + 1), hlt, by show s.bs.length - (k + 1) < s.bs.length - k; omega, ?_⟩
   simp only [hst]
   (simp (disch := omega) only [StLe, tmLe, Y03, hpLe, bl, bb, bt, zDs, zD, Y00, simprocAttr])
  ·have hke : k = s.bs.length := by omega
   subst hke
   have hfull : frC ((s.bs.take s.bs.length).map fun b => (b.w, (1 : Int))) = frC (loadP s) := by rw [List.take_length]; rfl
   rw [hfull]
   ((refine wqb @Int.lt_irrefl ?_))
   ((refine wia ?_))
   ((refine wxa ?_))
   exact ⟨(g, tt), trivial, by (simp (disch := omega) only [StLe, tmLe, Y03, hpLe, bl, bb, bt, zDs, zD, Y00, simprocAttr])⟩
 rintro ⟨g0, t1⟩ -
 generalize loadP s = ld at *
 have hlw := Y0o ld
 rw [hll] at hlw
 have hfin : List.take (s.bs.length * 2) (frC ld) = frC ld := List.take_of_length_le (by omega)
 ((refine AW.freeze (3) (by first | rfl | (simp only [setH, List.getElem?_cons_zero, List.getElem?_cons_succ, fz_bk, fz_rp, Y2b, Y2c, hfin, hlw, Nat.le_refl]; done)) ?_); simp (disch := omega) only [fzT, fz, fzL, Y0d, Y0m, fzH, fzB, eq_self, bb, bt, zDs, zD, Y00, simprocAttr, fz_bk, fz_rp, Y2b, Y2c, hfin, hlw, Nat.le_refl])
 ((refine gga0 ?_))
 refine AW.begin 16 2 33 rfl (by decide) ?_
 simp only [putTM, List.length_cons, List.length_nil, Nat.reduceEqDiff, ↓reduceIte, List.cons_append, List.nil_append]
 refine AW.begin 17 2 33 rfl (by decide) ?_
 simp only [putTM, List.length_cons, List.length_nil, Nat.reduceEqDiff, ↓reduceIte, List.cons_append, List.nil_append]
 refine Y0j (fun x : Nat × Nat × Nat => ⟨[(4, .ptr 1 (t + 1 + 1) 0), (10, frs Fs), (16, .own 2 4 x.1 0 L.length), (17, .own 2 5 x.2.1 0 L.length)], [none, some ⟨33, t + 1 + 1, [int 0, int 0]⟩, none, none, some ⟨33, x.1, frC PP.1.1⟩, some ⟨33, x.2.1, frC PP.1.2⟩], x.2.2⟩) (fun _ => PP.2 = 0 ∧ PP.1.1.length = L.length ∧ PP.1.2.length = L.length) ?_ ?_
 ·refine Y04 ?_
  refine Y07 (fun x : List (Int × Int) × List (Int × Int) × Nat × Nat × Nat × Nat => ⟨[(4, .ptr 1 (t + 1 + 1) 0), (10, frs Fs), (11, frs Gr.1), (13, frs ld), (16, .own 2 4 x.2.2.2.1 0 x.2.2.1), (17, .own 2 5 x.2.2.2.2.1 0 x.2.2.1), (83, frss L), (84, int L.length), (85, int x.2.2.1)], [none, some ⟨33, t + 1 + 1, [int 0, int 0]⟩, none, none, some ⟨33, x.2.2.2.1, frC x.1⟩, some ⟨33, x.2.2.2.2.1, frC x.2.1⟩], x.2.2.2.2.2⟩) (fun x => L.length - x.2.2.1) (fun x => x.2.2.1 ≤ L.length ∧ x.1.length = x.2.2.1 ∧ x.2.1.length = x.2.2.1 ∧ pairA ld Gr.1 (L.drop x.2.2.1) x.1 x.2.1 = PP) ([], [], 0, t1 + 1, t1 + 1 + 1, t1 + 1 + 1) ⟨Nat.zero_le _, rfl, rfl, hPP⟩ (by (simp (disch := omega) only [StLe, tmLe, Y03, hpLe, bl, bb, bt, zDs, zD, Y00, simprocAttr, hz])) ?_
  rintro ⟨w, p, k, g1, g2, tt⟩ ⟨hk, hwl, hpl, hd⟩
  simp only at hk hwl hpl hd
  by_cases hlt : k < L.length
  ·obtain ⟨v, hvk⟩ : ∃ y, L[k]? = some y := ⟨_, List.getElem?_eq_getElem hlt⟩
   have hvl := ml v (List.mem_of_getElem? hvk)
   have hS1 := sum14 v ld (by omega) (by omega)
   have hS2 := sum14 v Gr.1 (by rw [hgl, List.length_nil]; omega) (by rw [hgl, List.length_nil]; omega)
   rw [Y9a hvk] at hd
   generalize dotV v ld (0, 1) = A at *
   generalize dotV v Gr.1 (0, 1) = B at *
   ((refine ggb0 (F := _∧_) ⟨@Int.ofNat_lt, hlt⟩ ?_))
   ((repeat refine Y01 ?_))
   refine Y04 ?_
   by_cases ha0 : A.2 = 0
   rotate_left 1
   ·have ea : (A.2 != 0) = true := by simpa using ha0
    rw [if_neg ha0] at hd
    rw [← hd, if_neg ha0]
    ((refine ggb1 (F := _∧_∧_) ⟨hlt, hvk, ea⟩ hS1 ?_))
    ((repeat refine Y01 ?_); (refine wta ?_); simp (disch := omega) only [retQ, resD, oneD, rsv, rs, rsL, Y02, List.map_map, bb, bt, zDs, zD, Y00, simprocAttr, Tryz.results41])
    rfl
   have ea : (A.2 != 0) = false := by simpa using ha0
   rw [if_pos ha0] at hd
   by_cases hb0 : B.2 = 0
   rotate_left 1
   ·have eb : (B.2 != 0) = true := by simpa using hb0
    rw [if_neg hb0] at hd
    rw [← hd, if_neg hb0]
    ((refine ggb2 (F := _∧_∧_∧_) ⟨hlt, hvk, ea, eb⟩ hS1 hS2 ?_))
    ((repeat refine Y01 ?_); (refine wta ?_); simp (disch := omega) only [retQ, resD, oneD, rsv, rs, rsL, Y02, List.map_map, bb, bt, zDs, zD, Y00, simprocAttr, Tryz.results41])
    rfl
   have eb : (B.2 != 0) = false := by simpa using hb0
   rw [if_pos hb0] at hd
   have hap1 : frC w ++ [int A.1.1, int A.1.2] = frC (w ++ [A.1]) := by simp [frC]
   have hap2 : frC p ++ [int B.1.1, int B.1.2] = frC (p ++ [B.1]) := by simp [frC]
   have hlw1 := Y0o w
   rw [hwl] at hlw1
   have hlp1 := Y0o p
   rw [hpl] at hlp1
   ((refine ggb2 (F := _∧_∧_∧_) ⟨hlt, hvk, ea, eb⟩ hS1 hS2 ?_))
   ((repeat refine Y01 ?_); (refine gdzb (F := _∧_∧_∧_) ⟨hap1, hap2, hlw1, hlp1⟩ ?_))
   ((refine gga0 ?_))
   refine ⟨(w ++ [A.1], p ++ [B.1], k + 1, tt + 1 + 1 + 1, tt + 1 + 1 + 1, tt + 1 + 1 + 1), ⟨hlt, by simp [hwl], by simp [hpl], hd⟩, by show L.length - (k + 1) < L.length - k; omega, ?_⟩
   (simp (disch := omega) only [StLe, tmLe, Y03, hpLe, bl, bb, bt, zDs, zD, Y00, simprocAttr])
  ·have hke : k = L.length := by omega
   subst hke
   have hde : pairA ld Gr.1 (L.drop L.length) w p = ((w, p), 0) := by rw [List.drop_eq_nil_of_le (Nat.le_refl _)]; try rfl
   rw [hde] at hd
   subst hd
   ((refine wqb @Int.lt_irrefl ?_))
   ((refine wia ?_))
   ((refine wxa ?_))
   exact ⟨(g1, g2, tt), ⟨rfl, hwl, hpl⟩, by (simp (disch := omega) only [StLe, tmLe, Y03, hpLe, bl, bb, bt, zDs, zD, Y00, simprocAttr])⟩
 rintro ⟨g1, g2, tt⟩ ⟨hP0, hP1, hP2⟩
 rw [if_pos hP0]
 have hB := balance14 PP.1.1 PP.1.2 (by omega) (by omega)
 obtain ⟨⟨w, p⟩, pe⟩ := PP
 simp only at *
 generalize balP w p = Z at *
 have hlw1 := Y0o w
 rw [hP1] at hlw1
 have hlp1 := Y0o p
 rw [hP2] at hlp1
 have hf1 : List.take (L.length * 2) (frC w) = frC w := List.take_of_length_le (by omega)
 have hf2 : List.take (L.length * 2) (frC p) = frC p := List.take_of_length_le (by omega)
 ((refine AW.freeze (4) (by first | rfl | (simp only [setH, List.getElem?_cons_zero, List.getElem?_cons_succ, Y2b, hf1, hlw1, Nat.le_refl]; done)) ?_); simp (disch := omega) only [fzT, fz, fzL, Y0d, Y0m, fzH, fzB, eq_self, bb, bt, zDs, zD, Y00, simprocAttr, Y2b, hf1, hlw1, Nat.le_refl])
 ((refine AW.freeze (5) (by first | rfl | (simp only [setH, List.getElem?_cons_zero, List.getElem?_cons_succ, Y2b, hf2, hlp1, Nat.le_refl]; done)) ?_); simp (disch := omega) only [fzT, fz, fzL, Y0d, Y0m, fzH, fzB, eq_self, bb, bt, zDs, zD, Y00, simprocAttr, Y2b, hf2, hlp1, Nat.le_refl])
 ((refine gga1 hB ?_))
 ((repeat refine Y01 ?_); (refine wta ?_); simp (disch := omega) only [retQ, resD, oneD, bb, bt, zDs, zD, Y00, simprocAttr, Tryz.results41])
 exact Y2m _ _ (by simp only [tidyD, tidyL, Y7f, Bool.not_false, Bool.and_self])
def Y0b (s : Sy) (up : Bool) : (Int × Int) × Int := if (Y0h s up).2.2 = 0 then mulP (Y0h s up).1 ((Y0h s up).2.1.getD ((Y0h s up).2.1.length - 1) (0, 0)) else ((0, 0), (Y0h s up).2.2)
theorem first_len {s : Sy} {up : Bool} (h : (Y0h s up).2.2 = 0) : 1 ≤ (Y0h s up).2.1.length ∧ (Y0h s up).2.1.length ≤ 9 := by
 unfold Y0h at h ⊢
 split at h
 ·rename_i h1
  rw [if_pos h1]
  split at h
  ·rename_i h2
   rw [if_pos h2]
   split at h
   ·rename_i h3
    rw [if_pos h3]
    split at h
    ·rename_i h4
     rw [if_pos h4]
     simp only
     have hr : Y1m (hauR s) = true := by
      cases hr : Y1m (hauR s)
      ·unfold Y1j at h2
       rw [if_neg (by simp [hr])] at h2
       cases h2
      ·rfl
     unfold Y1j
     rw [if_pos hr]
     simp only
     rw [Y33]
     have := Y1y hr
     omega
    ·rename_i h4; exact absurd h h4
   ·rename_i h3; exact absurd h h3
  ·rename_i h2; exact absurd h h2
 ·rename_i h1; exact absurd h h1
set_option maxHeartbeats 4000000 in
theorem Yfv (s : Sy) (hf : Fits s) (up : Bool) : PRet Tryz.prog 42 [syD s, bool up] (fe (Y0b s up)) := by
 refine PRet.intro 1 fun t => ACall.enter tab_ok Tryz.func42 rfl rfl Tryz.ntmps42 (by simp) ?_
 simp only [Y06]
 have hF := first14 s hf up
 have hl := first_len (s := s) (up := up)
 unfold Y0b
 generalize Y0h s up = X at *
 obtain ⟨f, l, e⟩ := X
 simp only at *
 by_cases h0 : e = 0
 rotate_left 1
 ·have e1 : (e != 0) = true := by simpa using h0
  rw [if_neg h0]
  ((refine ggb1 e1 hF ?_))
  ((repeat refine Y01 ?_); (refine wta ?_); simp (disch := omega) only [retQ, resD, oneD, rsv, rs, rsL, Y02, List.map_map, bb, bt, zDs, zD, Y00, simprocAttr, Tryz.results42])
 subst h0
 obtain ⟨l1, l9⟩ := hl rfl
 rw [if_pos rfl]
 obtain ⟨x, hx⟩ : ∃ y, l[l.length - 1]? = some y := ⟨_, List.getElem?_eq_getElem (by omega)⟩
 have hr := Y0p l (l.length - 1) x hx
 have hd := Y2q l
 have hs : (l.length : Int) - 1 = ((l.length - 1 : Nat) : Int) := by omega
 have hlt : l.length - 1 < l.length := by omega
 rw [List.getD_eq_getElem?_getD, hx, Option.getD_some]
 have hM := rMul f x
 generalize mulP f x = M at *
 ((refine gga1 hF ?_))
 ((repeat refine Y01 ?_); (refine gdzb1 (F := _∧_∧_∧_) ⟨hd, hs, hlt, hr⟩ hM ?_))
 ((refine gga0 ?_))
 ((repeat refine Y01 ?_); (refine wta ?_); simp (disch := omega) only [retQ, resD, oneD, rsv, rs, rsL, Y02, List.map_map, bb, bt, zDs, zD, Y00, simprocAttr, Tryz.results42])
theorem Yah (s : Sy) (hf : Fits s) : PRet Tryz.prog 12 [syD s] (fe (Y0b s true)) := by
 refine PRet.intro 1 fun t => ACall.enter tab_ok Tryz.func12 rfl rfl Tryz.ntmps12 (by simp) ?_
 simp only [Y06]
 have hF := Yfv s hf true
 generalize Y0b s true = M at *
 ((refine gga1 hF ?_))
 ((repeat refine Y01 ?_); (refine wta ?_); simp (disch := omega) only [retQ, resD, oneD, rsv, rs, rsL, Y02, List.map_map, bb, bt, zDs, zD, Y00, simprocAttr, Tryz.results12])
theorem Yfm (s : Sy) (hf : Fits s) : PRet Tryz.prog 13 [syD s] (fe (Y0b s false)) := by
 refine PRet.intro 1 fun t => ACall.enter tab_ok Tryz.func13 rfl rfl Tryz.ntmps13 (by simp) ?_
 simp only [Y06]
 have hF := Yfv s hf false
 generalize Y0b s false = M at *
 ((refine gga1 hF ?_))
 ((repeat refine Y01 ?_); (refine wta ?_); simp (disch := omega) only [retQ, resD, oneD, rsv, rs, rsL, Y02, List.map_map, bb, bt, zDs, zD, Y00, simprocAttr, Tryz.results13])
end Go.Proofs.YtpcakodemleoiaaGreat.T

namespace Go.Proofs.YtpcakodemleoiaaGreat.T
open Go Go.RowKit Lin
theorem cells14_hd (l : List Hd) : (hdC l).all Y1u = true := by
 induction l with
 | nil => rfl
 | cons x r ih => simp only [hdC, List.flatMap_cons, List.all_append, Bool.and_eq_true] at ih ⊢; exact ⟨rfl, ih⟩
set_option maxHeartbeats 1000000 in
theorem clone14_hd_ (x : Hd) (r : List Hd) (hl : r.length ≤ 1000) : PFresh Tryz.prog 65 [hds (x :: r)] 43 4 (r.length + 1) (hdC (x :: r)) := by
 refine PFresh.intro (Y6w _) fun t => ACall.enter tab_ok Tryz.func65 rfl rfl Tryz.ntmps65 (by simp) ?_
 simp only [Y06]
 have f2 : hdC (x :: r) = str x.b :: int x.p :: int x.n :: int x.d :: hdC r := rfl
 have hcl := cells14_hd r
 have hld := Y2a (x :: r)
 have hll := Y29 (x :: r)
 have f1 : hds (x :: r) = .sl 4 (str x.b :: int x.p :: int x.n :: int x.d :: hdC r) false := rfl
 rw [f2] at hld hll
 rw [f1, f2]
 simp only [List.length_cons] at hll hld
 ((refine wqa ?_))
 ((refine wqa ?_))
 ((refine wia ?_))
 ((refine wsa ?_))
 ((repeat refine Y01 ?_); (refine Y05 tab_ok fun KR hKR => ?_); (repeat ((first | refine Y0r rfl fun KK hKK => ?_ | refine Y0s rfl rfl fun KK hKK => ?_ | refine Y0c rfl fun KK hKK => ?_); simp (disch := omega) only [bb, bt, zDs, zD, Y00, simprocAttr, Y1h, hcl, hld]; refine hKK _ ?_; clear hKK KK)); (refine Y0g ?_); (refine hKR _ ?_); (try clear hKR KR); (repeat (with_reducible first | refine q1 ?_ | refine q2 ?_ | refine q3 ?_ | refine q4 ?_ | refine q5 ?_ | refine q6 ?_ | (refine q7 ?_ ?_; (focus (with_unfolding_all rfl))))))
 ((repeat refine Y01 ?_); (refine wta ?_); simp (disch := omega) only [retQ, resD, oneD, rsv, rs, rsL, Y02, List.map_map, bb, bt, zDs, zD, Y00, simprocAttr, Tryz.results65])
 exact .inr ⟨0, t + 1, rfl, rfl⟩
theorem clone14_hd (l : List Hd) (h0 : 1 ≤ l.length) (hl : l.length ≤ 1000) : PFresh Tryz.prog 65 [hds l] 43 4 l.length (hdC l) := by
 cases l with
 | nil => simp at h0
 | cons x r => exact clone14_hd_ x r (by simp at hl; omega)
theorem cells14_rp (l : List Rp) : (rpC l).all Y1u = true := by
 induction l with
 | nil => rfl
 | cons x r ih => simp only [rpC, List.flatMap_cons, List.all_append, Bool.and_eq_true] at ih ⊢; exact ⟨rfl, ih⟩
set_option maxHeartbeats 1000000 in
theorem clone14_rp_ (x : Rp) (r : List Rp) (hl : r.length ≤ 1000) : PFresh Tryz.prog 64 [rps (x :: r)] 39 3 (r.length + 1) (rpC (x :: r)) := by
 refine PFresh.intro (Y5j _) fun t => ACall.enter tab_ok Tryz.func64 rfl rfl Tryz.ntmps64 (by simp) ?_
 simp only [Y06]
 have f2 : rpC (x :: r) = str x.nm :: hds x.hs :: bool x.hl :: rpC r := rfl
 have hcl := cells14_rp r
 have hld := Y1l (x :: r)
 have hll := Y23 (x :: r)
 have f1 : rps (x :: r) = .sl 3 (str x.nm :: hds x.hs :: bool x.hl :: rpC r) false := rfl
 rw [f2] at hld hll
 rw [f1, f2]
 simp only [List.length_cons] at hll hld
 ((refine wqa ?_))
 ((refine wqa ?_))
 ((refine wia ?_))
 ((refine wsa ?_))
 ((repeat refine Y01 ?_); (refine Y05 tab_ok fun KR hKR => ?_); (repeat ((first | refine Y0r rfl fun KK hKK => ?_ | refine Y0s rfl rfl fun KK hKK => ?_ | refine Y0c rfl fun KK hKK => ?_); simp (disch := omega) only [bb, bt, zDs, zD, Y00, simprocAttr, Y1h, hcl, hld]; refine hKK _ ?_; clear hKK KK)); (refine Y0g ?_); (refine hKR _ ?_); (try clear hKR KR); (repeat (with_reducible first | refine q1 ?_ | refine q2 ?_ | refine q3 ?_ | refine q4 ?_ | refine q5 ?_ | refine q6 ?_ | (refine q7 ?_ ?_; (focus (with_unfolding_all rfl))))))
 ((repeat refine Y01 ?_); (refine wta ?_); simp (disch := omega) only [retQ, resD, oneD, rsv, rs, rsL, Y02, List.map_map, bb, bt, zDs, zD, Y00, simprocAttr, Tryz.results64])
 exact .inr ⟨0, t + 1, rfl, rfl⟩
theorem clone14_rp (l : List Rp) (h0 : 1 ≤ l.length) (hl : l.length ≤ 1000) : PFresh Tryz.prog 64 [rps l] 39 3 l.length (rpC l) := by
 cases l with
 | nil => simp at h0
 | cons x r => exact clone14_rp_ x r (by simp at hl; omega)
theorem cells14_bk (l : List Bk) : (bkC l).all Y1u = true := by
 induction l with
 | nil => rfl
 | cons x r ih => simp only [bkC, List.flatMap_cons, List.all_append, Bool.and_eq_true] at ih ⊢; exact ⟨rfl, ih⟩
set_option maxHeartbeats 1000000 in
theorem clone14_bk_ (x : Bk) (r : List Bk) (hl : r.length ≤ 1000) : PFresh Tryz.prog 63 [bks (x :: r)] 45 2 (r.length + 1) (bkC (x :: r)) := by
 refine PFresh.intro (Y4f _) fun t => ACall.enter tab_ok Tryz.func63 rfl rfl Tryz.ntmps63 (by simp) ?_
 simp only [Y06]
 have f2 : bkC (x :: r) = str x.nm :: int x.w :: bkC r := rfl
 have hcl := cells14_bk r
 have hld := Y2k (x :: r)
 have hll := Y2w (x :: r)
 have f1 : bks (x :: r) = .sl 2 (str x.nm :: int x.w :: bkC r) false := rfl
 rw [f2] at hld hll
 rw [f1, f2]
 simp only [List.length_cons] at hll hld
 ((refine wqa ?_))
 ((refine wqa ?_))
 ((refine wia ?_))
 ((refine wsa ?_))
 ((repeat refine Y01 ?_); (refine Y05 tab_ok fun KR hKR => ?_); (repeat ((first | refine Y0r rfl fun KK hKK => ?_ | refine Y0s rfl rfl fun KK hKK => ?_ | refine Y0c rfl fun KK hKK => ?_); simp (disch := omega) only [bb, bt, zDs, zD, Y00, simprocAttr, Y1h, hcl, hld]; refine hKK _ ?_; clear hKK KK)); (refine Y0g ?_); (refine hKR _ ?_); (try clear hKR KR); (repeat (with_reducible first | refine q1 ?_ | refine q2 ?_ | refine q3 ?_ | refine q4 ?_ | refine q5 ?_ | refine q6 ?_ | (refine q7 ?_ ?_; (focus (with_unfolding_all rfl))))))
 ((repeat refine Y01 ?_); (refine wta ?_); simp (disch := omega) only [retQ, resD, oneD, rsv, rs, rsL, Y02, List.map_map, bb, bt, zDs, zD, Y00, simprocAttr, Tryz.results63])
 exact .inr ⟨0, t + 1, rfl, rfl⟩
theorem clone14_bk (l : List Bk) (h0 : 1 ≤ l.length) (hl : l.length ≤ 1000) : PFresh Tryz.prog 63 [bks l] 45 2 l.length (bkC l) := by
 cases l with
 | nil => simp at h0
 | cons x r => exact clone14_bk_ x r (by simp at hl; omega)
def effP (s : Sy) : (Int × Int) × Int := if (Y0b s true).2 = 0 then (if (Y0b (Y3q s) true).2 = 0 then divP (Y0b (Y3q s) true).1 (Y0b s true).1 else ((0, 0), (Y0b (Y3q s) true).2)) else ((0, 0), (Y0b s true).2)
def clR (l : List Rp) (k : Nat) : List Rp := (l.take k).map Y3f ++ l.drop k
def clH (l : List Hd) (k : Nat) : List Hd := (l.take k).map Y6p ++ l.drop k
theorem clR_len (l : List Rp) (k : Nat) (h : k ≤ l.length) : (clR l k).length = l.length := by simp [clR]; omega
theorem Yb2 (l : List Hd) (k : Nat) (h : k ≤ l.length) : (clH l k).length = l.length := by simp [clH]; omega
theorem clR_zero (l : List Rp) : clR l 0 = l := by simp [clR]
theorem Yb1 (l : List Hd) : clH l 0 = l := by simp [clH]
theorem clR_end (l : List Rp) : clR l l.length = l.map Y3f := by simp [clR]
theorem Yga (l : List Hd) : clH l l.length = l.map Y6p := by simp [clH]
theorem Ygy {l : List Hd} {i : Nat} {h : Hd} (hx : l[i]? = some h) (a b : Int) : (hdC l).take (i * 4 + 2) ++ int a :: int b :: (hdC l).drop (i * 4 + 4) = hdC (l.set i ⟨h.b, h.p, a, b⟩) := by
 have h1 := hdC_set l i ⟨h.b, h.p, a, b⟩ (List.getElem?_eq_some_iff.1 hx).1
 have h2 := Y28 l i h hx
 have h3 : ((hdC l).drop (i * 4)).take 2 = [str h.b, int h.p] := by
  have := congrArg (List.take 2) h2
  rw [List.take_take] at this
  simpa using this
 rw [← h1, List.take_add, h3]
 simp
theorem rpC_hs {l : List Rp} {i : Nat} {r : Rp} (h : l[i]? = some r) (hs : List Hd) : (rpC l).set (i * 3 + 1) (hds hs) = rpC (l.set i ⟨r.nm, hs, r.hl⟩) := by
 have h1 := rpC_set l i ⟨r.nm, hs, r.hl⟩ (List.getElem?_eq_some_iff.1 h).1
 have hl := Y23 l
 have hi := (List.getElem?_eq_some_iff.1 h).1
 have h2 := Y1s l i r h
 rw [← h1]
 have e : rpC l = (rpC l).take (i * 3) ++ ([str r.nm, hds r.hs, bool r.hl] ++ (rpC l).drop (i * 3 + 3)) := by
  have : [str r.nm, hds r.hs, bool r.hl] = ((rpC l).drop (i * 3)).take 3 := h2.symm
  rw [this, ← List.drop_drop, List.take_append_drop, List.take_append_drop]
 have hlt : ((rpC l).take (i * 3)).length = i * 3 := by simp; omega
 conv => lhs; rw [e]
 rw [List.set_append_right _ _ (by omega), hlt, show i * 3 + 1 - i * 3 = 1 by omega]
 simp
theorem clR_at {h : List Rp} {x : Rp} {k : Nat} (hx : h[k]? = some x) : (clR h k)[k]? = some x := by
 have hk := (List.getElem?_eq_some_iff.1 hx).1
 unfold clR
 rw [List.getElem?_append_right (by simp; omega)]
 simp only [List.length_map, List.length_take]
 rw [List.getElem?_drop, Nat.min_eq_left (by omega), Nat.sub_self, Nat.add_zero, hx]
theorem clR_set {h : List Rp} {x : Rp} {k : Nat} (hx : h[k]? = some x) : (clR h k).set k (Y3f x) = clR h (k + 1) := by
 have hk := (List.getElem?_eq_some_iff.1 hx).1
 have hl : ((h.take k).map Y3f).length = k := by simp; omega
 unfold clR
 rw [List.set_append_right _ _ (by omega), hl, Nat.sub_self, List.take_add_one, hx, Option.toList_some, List.map_append, List.append_assoc, List.drop_eq_getElem_cons hk]
 rfl
theorem Yh5 {h : List Hd} {x : Hd} {k : Nat} (hx : h[k]? = some x) : (clH h k)[k]? = some x := by
 have hk := (List.getElem?_eq_some_iff.1 hx).1
 unfold clH
 rw [List.getElem?_append_right (by simp; omega)]
 simp only [List.length_map, List.length_take]
 rw [List.getElem?_drop, Nat.min_eq_left (by omega), Nat.sub_self, Nat.add_zero, hx]
theorem Yg9 {h : List Hd} {x : Hd} {k : Nat} (hx : h[k]? = some x) : (clH h k).set k (Y6p x) = clH h (k + 1) := by
 have hk := (List.getElem?_eq_some_iff.1 hx).1
 have hl : ((h.take k).map Y6p).length = k := by simp; omega
 unfold clH
 rw [List.set_append_right _ _ (by omega), hl, Nat.sub_self, List.take_add_one, hx, Option.toList_some, List.map_append, List.append_assoc, List.drop_eq_getElem_cons hk]
 rfl
theorem Y87 {s : Sy} {up : Bool} (h : (Y0b s up).2 = 0) : Y0f s = true := by
 cases hv : Y0f s
 ·have hg : givL s = 1 := by unfold givL; rw [if_neg (by simp [hv])]
  have hf : (Y0h s up).2.2 = 1 := by unfold Y0h; rw [if_neg (by rw [hg]; decide), hg]
  unfold Y0b at h
  rw [if_neg (by rw [hf]; decide), hf] at h
  cases h
 ·rfl
theorem Y9w {s : Sy} (hf : Fits s) : Fits (Y3q s) := ⟨hf.nb, by simpa [Y3q] using hf.nr, hf.sb, fun r hr => by
 obtain ⟨q, hq, rfl⟩ := List.mem_map.1 hr
 exact ⟨(hf.sr q hq).1, by simpa [Y3f] using (hf.sr q hq).2⟩⟩
set_option maxRecDepth 100000 in
set_option maxHeartbeats 16000000 in
theorem eff14 (s : Sy) (hf : Fits s) : PRet Tryz.prog 27 [syD s] (fe (effP s)) := by
 refine PRet.intro 1 fun t => ACall.enter tab_ok Tryz.func27 rfl rfl Tryz.ntmps27 (by simp) ?_
 simp only [Y06]
 have hR := Yah s hf
 have hC := Yah (Y3q s) (Y9w hf)
 unfold effP
 by_cases h0 : (Y0b s true).2 = 0
 rotate_left 1
 ·have e1 : ((Y0b s true).2 != 0) = true := by simpa using h0
  rw [if_neg h0]
  generalize Y0b s true = X at *
  ((refine ggb1 e1 hR ?_))
  ((repeat refine Y01 ?_); (refine wta ?_); simp (disch := omega) only [retQ, resD, oneD, rsv, rs, rsL, Y02, List.map_map, bb, bt, zDs, zD, Y00, simprocAttr, Tryz.results27])
 rw [if_pos h0]
 have e1 : ((Y0b s true).2 != 0) = false := by simpa using h0
 have hv := Y87 h0
 have ok := Y1b hv
 have hb6 := ok.b6
 have hr6 := ok.r6
 have hdr := Y1l s.rs
 have hlr := Y23 s.rs
 have hlb := Y2w s.bs
 generalize Y0b s true = X at *
 ((refine ggb1 e1 hR ?_))
 ((repeat refine Y01 ?_); (refine Y0a tab_ok Y08 3 fun KR hKR => ?_); simp only [List.replicate_succ, List.replicate_zero, List.append_nil, List.nil_append, List.cons_append, List.length_cons, List.length_nil, Nat.reduceAdd])
 ((refine wda ?_))
 ((first | refine Y19 fun KK hKK => ?_ | refine Y1a rfl fun KK hKK => ?_); simp (disch := omega) only [bb, bt, zDs, zD, Y00, simprocAttr, goCDS, Y0e, argsZ, argsD, ufa, uf]; refine PGive.fresh (3) (clone14_bk s.bs ok.b1 (by omega)) ?_ ?_; (focus (first | omega | (simp (disch := omega) only [List.length_cons, List.length_nil, List.length_append]; done) | (simp (disch := omega) only [List.length_cons, List.length_nil, List.length_append]; omega))); simp (disch := omega) only [bb, bt, zDs, zD, Y00, simprocAttr, Y0x]; refine hKK _ _ _ ?_; clear hKK KK)
 ((refine wda ?_))
 ((first | refine Y19 fun KK hKK => ?_ | refine Y1a rfl fun KK hKK => ?_); simp (disch := omega) only [bb, bt, zDs, zD, Y00, simprocAttr, goCDS, Y0e, argsZ, argsD, ufa, uf]; refine PGive.fresh (4) (clone14_rp s.rs ok.r1 (by omega)) ?_ ?_; (focus (first | omega | (simp (disch := omega) only [List.length_cons, List.length_nil, List.length_append]; done) | (simp (disch := omega) only [List.length_cons, List.length_nil, List.length_append]; omega))); simp (disch := omega) only [bb, bt, zDs, zD, Y00, simprocAttr, Y0x]; refine hKK _ _ _ ?_; clear hKK KK)
 ((refine wda ?_))
 ((refine Y0n ?_); simp only [List.reverse_cons, List.reverse_nil, List.nil_append, List.cons_append]; (refine hKR _ _ (by first | rfl | kernel_rfl) ?_); (try clear hKR KR); (repeat (with_reducible first | refine q1 ?_ | refine q2 ?_ | refine q3 ?_ | refine q4 ?_ | refine q5 ?_ | refine q6 ?_ | (refine q7 ?_ ?_; (focus (with_unfolding_all rfl))))))
 have hfb : List.take (s.bs.length * 2) (bkC s.bs) = bkC s.bs := List.take_of_length_le (by omega)
 ((refine AW.freeze (3) (by first | rfl | (simp only [setH, List.getElem?_cons_zero, List.getElem?_cons_succ, fz_bk, fz_rp, hfb, hlb, Nat.le_refl]; done)) ?_); simp (disch := omega) only [fzT, fz, fzL, Y0d, Y0m, fzH, fzB, eq_self, bb, bt, zDs, zD, Y00, simprocAttr, fz_bk, fz_rp, hfb, hlb, Nat.le_refl])
 ((refine gga0 ?_))
 have hw1 := Y2s 1
 have hz := clR_zero s.rs
 ((repeat refine Y01 ?_))
 refine Y0j (fun x : Nat => ⟨[(2, .ptr 1 (t + 1 + 1) 0), (4, .ptr 2 (t + 1 + 1 + 1) 0), (6, .ptr 5 (t + 1 + 1 + 1 + 1) 0)], [none, some ⟨33, t + 1 + 1, [int 0, int 0]⟩, some ⟨33, t + 1 + 1 + 1, [int X.1.1, int X.1.2]⟩, none, some ⟨39, t + 1 + 1 + 1 + 1, rpC (clR s.rs s.rs.length)⟩, some ⟨25, t + 1 + 1 + 1 + 1, [bks s.bs, .own 3 4 (t + 1 + 1 + 1 + 1) 0 s.rs.length]⟩], x⟩) (fun _ => True) ?_ ?_
 ·refine Y04 ?_
  refine Y07 (fun x : Nat × Nat => ⟨[(2, .ptr 1 (t + 1 + 1) 0), (4, .ptr 2 (t + 1 + 1 + 1) 0), (6, .ptr 5 (t + 1 + 1 + 1 + 1) 0), (29, .own 3 4 (t + 1 + 1 + 1 + 1) 0 s.rs.length), (30, int s.rs.length), (31, int x.1)], [none, some ⟨33, t + 1 + 1, [int 0, int 0]⟩, some ⟨33, t + 1 + 1 + 1, [int X.1.1, int X.1.2]⟩, none, some ⟨39, t + 1 + 1 + 1 + 1, rpC (clR s.rs x.1)⟩, some ⟨25, t + 1 + 1 + 1 + 1, [bks s.bs, .own 3 4 (t + 1 + 1 + 1 + 1) 0 s.rs.length]⟩], x.2⟩) (fun x => s.rs.length - x.1) (fun x => x.1 ≤ s.rs.length) (0, t + 1 + 1 + 1 + 1) (Nat.zero_le _) (by (simp (disch := omega) only [StLe, tmLe, Y03, hpLe, bl, bb, bt, zDs, zD, Y00, simprocAttr, hz])) ?_
  rintro ⟨k, tt⟩ hk
  simp only at hk
  by_cases hlt : k < s.rs.length
  ·obtain ⟨r, hr⟩ : ∃ y, s.rs[k]? = some y := ⟨_, List.getElem?_eq_getElem hlt⟩
   have hat := clR_at hr
   have hra := Y1s _ k r hat
   have hlk := Y23 (clR s.rs k)
   rw [clR_len _ _ hk] at hlk
   have hhold := ok.holds r (List.mem_of_getElem? hr)
   have hset := rpC_hs hat (r.hs.map Y6p)
   have hnx : rpC ((clR s.rs k).set k ⟨r.nm, r.hs.map Y6p, r.hl⟩) = rpC (clR s.rs (k + 1)) := by rw [← clR_set hr]; rfl
   rw [hnx] at hset
   have hz2 := Yb1 r.hs
   have hdh := Y2a r.hs
   ((refine ggb0 (F := _∧_) ⟨@Int.ofNat_lt, hlt⟩ ?_))
   ((repeat refine Y01 ?_))
   refine Y04 ?_
   ((refine ggb0 (F := _∧_∧_) ⟨hlt, hlk, hra⟩ ?_))
   intro KR hKR
   ((first | refine Y0v fun KK hKK => ?_ | refine Y0c rfl fun KK hKK => ?_); simp (disch := omega) only [bb, bt, zDs, zD, Y00, simprocAttr, goC, Y0u, argsD, and_self]; refine ACall.of_fresh (clone14_hd r.hs (by omega) (by omega)) (by first | (simp only [List.map_cons, List.map_nil, List.append_nil, List.nil_append, List.cons_append, ufa, uf]; done) | rfl) ?_; simp (disch := omega) only [bb, bt, zDs, zD, Y00, simprocAttr, Y1e]; refine hKK _ ?_; clear hKK KK)
   ((refine wra ?_)); ((refine wea ?_); (try clear hKR KR))
   ((refine gga0 ?_))
   ((repeat refine Y01 ?_))
   refine Y0j (fun x : Nat => ⟨[(2, .ptr 1 (t + 1 + 1) 0), (4, .ptr 2 (t + 1 + 1 + 1) 0), (6, .ptr 5 (t + 1 + 1 + 1 + 1) 0), (29, .own 3 4 (t + 1 + 1 + 1 + 1) 0 s.rs.length), (30, int s.rs.length), (31, int k), (7, int k), (9, .own 4 7 (tt + 1 + 1) 0 r.hs.length)], [none, some ⟨33, t + 1 + 1, [int 0, int 0]⟩, some ⟨33, t + 1 + 1 + 1, [int X.1.1, int X.1.2]⟩, none, some ⟨39, t + 1 + 1 + 1 + 1, rpC (clR s.rs k)⟩, some ⟨25, t + 1 + 1 + 1 + 1, [bks s.bs, .own 3 4 (t + 1 + 1 + 1 + 1) 0 s.rs.length]⟩, none, some ⟨43, tt + 1 + 1, hdC (clH r.hs r.hs.length)⟩], x⟩) (fun _ => True) ?_ ?_
   ·refine Y04 ?_
    refine Y07 (fun x : Nat × Nat => ⟨[(2, .ptr 1 (t + 1 + 1) 0), (4, .ptr 2 (t + 1 + 1 + 1) 0), (6, .ptr 5 (t + 1 + 1 + 1 + 1) 0), (29, .own 3 4 (t + 1 + 1 + 1 + 1) 0 s.rs.length), (30, int s.rs.length), (31, int k), (7, int k), (9, .own 4 7 (tt + 1 + 1) 0 r.hs.length), (40, int r.hs.length), (41, int x.1)], [none, some ⟨33, t + 1 + 1, [int 0, int 0]⟩, some ⟨33, t + 1 + 1 + 1, [int X.1.1, int X.1.2]⟩, none, some ⟨39, t + 1 + 1 + 1 + 1, rpC (clR s.rs k)⟩, some ⟨25, t + 1 + 1 + 1 + 1, [bks s.bs, .own 3 4 (t + 1 + 1 + 1 + 1) 0 s.rs.length]⟩, none, some ⟨43, tt + 1 + 1, hdC (clH r.hs x.1)⟩], x.2⟩) (fun x => r.hs.length - x.1) (fun x => x.1 ≤ r.hs.length) (0, tt + 1 + 1) (Nat.zero_le _) (by (simp (disch := omega) only [StLe, tmLe, Y03, hpLe, bl, bb, bt, zDs, zD, Y00, simprocAttr, hz2])) ?_
    rintro ⟨j, t2⟩ hj
    simp only at hj
    by_cases hlj : j < r.hs.length
    ·obtain ⟨h, hh⟩ : ∃ y, r.hs[j]? = some y := ⟨_, List.getElem?_eq_getElem hlj⟩
     have hl4 := Y29 (clH r.hs j)
     rw [Yb2 _ _ hj] at hl4
     have hs4 := Ygy (Yh5 hh) 1 1
     have hn4 : hdC ((clH r.hs j).set j ⟨h.b, h.p, 1, 1⟩) = hdC (clH r.hs (j + 1)) := by rw [← Yg9 hh]; rfl
     rw [hn4] at hs4
     have hle4 : j * 4 + 4 ≤ r.hs.length * 4 := by omega
     ((refine ggb0 (F := _∧_) ⟨@Int.ofNat_lt, hlj⟩ ?_))
     ((repeat refine Y01 ?_))
     refine Y04 ?_
     ((refine ggb1 (F := _∧_∧_∧_) ⟨hlj, hl4, hs4, hle4⟩ hw1 ?_))
     refine ⟨(j + 1, t2), hlj, by show r.hs.length - (j + 1) < r.hs.length - j; omega, ?_⟩
     (simp (disch := omega) only [StLe, tmLe, Y03, hpLe, bl, bb, bt, zDs, zD, Y00, simprocAttr])
    ·have hje : j = r.hs.length := by omega
     subst hje
     ((refine wqb @Int.lt_irrefl ?_))
     ((refine wia ?_))
     ((refine wxa ?_))
     exact ⟨t2, trivial, by (simp (disch := omega) only [StLe, tmLe, Y03, hpLe, bl, bb, bt, zDs, zD, Y00, simprocAttr])⟩
   rintro t2 -
   have hfh : List.take (r.hs.length * 4) (hdC (clH r.hs r.hs.length)) = hdC (clH r.hs r.hs.length) := List.take_of_length_le (by rw [Y29, Yb2 _ _ (Nat.le_refl _)]; exact Nat.le_refl _)
   have hlh : (hdC (clH r.hs r.hs.length)).length = r.hs.length * 4 := by rw [Y29, Yb2 _ _ (Nat.le_refl _)]
   rw [Yga] at hfh hlh ⊢
   ((refine AW.freeze (7) (by first | rfl | (simp only [setH, List.getElem?_cons_zero, List.getElem?_cons_succ, fz_bk, fz_rp, fz_hd, hfh, hlh, Nat.le_refl]; done)) ?_); simp (disch := omega) only [fzT, fz, fzL, Y0d, Y0m, fzH, fzB, eq_self, bb, bt, zDs, zD, Y00, simprocAttr, fz_bk, fz_rp, fz_hd, hfh, hlh, Nat.le_refl])
   ((refine ggb0 (F := _∧_∧_) ⟨hlt, hlk, hset⟩ ?_))
   refine ⟨(k + 1, t2), hlt, by show s.rs.length - (k + 1) < s.rs.length - k; omega, ?_⟩
   (simp (disch := omega) only [StLe, tmLe, Y03, hpLe, bl, bb, bt, zDs, zD, Y00, simprocAttr])
  ·have hke : k = s.rs.length := by omega
   subst hke
   ((refine wqb @Int.lt_irrefl ?_))
   ((refine wia ?_))
   ((refine wxa ?_))
   exact ⟨tt, trivial, by (simp (disch := omega) only [StLe, tmLe, Y03, hpLe, bl, bb, bt, zDs, zD, Y00, simprocAttr])⟩
 rintro tt -
 rw [clR_end]
 have hlc := Y23 (s.rs.map Y3f)
 rw [List.length_map] at hlc
 have hfc : List.take (s.rs.length * 3) (rpC (s.rs.map Y3f)) = rpC (s.rs.map Y3f) := List.take_of_length_le (by omega)
 ((refine AW.freeze (4) (by first | rfl | (simp only [setH, List.getElem?_cons_zero, List.getElem?_cons_succ, fz_bk, fz_rp, hfc, hlc, Nat.le_refl]; done)) ?_); simp (disch := omega) only [fzT, fz, fzL, Y0d, Y0m, fzH, fzB, eq_self, bb, bt, zDs, zD, Y00, simprocAttr, fz_bk, fz_rp, hfc, hlc, Nat.le_refl])
 generalize Y0b (Y3q s) true = Y at *
 have hC : PRet Tryz.prog 12 [.agg [bks s.bs, rps (s.rs.map Y3f)]] (fe Y) := hC
 have hD := rDiv Y.1 X.1
 by_cases hy : Y.2 = 0
 rotate_left 1
 ·have e2 : (Y.2 != 0) = true := by simpa using hy
  rw [if_neg hy]
  ((refine ggb1 e2 hC ?_))
  ((repeat refine Y01 ?_); (refine wta ?_); simp (disch := omega) only [retQ, resD, oneD, rsv, rs, rsL, Y02, List.map_map, bb, bt, zDs, zD, Y00, simprocAttr, Tryz.results27])
 have e2 : (Y.2 != 0) = false := by simpa using hy
 rw [if_pos hy]
 generalize divP Y.1 X.1 = Z at *
 ((refine ggb2 e2 hC hD ?_))
 ((repeat refine Y01 ?_); (refine wta ?_); simp (disch := omega) only [retQ, resD, oneD, rsv, rs, rsL, Y02, List.map_map, bb, bt, zDs, zD, Y00, simprocAttr, Tryz.results27])
end Go.Proofs.YtpcakodemleoiaaGreat.T

namespace Go.Proofs.YtpcakodemleoiaaGreat.T
open Go Go.RowKit Lin
end Go.Proofs.YtpcakodemleoiaaGreat.T

namespace Go.Proofs.YtpcakodemleoiaaGreat.T
open Go Go.RowKit Lin
theorem Yf8 (a b : Int × Int) (ha : vfrac a.1 a.2 = true) (hb : vfrac b.1 b.2 = true) : PRet Tryz.prog 68 [frD a, frD b] (fe (divR a b)) := by
 obtain ⟨a1, a2, a3, a4, a5⟩ := Y09 ha
 obtain ⟨b1, b2, b3, b4, b5⟩ := Y09 hb
 obtain ⟨n, d⟩ := a
 obtain ⟨u, v⟩ := b
 simp only at *
 have s1 := Y17 n (by omega)
 have s2 := Y17 u (by omega)
 have s3 := Y17 d (by omega)
 have s4 := Y17 v (by omega)
 have m1 := Y3w n.natAbs v.natAbs (by omega)
 have m2 := Y3w d.natAbs u.natAbs (by omega)
 have c1 : n.natAbs * v.natAbs ≤ 1152921504606846976 * 1152921504606846976 := Nat.mul_le_mul (by omega) (by omega)
 have c2 : d.natAbs * u.natAbs ≤ 1152921504606846976 * 1152921504606846976 := Nat.mul_le_mul (by omega) (by omega)
 have hm := made (n.natAbs * v.natAbs) (decide (n < 0) != decide (u < 0)) (d.natAbs * u.natAbs) (by omega) (by omega)
 have e : divR (n, d) (u, v) = madeP (n.natAbs * v.natAbs) (decide (n < 0) != decide (u < 0)) (d.natAbs * u.natAbs) := rfl
 rw [e]
 generalize madeP (n.natAbs * v.natAbs) (decide (n < 0) != decide (u < 0)) (d.natAbs * u.natAbs) = r at *
 refine PRet.intro 2 fun t => ACall.enter tab_ok Tryz.func68 rfl rfl Tryz.ntmps68 (by simp) ?_
 simp only [Y06]
 ((refine gga0 ?_))
 ((repeat refine Y01 ?_); (refine gdza7 s1 s2 s3 s4 m1 m2 hm ?_))
 ((repeat refine Y01 ?_); (refine wta ?_); simp (disch := omega) only [retQ, resD, oneD, rsv, rs, rsL, Y02, List.map_map, bb, bt, zDs, zD, Y00, simprocAttr, Tryz.results68])
end Go.Proofs.YtpcakodemleoiaaGreat.T

namespace Go.Proofs.YtpcakodemleoiaaGreat.T
open Go Go.RowKit Lin
def alrS (r : Rp) (up : Bool) (t : Nat) (x : Bool × Nat × Nat × Nat) : St :=
 if x.1 = true then ⟨[(1, bool up), (2, .ptr 0 (t + 1) 0), (5, .own 2 3 x.2.2.1 0 x.2.1), (6, int x.2.1)], [some ⟨39, t + 1, rp1 r⟩, none, none, some ⟨33, x.2.2.1, frC (facL r up x.2.1)⟩], x.2.2.2⟩
 else ⟨[(1, bool up), (2, .ptr 0 (t + 1) 0), (5, .sl 2 [int 1, int 1] true), (6, int 1)], [some ⟨39, t + 1, rp1 r⟩], x.2.2.2⟩
set_option maxRecDepth 100000 in
set_option maxHeartbeats 16000000 in
theorem Yci (r : Rp) (up : Bool) (hr : Y1m r = true) : PRet Tryz.prog 57 [.agg (rp1 r), bool up] (frs (facL r up (r.hs.length - 1))) := by
 refine PRet.intro 1 fun t => ACall.enter tab_ok Tryz.func57 rfl rfl Tryz.ntmps57 (by simp) ?_
 simp only [Y06]
 have hdh := Y2a r.hs
 have o1 := refOf 1
 obtain ⟨n2, n10⟩ := Y1y hr
 have hf1 := Yec r up
 ((refine gga1 o1 ?_))
 ((repeat refine Y01 ?_))
 refine Y04 ?_
 refine Y07 (alrS r up t) (fun x => r.hs.length - x.2.1) (fun x => 1 ≤ x.2.1 ∧ x.2.1 ≤ r.hs.length - 1 ∧ (x.1 = false → x.2.1 = 1) ∧ (x.1 = true → 2 ≤ x.2.1)) (false, 1, t, t + 1) ⟨Nat.le_refl _, (by show (1 : Nat) ≤ r.hs.length - 1; omega), fun _ => rfl, fun h => (by cases h)⟩ (by simp only [alrS, Bool.false_eq_true, ↓reduceIte]; (simp (disch := omega) only [StLe, tmLe, Y03, hpLe, bl, bb, bt, zDs, zD, Y00, simprocAttr])) ?_
 rintro ⟨o, k, g, tt⟩ ⟨hk1, hk, ho1, ho2⟩
 simp only at hk1 hk ho1 ho2
 obtain ⟨j, rfl⟩ : ∃ j, k = j + 1 := ⟨k - 1, by omega⟩
 by_cases hlt : j + 1 < r.hs.length - 1
 ·obtain ⟨x, hx⟩ : ∃ y, r.hs[j + 1]? = some y := ⟨_, List.getElem?_eq_getElem (by omega)⟩
  have hra := Y28 r.hs (j + 1) x hx
  have hrl : ((hdC r.hs).drop ((j + 1) * 4 + 2)).take 2 = [int x.n, int x.d] := by
   have h := congrArg (fun l => (l.drop 2).take 2) hra
   simp only [List.drop_take, List.drop_drop] at h
   simpa [List.take_take] using h
  have hlo := Y1z (Y3b hr hx)
  have hls : ∀ i h, 1 ≤ i → i ≤ j → r.hs[i]? = some h → lossy h.n h.d = true := fun i h _ hi hh => Y1z (Y3b hr hh)
  obtain ⟨n1, n3, n4⟩ := Yc8 (hs := r.hs) (up := up) (k := j) (by omega) hls hx hlo
  have hfv := (Y52 (up := up) j (by omega) hls).v
  have hlv := (Y5q hlo).v
  have hM := Y5h (facK r.hs up j) (x.n, x.d) hfv hlv
  have hD := Yf8 (facK r.hs up j) (x.n, x.d) hfv hlv
  rw [n1] at hM
  rw [n3] at hD
  have hat := Y8b r up (k := j + 1) (i := j) (by omega)
  have hrf := Y0p (facL r up (j + 1)) j _ hat
  have hll := Y0o (facL r up (j + 1))
  rw [Y33] at hll
  have hll2 : (frC (facL r up (j + 1))).length / 2 = j + 1 := by omega
  have hdv : ((j + 1) * 2 + 2) / 2 = j + 1 + 1 := by omega
  have hsub : ((j + 1 : Nat) : Int) - 1 = (j : Int) := by omega
  have hpu := Yc7 r up (j + 1)
  have hap : frC (facL r up (j + 1)) ++ [int (facK r.hs up (j + 1)).1, int (facK r.hs up (j + 1)).2] = frC (facL r up (j + 1 + 1)) := by rw [hpu]; simp [frC]
  have hj1 : j < j + 1 := by omega
  have hjn : j + 1 < r.hs.length := by omega
  have c1 : ((j + 1 : Nat) : Int) + 1 < (r.hs.length : Int) := by omega
  rw [n4] at hap
  generalize (mulR (facK r.hs up j) (x.n, x.d)).1 = A at *
  generalize (divR (facK r.hs up j) (x.n, x.d)).1 = B at *
  cases o
  ·have hj0 : j = 0 := by have := ho1 rfl; omega
   have hfe : frC (facL r up (j + 1)) = [int 1, int 1] := by rw [hj0]; exact hf1
   rw [hfe] at hrf hap
   have hap := hap.symm
   simp only [List.cons_append, List.nil_append] at hap
   subst hj0
   simp only [alrS, Bool.false_eq_true, ↓reduceIte]
   have hrl1 : ((hdC r.hs).drop 6).take 2 = [int x.n, int x.d] := by simpa using hrl
   have hjn1 : 1 < r.hs.length := by omega
   have c2 : (2 : Int) < (r.hs.length : Int) := by omega
   cases up
   ·have hS : PRet Tryz.prog 68 [frD (1, 1), frD (x.n, x.d)] (fe (B, 0)) := hD
    have hap2 : frC (facL r false 2) = [int 1, int 1, int B.1, int B.2] := hap
    ((refine ggb0 (F := _∧_) ⟨c2, hdh⟩ ?_))
    ((repeat refine Y01 ?_))
    refine Y04 ?_
    ((refine gga0 ?_))
    ((repeat refine Y01 ?_); (refine gdob1 (F := _∧_∧_) ⟨hjn1, hdh, hrl1⟩ hS ?_))
    ((refine gga0 ?_))
    refine ⟨(true, 2, tt + 1 + 1 + 1, tt + 1 + 1 + 1), ⟨(by show 1 ≤ 2; omega), (by show 2 ≤ r.hs.length - 1; omega), fun h => (by cases h), fun _ => Nat.le_refl _⟩, by show r.hs.length - 2 < r.hs.length - 1; omega, ?_⟩
    simp only [alrS, ↓reduceIte, hap2]
    (simp (disch := omega) only [StLe, tmLe, Y03, hpLe, bl, bb, bt, zDs, zD, Y00, simprocAttr])
   ·have hS : PRet Tryz.prog 58 [frD (1, 1), frD (x.n, x.d)] (fe (A, 0)) := hM
    have hap2 : frC (facL r true 2) = [int 1, int 1, int A.1, int A.2] := hap
    ((refine ggb0 (F := _∧_) ⟨c2, hdh⟩ ?_))
    ((repeat refine Y01 ?_))
    refine Y04 ?_
    ((refine gga0 ?_))
    ((repeat refine Y01 ?_); (refine gdob1 (F := _∧_∧_) ⟨hjn1, hdh, hrl1⟩ hS ?_))
    ((refine gga0 ?_))
    refine ⟨(true, 2, tt + 1 + 1 + 1, tt + 1 + 1 + 1), ⟨(by show 1 ≤ 2; omega), (by show 2 ≤ r.hs.length - 1; omega), fun h => (by cases h), fun _ => Nat.le_refl _⟩, by show r.hs.length - 2 < r.hs.length - 1; omega, ?_⟩
    simp only [alrS, ↓reduceIte, hap2]
    (simp (disch := omega) only [StLe, tmLe, Y03, hpLe, bl, bb, bt, zDs, zD, Y00, simprocAttr])
  ·simp only [alrS, ↓reduceIte]
   cases up
   ·simp only [Bool.false_eq_true, ↓reduceIte] at hap
    ((refine ggb0 (F := _∧_) ⟨c1, hdh⟩ ?_))
    ((repeat refine Y01 ?_))
    refine Y04 ?_
    ((refine ggb0 (F := _∧_∧_∧_∧_) ⟨hll, hll2, hsub, hj1, hrf⟩ ?_))
    ((repeat refine Y01 ?_); (refine gdob1 (F := _∧_∧_∧_) ⟨hjn, hdh, hra, hrl⟩ hD ?_))
    ((refine ggb0 (F := _∧_∧_∧_) ⟨hap, hll, hll2, hdv⟩ ?_))
    refine ⟨(true, j + 1 + 1, tt + 1 + 1 + 1, tt + 1 + 1 + 1), ⟨(by show 1 ≤ j + 1 + 1; omega), (by show j + 1 + 1 ≤ r.hs.length - 1; omega), fun h => (by cases h), fun _ => (by show 2 ≤ j + 1 + 1; omega)⟩, by show r.hs.length - (j + 1 + 1) < r.hs.length - (j + 1); omega, ?_⟩
    simp only [alrS, ↓reduceIte]
    (simp (disch := omega) only [StLe, tmLe, Y03, hpLe, bl, bb, bt, zDs, zD, Y00, simprocAttr])
   ·simp only [↓reduceIte] at hap
    ((refine ggb0 (F := _∧_) ⟨c1, hdh⟩ ?_))
    ((repeat refine Y01 ?_))
    refine Y04 ?_
    ((refine ggb0 (F := _∧_∧_∧_∧_) ⟨hll, hll2, hsub, hj1, hrf⟩ ?_))
    ((repeat refine Y01 ?_); (refine gdob1 (F := _∧_∧_∧_) ⟨hjn, hdh, hra, hrl⟩ hM ?_))
    ((refine ggb0 (F := _∧_∧_∧_) ⟨hap, hll, hll2, hdv⟩ ?_))
    refine ⟨(true, j + 1 + 1, tt + 1 + 1 + 1, tt + 1 + 1 + 1), ⟨(by show 1 ≤ j + 1 + 1; omega), (by show j + 1 + 1 ≤ r.hs.length - 1; omega), fun h => (by cases h), fun _ => (by show 2 ≤ j + 1 + 1; omega)⟩, by show r.hs.length - (j + 1 + 1) < r.hs.length - (j + 1); omega, ?_⟩
    simp only [alrS, ↓reduceIte]
    (simp (disch := omega) only [StLe, tmLe, Y03, hpLe, bl, bb, bt, zDs, zD, Y00, simprocAttr])
 ·have hke : j + 1 = r.hs.length - 1 := by omega
  have c1 : ¬ ((j + 1 : Nat) : Int) + 1 < (r.hs.length : Int) := by omega
  rw [← hke]
  cases o
  ·have hj0 : j = 0 := by have := ho1 rfl; omega
   subst hj0
   have c2 : ¬ (2 : Int) < (r.hs.length : Int) := by omega
   simp only [alrS, Bool.false_eq_true, ↓reduceIte]
   ((refine ggb0 (F := _∧_) ⟨c2, hdh⟩ ?_))
   ((repeat refine Y01 ?_); (refine wta ?_); simp (disch := omega) only [retQ, resD, oneD, rsv, rs, rsL, Y02, List.map_map, bb, bt, zDs, zD, Y00, simprocAttr, Tryz.results57])
   rfl
  ·simp only [alrS, ↓reduceIte]
   have hlen := Y33 r up (j + 1)
   generalize facL r up (j + 1) = W at *
   have hlw := Y0o W
   rw [hlen] at hlw
   have hfin : List.take ((j + 1) * 2) (frC W) = frC W := List.take_of_length_le (by omega)
   ((refine wqb (F := _∧_) ⟨c1, hdh⟩ ?_))
   ((refine wia ?_))
   ((refine wxa ?_))
   ((refine AW.freeze (3) (by first | rfl | (simp only [setH, List.getElem?_cons_zero, List.getElem?_cons_succ, fz_hd, Y2b, hfin, hlw, Nat.le_refl]; done)) ?_); simp (disch := omega) only [fzT, fz, fzL, Y0d, Y0m, fzH, fzB, eq_self, bb, bt, zDs, zD, Y00, simprocAttr, fz_hd, Y2b, hfin, hlw, Nat.le_refl])
   ((refine gga0 ?_))
   ((repeat refine Y01 ?_); (refine wta ?_); simp (disch := omega) only [retQ, resD, oneD, bb, bt, zDs, zD, Y00, simprocAttr, Tryz.results57])
   exact Y2m _ _ (by simp only [tidyD, tidyL, Y7f, Bool.not_false, Bool.and_self])
end Go.Proofs.YtpcakodemleoiaaGreat.T

