import Derived.Test.YtifmgjieplmbnaaSNO
import Derived.Test.YtifmgjieplmbnaaSKM
set_option linter.all false
section
namespace Go.Proofs.Ytifmgjieplmbnaa.T
open Go Go.RowKit Lin
set_option linter.unusedSimpArgs false

/-! The residuals. -/
def resA (l : List (Int × Int)) : List (List Int) → List Int → List (Int × Int) → List (Int × Int) × Int
  | r :: m, w :: ws, acc => if (dotF r l (0, 1)).2 = 0 then (if (subP (w, 1) (dotF r l (0, 1)).1).2 = 0 then resA l m ws (acc ++ [(subP (w, 1) (dotF r l (0, 1)).1).1]) else ([], (subP (w, 1) (dotF r l (0, 1)).1).2)) else ([], (dotF r l (0, 1)).2)
  | _, _, acc => (acc, 0)
theorem resA_step {l : List (Int × Int)} {m : List (List Int)} {ws : List Int} {k : Nat} {r : List Int} {w : Int} (hr : m[k]? = some r) (hw : ws[k]? = some w) (acc : List (Int × Int)) : resA l (m.drop k) (ws.drop k) acc = if (dotF r l (0, 1)).2 = 0 then (if (subP (w, 1) (dotF r l (0, 1)).1).2 = 0 then resA l (m.drop (k + 1)) (ws.drop (k + 1)) (acc ++ [(subP (w, 1) (dotF r l (0, 1)).1).1]) else ([], (subP (w, 1) (dotF r l (0, 1)).1).2)) else ([], (dotF r l (0, 1)).2) := by
  obtain ⟨a1, a2⟩ := List.getElem?_eq_some_iff.1 hr
  obtain ⟨b1, b2⟩ := List.getElem?_eq_some_iff.1 hw
  rw [List.drop_eq_getElem_cons a1, List.drop_eq_getElem_cons b1, a2, b2]
  rfl
def resP (s : Sy) (l : List (Int × Int)) : List (Int × Int) × Int := if givE s l = 0 then resA l (matS s) (wtsS s) [] else ([], givE s l)
theorem dotF_valid : ∀ {r : List Int} {x : List (Int × Int)} {s : Int × Int}, (∀ n ∈ r, -1000 ≤ n ∧ n ≤ 1000) → allV x = true → vfrac s.1 s.2 = true → (dotF r x s).2 = 0 → vfrac (dotF r x s).1.1 (dotF r x s).1.2 = true
  | [], x, s, _, _, hs, _ => by cases x <;> exact hs
  | n :: r, [], s, _, _, hs, _ => hs
  | n :: r, f :: x, s, hr, hx, hs, h => by
    have hvf : vfrac f.1 f.2 = true := allV_at (k := 0) hx rfl
    have hx' : allV x = true := by unfold allV at hx ⊢; simp only [List.all_cons, Bool.and_eq_true] at hx; exact hx.2
    have hp := plusP_valid hs hvf (hr n (by simp))
    have e := dotF_plus (r := n :: r) (x := f :: x) (k := 0) rfl rfl s
    simp only [List.drop_zero, List.drop_succ_cons, Nat.zero_add] at e
    rw [e] at h ⊢
    split at h
    · rename_i hz
      rw [if_pos hz]
      exact dotF_valid (fun m hm => hr m (List.mem_cons_of_mem _ hm)) hx' (hp hz) h
    · rename_i hz; exact absurd h hz
end Go.Proofs.Ytifmgjieplmbnaa.T
end

section
namespace Go.Proofs.Ytifmgjieplmbnaa.T
open Go Go.RowKit Lin
set_option linter.unusedSimpArgs false

/-! The residuals, by the reference. -/
set_option maxHeartbeats 2000000 in
theorem resid_ref (s : Sy) (hf : Fits s) (l : List (Int × Int)) (hl : l.length ≤ 1000000) : PRet Try.prog 39 [syD s, frs l] (fse (resP s l)) := by
  refine PRet.intro 1 fun t => ACall.enter tab_ok Try.func39 rfl rfl Try.ntmps39 (by simp) ?_
  simp only [enterTM]
  have hG := given_ref s hf l hl
  have f0 : frC [] = [] := rfl
  by_cases hg : givE s l = 0
  rotate_left 1
  · have e : resP s l = ([], givE s l) := by simp [resP, hg]
    have hg' : (givE s l != 0) = true := by simpa using hg
    ((refine ggb1 hg' hG ?_))
    ((repeat refine AW_seq ?_); (refine wta ?_); simp (disch := omega) only [retQ, resD, oneD, rsv, rs, rsL, rsL_eq_map, List.map_map, bb, bt, zDs, zD, eqCells, simprocAttr, Try.results39, e, f0])
    rfl
  have e : resP s l = resA l (matS s) (wtsS s) [] := by simp [resP, hg]
  rw [hg] at hG
  obtain ⟨hv, ha, hz⟩ := givE_zero hg
  have ok := validS_ok hv
  have hM := matrix_ref s ok
  obtain ⟨m1, m2, m3⟩ := validP_iff.1 ok.mat_valid
  have mw := ok.mat_wid
  have ml := ok.mat_len
  have hdb := bkC_div s.bs
  have hwi := ok.wts_in
  rw [e]
  clear e hg ok hf hv
  generalize hY : resA l (matS s) (wtsS s) [] = Y at *
  generalize matS s = m at *
  ((refine gga2 hG hM ?_))
  ((repeat refine AW_seq ?_))
  refine AW.begin 8 2 42 rfl (by decide) ?_
  simp only [putTM, List.length_cons, List.length_nil, Nat.reduceEqDiff, ↓reduceIte, List.cons_append, List.nil_append]
  refine AW_mid (fun x : Nat × Nat × List (Int × Int) => ⟨[(8, .own 2 1 x.1 0 x.2.2.length)], [none, some ⟨42, x.1, frC x.2.2⟩], x.2.1⟩) (fun x => Y = (x.2.2, 0)) ?_ ?_
  · refine AW_block ?_
    refine AW_loop_w (fun x : Nat × Nat × Nat × List (Int × Int) => ⟨[(1, frs l), (2, .ptr 0 (t + 1) 0), (7, mat m), (8, .own 2 1 x.2.1 0 x.1), (9, int x.1)], [some ⟨25, t + 1, [bks s.bs, rps s.rs]⟩, some ⟨42, x.2.1, frC x.2.2.2⟩], x.2.2.1⟩) (fun x => s.bs.length - x.1) (fun x => x.1 ≤ s.bs.length ∧ x.2.2.2.length = x.1 ∧ Y = resA l (m.drop x.1) ((wtsS s).drop x.1) x.2.2.2) (0, t + 1 + 1, t + 1 + 1, []) ⟨Nat.zero_le _, rfl, hY.symm⟩ (by (simp (disch := omega) only [StLe, tmLe, hpLe_refl, hpLe, bl, bb, bt, zDs, zD, eqCells, simprocAttr, f0])) ?_
    rintro ⟨k, g, tt, acc⟩ ⟨hk, hal, hd⟩
    simp only at hk hal hd
    by_cases hlt : k < s.bs.length
    · obtain ⟨b, hb⟩ : ∃ y, s.bs[k]? = some y := ⟨_, List.getElem?_eq_getElem hlt⟩
      obtain ⟨r, hr⟩ : ∃ y, m[k]? = some y := ⟨_, List.getElem?_eq_getElem (by omega)⟩
      have hkm : k < m.length := by omega
      have hwk : (wtsS s)[k]? = some b.w := by simp [wtsS, hb]
      have hw : (bkC s.bs)[k * 2 + 1]? = some (int b.w) := bkC_cell s.bs k b hb 1 (by decide)
      obtain ⟨r1, r2⟩ := m3 r (List.mem_of_getElem? hr)
      have hS := sum_ref r l (by omega) (by omega) (by omega) (fun x hx => by have := r2 x hx; omega) ha
      have hdv := dotF_valid (r := r) (x := l) (s := (0, 1)) (fun x hx => by have := r2 x hx; omega) ha (by decide)
      rw [resA_step hr hwk] at hd
      have hO := refOf b.w
      have hv1 : vfrac b.w 1 = true := vfrac_one (by have := withinP_spec hwi b.w (List.mem_of_getElem? hwk); omega)
      generalize dotF r l (0, 1) = y at *
      ((refine ggb0 (F := _∧_∧_) ⟨@Int.ofNat_lt, hlt, hdb⟩ ?_))
      ((repeat refine AW_seq ?_))
      refine AW_block ?_
      cases hy : (y.2 == 0)
      · have hy' : (y.2 != 0) = true := by simpa using hy
        rw [if_neg (by simpa using hy)] at hd
        ((refine ggb1 (F := _∧_∧_) ⟨hkm, hr, hy'⟩ hS ?_))
        ((repeat refine AW_seq ?_); (refine wta ?_); simp (disch := omega) only [retQ, resD, oneD, rsv, rs, rsL, rsL_eq_map, List.map_map, bb, bt, zDs, zD, eqCells, simprocAttr, Try.results39, hd, f0])
        rfl
      have hy' : (y.2 != 0) = false := by simpa using hy
      have hy0 : y.2 = 0 := by simpa using hy
      rw [if_pos hy0] at hd
      have hB := refSub (b.w, 1) y.1 hv1 (hdv hy0)
      generalize subP (b.w, 1) y.1 = z at *
      ((refine ggb1 (F := _∧_∧_) ⟨hkm, hr, hy'⟩ hS ?_))
      ((repeat refine AW_seq ?_); (refine gdob2 (F := _∧_∧_) ⟨hlt, hdb, hw⟩ hO hB ?_))
      cases hz1 : (z.2 == 0)
      · have hz' : (z.2 != 0) = true := by simpa using hz1
        rw [if_neg (by simpa using hz1)] at hd
        ((refine ggb0 hz' ?_))
        ((repeat refine AW_seq ?_); (refine wta ?_); simp (disch := omega) only [retQ, resD, oneD, rsv, rs, rsL, rsL_eq_map, List.map_map, bb, bt, zDs, zD, eqCells, simprocAttr, Try.results39, hd, f0])
        rfl
      have hz' : (z.2 != 0) = false := by simpa using hz1
      rw [if_pos (by simpa using hz1)] at hd
      have hap := frC_app acc z.1
      have hac := frC_len acc
      have hac2 : (frC acc).length = k * 2 := by omega
      ((refine ggb0 (F := _∧_) ⟨hz', hac2⟩ ?_))
      refine ⟨(k + 1, tt + 1 + 1 + 1, tt + 1 + 1 + 1, acc ++ [z.1]), ⟨hlt, by simp [hal], hd⟩, by show s.bs.length - (k + 1) < s.bs.length - k; omega, ?_⟩
      simp only [hap]
      (simp (disch := omega) only [StLe, tmLe, hpLe_refl, hpLe, bl, bb, bt, zDs, zD, eqCells, simprocAttr])
    · have hke : k = s.bs.length := by omega
      subst hke
      have hdn : m.drop s.bs.length = [] := by rw [← ml]; simp
      rw [hdn] at hd
      have hd2 : Y = (acc, 0) := by rw [hd]; simp [resA]
      ((refine wqb (F := _∧_) ⟨@Int.lt_irrefl, hdb⟩ ?_))
      ((refine wia ?_))
      ((refine wxa ?_))
      refine ⟨(g, tt, acc), hd2, ?_⟩
      simp only [hal]
      (simp (disch := omega) only [StLe, tmLe, hpLe_refl, hpLe, bl, bb, bt, zDs, zD, eqCells, simprocAttr])
  rintro ⟨g, tt, acc⟩ hd
  simp only at hd
  have hac := frC_len acc
  have hfin : List.take (acc.length * 2) (frC acc) = frC acc := List.take_of_length_le (by omega)
  ((refine AW.freeze (1) (by first | rfl | (simp only [setH, List.getElem?_cons_zero, List.getElem?_cons_succ, hfin, hac, Nat.le_refl]; done)) ?_); simp (disch := omega) only [fzT, fz, fzL, fzL_ints, fzL_mat, fzH, fzB, eq_self, bb, bt, zDs, zD, eqCells, simprocAttr, hfin, hac, Nat.le_refl])
  ((refine gga0 ?_))
  rw [hd]
  ((repeat refine AW_seq ?_); (refine wta ?_); simp (disch := omega) only [retQ, resD, oneD, bb, bt, zDs, zD, eqCells, simprocAttr, Try.results39])
  exact rsv_tidy _ _ (by simp only [tidyD, tidyL, tidy_fr, Bool.not_false, Bool.and_self])
end Go.Proofs.Ytifmgjieplmbnaa.T
end

section
namespace Go.Proofs.Ytifmgjieplmbnaa.T
open Go Go.RowKit Lin
set_option linter.unusedSimpArgs false

/-! The residuals, by the program. -/
set_option maxHeartbeats 2000000 in
theorem resid_prog (s : Sy) (hf : Fits s) (l : List (Int × Int)) (hl : l.length ≤ 1000000) : PRet Try.prog 32 [syD s, frs l] (fse (resP s l)) := by
  refine PRet.intro 1 fun t => ACall.enter tab_ok Try.func32 rfl rfl Try.ntmps32 (by simp) ?_
  simp only [enterTM]
  have hG := given11 s hf l hl
  have f0 : frC [] = [] := rfl
  ((refine wqa ?_))
  refine AW_scope (fun _ _ h => by simpa [retQ] using h) ?_
  by_cases hg : givE s l = 0
  rotate_left 1
  · have e : resP s l = ([], givE s l) := by simp [resP, hg]
    rw [if_neg hg] at hG
    have hg' : (givE s l != 0) = true := by simpa using hg
    ((refine ggb1 hg' hG ?_))
    ((repeat refine AW_seq ?_); (refine wta ?_); simp (disch := omega) only [retQ, resD, oneD, rsv, rs, rsL, rsL_eq_map, List.map_map, bb, bt, zDs, zD, eqCells, simprocAttr, Try.results32, e, f0])
    rfl
  have e : resP s l = resA l (matS s) (wtsS s) [] := by simp [resP, hg]
  rw [if_pos hg] at hG
  ((refine gga1 hG ?_))
  ((repeat refine AW_seq ?_))
  refine AW_label ?_
  with_reducible refine q1 ?_
  ((refine gga0 ?_))
  ((repeat refine AW_seq ?_))
  obtain ⟨hv, ha, hz⟩ := givE_zero hg
  have ok := validS_ok hv
  obtain ⟨m1, m2, m3⟩ := validP_iff.1 ok.mat_valid
  have mw := ok.mat_wid
  have ml := ok.mat_len
  have hdb := bkC_div s.bs
  have hwi := ok.wts_in
  have hfl := frC_len l
  have hf2 : (frC l).length / 2 = l.length := by omega
  rw [e]
  clear e hg ok hf hv
  generalize hY : resA l (matS s) (wtsS s) [] = Y at *
  generalize matS s = m at *
  refine AW.begin 8 2 42 rfl (by decide) ?_
  simp only [putTM, List.length_cons, List.length_nil, Nat.reduceEqDiff, ↓reduceIte, List.cons_append, List.nil_append]
  refine AW_mid (fun x : Nat × Nat × List (Int × Int) × Int => ⟨[(8, .own 2 1 x.1 0 x.2.2.1.length), (9, int x.2.2.2)], [none, some ⟨42, x.1, frC x.2.2.1⟩], x.2.1⟩) (fun x => (x.2.2.2 ≠ 0 ∧ Y = ([], x.2.2.2)) ∨ (x.2.2.2 = 0 ∧ Y = (x.2.2.1, 0))) ?_ ?_
  · refine AW_block ?_
    refine AW_loop_w (fun x : Nat × Nat × Nat × List (Int × Int) => ⟨[(1, frs l), (2, .ptr 0 (t + 1) 0), (6, mat m), (8, .own 2 1 x.2.1 0 x.1), (9, int 0), (24, int m.length), (25, int x.1)], [some ⟨25, t + 1, [bks s.bs, rps s.rs]⟩, some ⟨42, x.2.1, frC x.2.2.2⟩], x.2.2.1⟩) (fun x => m.length - x.1) (fun x => x.1 ≤ m.length ∧ x.2.2.2.length = x.1 ∧ Y = resA l (m.drop x.1) ((wtsS s).drop x.1) x.2.2.2) (0, t + 1 + 1, t + 1 + 1, []) ⟨Nat.zero_le _, rfl, hY.symm⟩ (by (simp (disch := omega) only [StLe, tmLe, hpLe_refl, hpLe, bl, bb, bt, zDs, zD, eqCells, simprocAttr, f0])) ?_
    rintro ⟨k, g, tt, acc⟩ ⟨hk, hal, hd⟩
    simp only at hk hal hd
    by_cases hlt : k < m.length
    · ((refine ggb0 (F := _∧_) ⟨@Int.ofNat_lt, hlt⟩ ?_))
      ((repeat refine AW_seq ?_))
      refine AW_block ?_
      ((refine ggb1 hf2 (of11 0) ?_))
      ((repeat refine AW_seq ?_))
      refine AW_block ?_
      obtain ⟨r, hr⟩ : ∃ y, m[k]? = some y := ⟨_, List.getElem?_eq_getElem hlt⟩
      obtain ⟨r1, r2⟩ := m3 r (List.mem_of_getElem? hr)
      refine AW_loop_w (fun x : (Int × Int) × Nat × Nat => ⟨[(1, frs l), (2, .ptr 0 (t + 1) 0), (6, mat m), (8, .own 2 1 g 0 k), (9, int 0), (10, int k), (11, .ptr 2 (tt + 1) 0), (24, int m.length), (25, int k), (30, int l.length), (31, int x.2.1)], [some ⟨25, t + 1, [bks s.bs, rps s.rs]⟩, some ⟨42, g, frC acc⟩, some ⟨42, tt + 1, [int x.1.1, int x.1.2]⟩], x.2.2⟩) (fun x => l.length - x.2.1) (fun x => x.2.1 ≤ l.length ∧ vfrac x.1.1 x.1.2 = true ∧ dotF r l (0, 1) = dotF (r.drop x.2.1) (l.drop x.2.1) x.1) ((0, 1), 0, tt + 1) ⟨Nat.zero_le _, (show vfrac 0 1 = true by decide), rfl⟩ (by (simp (disch := omega) only [StLe, tmLe, hpLe_refl, hpLe, bl, bb, bt, zDs, zD, eqCells, simprocAttr])) ?_
      rintro ⟨c, i, t2⟩ ⟨hi, hc, hdo⟩
      simp only at hi hc hdo
      by_cases hil : i < l.length
      · obtain ⟨f, hfi⟩ : ∃ y, l[i]? = some y := ⟨_, List.getElem?_eq_getElem hil⟩
        have hir : i < r.length := by omega
        obtain ⟨n, hn⟩ : ∃ y, r[i]? = some y := ⟨_, List.getElem?_eq_getElem hir⟩
        have hra := frC_read l i f hfi
        have hnb := r2 n (List.mem_of_getElem? hn)
        have hpv := plusP_valid hc (allV_at ha hfi) (n := n) (by omega)
        rw [dotF_plus hn hfi] at hdo
        have hP := plus11 c n f
        generalize plusP c n f = z at *
        ((refine ggb0 (F := _∧_) ⟨@Int.ofNat_lt, hil⟩ ?_))
        ((repeat refine AW_seq ?_))
        refine AW_block ?_
        ((refine gga0 ?_))
        ((repeat refine AW_seq ?_); (refine gdzb1 (F := _∧_∧_∧_∧_∧_∧_) ⟨hlt, hil, hir, hf2, hr, hn, hra⟩ hP ?_))
        cases hz1 : (z.2 == 0)
        · have hz' : (z.2 != 0) = true := by simpa using hz1
          have hzn : ¬ z.2 = 0 := by simpa using hz1
          rw [if_neg hzn] at hdo
          have hwk : ∃ w, (wtsS s)[k]? = some w := ⟨_, List.getElem?_eq_getElem (by simp [wtsS]; omega)⟩
          obtain ⟨w, hwk⟩ := hwk
          rw [resA_step hr hwk, hdo, if_neg hzn] at hd
          ((refine ggb0 hz' ?_))
          refine ⟨(g, t2 + 1, acc, z.2), .inl ⟨hzn, hd⟩, ?_⟩
          simp only [hal]
          (simp (disch := omega) only [StLe, tmLe, hpLe_refl, hpLe, bl, bb, bt, zDs, zD, eqCells, simprocAttr])
        · have hz' : (z.2 != 0) = false := by simpa using hz1
          have hz0 : z.2 = 0 := by simpa using hz1
          rw [if_pos hz0] at hdo
          ((refine ggb0 hz' ?_))
          refine ⟨(z.1, i + 1, t2 + 1), ⟨hil, hpv hz0, hdo⟩, by show l.length - (i + 1) < l.length - i; omega, ?_⟩
          simp only [hz0]
          (simp (disch := omega) only [StLe, tmLe, hpLe_refl, hpLe, bl, bb, bt, zDs, zD, eqCells, simprocAttr])
      have hie : i = l.length := by omega
      subst hie
      have hde : dotF (r.drop l.length) (l.drop l.length) c = (c, 0) := by
        have hdn : l.drop l.length = [] := by simp
        rw [hdn]
        cases r.drop l.length <;> rfl
      rw [hde] at hdo
      obtain ⟨b, hb⟩ : ∃ y, s.bs[k]? = some y := ⟨_, List.getElem?_eq_getElem (by omega)⟩
      have hwk : (wtsS s)[k]? = some b.w := by simp [wtsS, hb]
      have hw : (bkC s.bs)[k * 2 + 1]? = some (int b.w) := bkC_cell s.bs k b hb 1 (by decide)
      have hkb : k < s.bs.length := by omega
      rw [resA_step hr hwk, hdo, if_pos rfl] at hd
      have hB := rSub (b.w, 1) c
      generalize subP (b.w, 1) c = z at *
      ((refine ggb0 @Int.lt_irrefl ?_))
      ((repeat refine AW_seq ?_); (refine gdzb2 (F := _∧_∧_) ⟨hkb, hdb, hw⟩ (of11 b.w) hB ?_))
      have hac := frC_len acc
      have hac2 : (frC acc).length = k * 2 := by omega
      cases hz1 : (z.2 == 0)
      · have hz' : (z.2 != 0) = true := by simpa using hz1
        have hzn : ¬ z.2 = 0 := by simpa using hz1
        rw [if_neg hzn] at hd
        ((refine ggb0 hz' ?_))
        refine ⟨(g, t2 + 1 + 1, acc, z.2), .inl ⟨hzn, hd⟩, ?_⟩
        simp only [hal]
        (simp (disch := omega) only [StLe, tmLe, hpLe_refl, hpLe, bl, bb, bt, zDs, zD, eqCells, simprocAttr])
      · have hz' : (z.2 != 0) = false := by simpa using hz1
        have hz0 : z.2 = 0 := by simpa using hz1
        rw [if_pos hz0] at hd
        have hap := frC_app acc z.1
        ((refine ggb0 (F := _∧_) ⟨hz', hac2⟩ ?_))
        refine ⟨(k + 1, t2 + 1 + 1 + 1, t2 + 1 + 1 + 1, acc ++ [z.1]), ⟨hlt, by simp [hal], hd⟩, by show m.length - (k + 1) < m.length - k; omega, ?_⟩
        simp only [hap, hz0]
        (simp (disch := omega) only [StLe, tmLe, hpLe_refl, hpLe, bl, bb, bt, zDs, zD, eqCells, simprocAttr])
    · have hke : k = m.length := by omega
      subst hke
      have hdn : m.drop m.length = [] := by simp
      rw [hdn] at hd
      have hd2 : Y = (acc, 0) := by rw [hd]; simp [resA]
      ((refine wqb @Int.lt_irrefl ?_))
      ((refine wia ?_))
      ((refine wxa ?_))
      refine ⟨(g, tt, acc, 0), .inr ⟨rfl, hd2⟩, ?_⟩
      simp only [hal]
      (simp (disch := omega) only [StLe, tmLe, hpLe_refl, hpLe, bl, bb, bt, zDs, zD, eqCells, simprocAttr])
  rintro ⟨g, tt, acc, er⟩ hd
  simp only at hd
  have hac := frC_len acc
  have hfin : List.take (acc.length * 2) (frC acc) = frC acc := List.take_of_length_le (by omega)
  rcases hd with ⟨hn, hd⟩ | ⟨h0, hd⟩
  · have hn' : (er != 0) = true := by simpa using hn
    rw [hd]
    ((refine ggb0 hn' ?_))
    ((repeat refine AW_seq ?_); (refine wta ?_); simp (disch := omega) only [retQ, resD, oneD, rsv, rs, rsL, rsL_eq_map, List.map_map, bb, bt, zDs, zD, eqCells, simprocAttr, Try.results32, f0])
    rfl
  · subst h0
    ((refine AW.freeze (1) (by first | rfl | (simp only [setH, List.getElem?_cons_zero, List.getElem?_cons_succ, hfin, hac, Nat.le_refl]; done)) ?_); simp (disch := omega) only [fzT, fz, fzL, fzL_ints, fzL_mat, fzH, fzB, eq_self, bb, bt, zDs, zD, eqCells, simprocAttr, hfin, hac, Nat.le_refl])
    ((refine gga0 ?_))
    rw [hd]
    ((repeat refine AW_seq ?_); (refine wta ?_); simp (disch := omega) only [retQ, resD, oneD, bb, bt, zDs, zD, eqCells, simprocAttr, Try.results32])
    exact rsv_tidy _ _ (by simp only [tidyD, tidyL, tidy_fr, Bool.not_false, Bool.and_self])
end Go.Proofs.Ytifmgjieplmbnaa.T
end

section
namespace Go.Proofs.Ytifmgjieplmbnaa.T
open Go Go.RowKit Lin
set_option linter.unusedSimpArgs false

/-! Checks. -/
theorem resA_allV {l : List (Int × Int)} (hl : allV l = true) : ∀ (m : List (List Int)) (ws : List Int) (acc : List (Int × Int)), (∀ r ∈ m, ∀ n ∈ r, -1000 ≤ n ∧ n ≤ 1000) → (∀ w ∈ ws, vfrac w 1 = true) → allV acc = true → allV (resA l m ws acc).1 = true
  | [], ws, acc, _, _, ha => by simp only [resA]; exact ha
  | r :: m, [], acc, _, _, ha => by simp only [resA]; exact ha
  | r :: m, w :: ws, acc, hm, hw, ha => by
    simp only [resA]
    split
    · rename_i h1
      split
      · rename_i h2
        refine resA_allV hl m ws _ (fun x hx => hm x (List.mem_cons_of_mem _ hx)) (fun x hx => hw x (List.mem_cons_of_mem _ hx)) ?_
        have hv := subP_valid (hw w (by simp)) (dotF_valid (hm r (by simp)) hl (by decide) h1) h2
        unfold allV at ha ⊢
        rw [List.all_append, ha]
        simp [hv]
      · rfl
    · rfl
theorem resA_len {l : List (Int × Int)} : ∀ (m : List (List Int)) (ws : List Int) (acc : List (Int × Int)), (resA l m ws acc).1.length ≤ acc.length + m.length
  | [], ws, acc => by simp [resA]
  | r :: m, [], acc => by simp [resA]
  | r :: m, w :: ws, acc => by
    simp only [resA]
    split
    · split
      · have := resA_len (l := l) m ws (acc ++ [(subP (w, 1) (dotF r l (0, 1)).1).1])
        simp only [List.length_append, List.length_cons, List.length_nil] at this ⊢
        omega
      · simp
    · simp
theorem resP_len (s : Sy) (hb : s.bs.length ≤ 1000) (l : List (Int × Int)) : (resP s l).1.length ≤ 1000 := by
  unfold resP
  split
  · have := resA_len (l := l) (matS s) (wtsS s) []
    have e : (matS s).length = s.bs.length := by simp [matS]
    simp only [List.length_nil] at this
    omega
  · simp
def chkP (s : Sy) (l : List (Int × Int)) : Bool × Int := if (resP s l).2 = 0 then (!(resP s l).1.any (fun x => x.1 != 0), 0) else (false, (resP s l).2)
theorem check1 (x : Int × Int) : PRet Try.prog 104 [frD x] (bool (x.1 != 0)) := by
  refine PRet.intro 1 fun t => ACall.enter tab_ok Try.func104 rfl rfl Try.ntmps104 (by simp) ?_
  simp only [enterTM]
  ((refine gga0 ?_))
  ((repeat refine AW_seq ?_); (refine wta ?_); simp (disch := omega) only [retQ, resD, oneD, rsv, rs, rsL, rsL_eq_map, List.map_map, bb, bt, zDs, zD, eqCells, simprocAttr, Try.results104])
theorem check_prog (s : Sy) (hf : Fits s) (hb : s.bs.length ≤ 1000) (l : List (Int × Int)) (hl : l.length ≤ 1000000) : PRet Try.prog 38 [syD s, frs l] (.tup [bool (chkP s l).1, int (chkP s l).2]) := by
  refine PRet.intro 1 fun t => ACall.enter tab_ok Try.func38 rfl rfl Try.ntmps38 (by simp) ?_
  simp only [enterTM]
  have hR := resid_prog s hf l hl
  have hC := containsFuncFr (resP s l).1 104 [] (fun x => x.1 != 0) (by have := resP_len s hb l; omega) (fun x _ => check1 x)
  have e : chkP s l = if (resP s l).2 = 0 then (!(resP s l).1.any (fun x => x.1 != 0), 0) else (false, (resP s l).2) := rfl
  rw [e]
  generalize (resP s l).1.any (fun x => x.1 != 0) = q at *
  generalize resP s l = Y at *
  cases hy : (Y.2 == 0)
  · have hy' : (Y.2 != 0) = true := by simpa using hy
    rw [if_neg (by simpa using hy)]
    ((refine ggb1 hy' hR ?_))
    ((repeat refine AW_seq ?_); (refine wta ?_); simp (disch := omega) only [retQ, resD, oneD, rsv, rs, rsL, rsL_eq_map, List.map_map, bb, bt, zDs, zD, eqCells, simprocAttr, Try.results38])
  · have hy' : (Y.2 != 0) = false := by simpa using hy
    rw [if_pos (by simpa using hy)]
    ((refine ggb2 hy' hR hC ?_))
    ((repeat refine AW_seq ?_); (refine wta ?_); simp (disch := omega) only [retQ, resD, oneD, rsv, rs, rsL, rsL_eq_map, List.map_map, bb, bt, zDs, zD, eqCells, simprocAttr, Try.results38])
end Go.Proofs.Ytifmgjieplmbnaa.T
end

section
namespace Go.Proofs.Ytifmgjieplmbnaa.T
open Go Go.RowKit Lin
set_option linter.unusedSimpArgs false

/-! The reference's check. -/
theorem vfrac_zero {x : Int × Int} (h : vfrac x.1 x.2 = true) (h0 : x.1 = 0) : x.2 = 1 := by
  unfold vfrac at h
  simp only [Bool.and_eq_true, decide_eq_true_eq, h0, Int.natAbs_zero, Nat.gcd_zero_left] at h
  omega
end Go.Proofs.Ytifmgjieplmbnaa.T
end

section
namespace Go.Proofs.Ytifmgjieplmbnaa.T
open Go Go.RowKit Lin
set_option linter.unusedSimpArgs false

/-! The reference's check; the law of checks. -/
theorem any_take {α : Type} {p : α → Bool} {l : List α} {k : Nat} {x : α} (h : l[k]? = some x) : (l.take (k + 1)).any p = ((l.take k).any p || p x) := by
  rw [List.take_add_one, h]
  simp
theorem any_hit {α : Type} {p : α → Bool} {l : List α} {k : Nat} {x : α} (h : l[k]? = some x) (hp : p x = true) : l.any p = true := List.any_eq_true.2 ⟨x, List.mem_of_getElem? h, hp⟩
theorem resP_allV (s : Sy) (l : List (Int × Int)) : allV (resP s l).1 = true := by
  unfold resP
  split
  · rename_i hg
    obtain ⟨hv, ha, hz⟩ := givE_zero hg
    have ok := validS_ok hv
    obtain ⟨m1, m2, m3⟩ := validP_iff.1 ok.mat_valid
    refine resA_allV ha _ _ _ (fun r hr n hn => by have := (m3 r hr).2 n hn; omega) (fun w hw => vfrac_one (by have := withinP_spec ok.wts_in w hw; omega)) rfl
  · rfl
theorem check_ref (s : Sy) (hf : Fits s) (hb : s.bs.length ≤ 1000) (l : List (Int × Int)) (hl : l.length ≤ 1000000) : PRet Try.prog 40 [syD s, frs l] (.tup [bool (chkP s l).1, int (chkP s l).2]) := by
  refine PRet.intro 1 fun t => ACall.enter tab_ok Try.func40 rfl rfl Try.ntmps40 (by simp) ?_
  simp only [enterTM]
  have hR := resid_ref s hf l hl
  have hle := resP_len s hb l
  have hva := resP_allV s l
  have e : chkP s l = if (resP s l).2 = 0 then (!(resP s l).1.any (fun x => x.1 != 0), 0) else (false, (resP s l).2) := rfl
  rw [e]
  clear e
  generalize resP s l = Y at *
  cases hy : (Y.2 == 0)
  · have hy' : (Y.2 != 0) = true := by simpa using hy
    rw [if_neg (by simpa using hy)]
    ((refine ggb1 hy' hR ?_))
    ((repeat refine AW_seq ?_); (refine wta ?_); simp (disch := omega) only [retQ, resD, oneD, rsv, rs, rsL, rsL_eq_map, List.map_map, bb, bt, zDs, zD, eqCells, simprocAttr, Try.results40])
  have hy' : (Y.2 != 0) = false := by simpa using hy
  rw [if_pos (by simpa using hy)]
  have hfl := frC_len Y.1
  have hf2 : (frC Y.1).length / 2 = Y.1.length := by omega
  have hO := refOf 0
  ((refine ggb1 hy' hR ?_))
  ((repeat refine AW_seq ?_))
  refine AW_block ?_
  refine AW_loop_w (fun x : Nat × Nat => ⟨[(6, frs Y.1), (8, int x.1)], [], x.2⟩) (fun x => Y.1.length - x.1) (fun x => x.1 ≤ Y.1.length ∧ (Y.1.take x.1).any (fun x => x.1 != 0) = false) (0, t + 1) ⟨Nat.zero_le _, rfl⟩ (by (simp (disch := omega) only [StLe, tmLe, hpLe_refl, hpLe, bl, bb, bt, zDs, zD, eqCells, simprocAttr])) ?_
  rintro ⟨k, tt⟩ ⟨hk, hd⟩
  simp only at hk hd
  by_cases hlt : k < Y.1.length
  · obtain ⟨f, hfk⟩ : ∃ y, Y.1[k]? = some y := ⟨_, List.getElem?_eq_getElem hlt⟩
    have hra := frC_read Y.1 k f hfk
    have hvf := allV_at hva hfk
    have hst := any_take (p := fun x : Int × Int => x.1 != 0) hfk
    rw [hd, Bool.false_or] at hst
    cases h0 : (f.1 == 0)
    · have ho : Y.1.any (fun x => x.1 != 0) = true := any_hit hfk (by simpa using h0)
      ((refine ggb0 (F := _∧_∧_) ⟨@Int.ofNat_lt, hlt, hf2⟩ ?_))
      ((repeat refine AW_seq ?_))
      refine AW_block ?_
      ((repeat refine AW_seq ?_); (refine gdzb1 (F := _∧_∧_∧_) ⟨hlt, hf2, hra, h0⟩ hO ?_))
      ((refine gga0 ?_))
      ((repeat refine AW_seq ?_); (refine wta ?_); simp (disch := omega) only [retQ, resD, oneD, rsv, rs, rsL, rsL_eq_map, List.map_map, bb, bt, zDs, zD, eqCells, simprocAttr, Try.results40, ho])
    · have hf0 : f.1 = 0 := by simpa using h0
      have h1 : (f.2 == 1) = true := by rw [vfrac_zero hvf hf0]; rfl
      ((refine ggb0 (F := _∧_∧_) ⟨@Int.ofNat_lt, hlt, hf2⟩ ?_))
      ((repeat refine AW_seq ?_))
      refine AW_block ?_
      ((repeat refine AW_seq ?_); (refine gdzb1 (F := _∧_∧_∧_∧_) ⟨hlt, hf2, hra, h0, h1⟩ hO ?_))
      ((refine gga0 ?_))
      refine ⟨(k + 1, tt + 1), ⟨hlt, by rw [hst, hf0]; rfl⟩, by show Y.1.length - (k + 1) < Y.1.length - k; omega, ?_⟩
      (simp (disch := omega) only [StLe, tmLe, hpLe_refl, hpLe, bl, bb, bt, zDs, zD, eqCells, simprocAttr])
  · have hke : k = Y.1.length := by omega
    subst hke
    rw [List.take_length] at hd
    ((refine ggb0 (F := _∧_) ⟨@Int.lt_irrefl, hf2⟩ ?_))
    ((repeat refine AW_seq ?_); (refine wta ?_); simp (disch := omega) only [retQ, resD, oneD, rsv, rs, rsL, rsL_eq_map, List.map_map, bb, bt, zDs, zD, eqCells, simprocAttr, Try.results40, hd])
set_option maxHeartbeats 1000000 in
theorem law_checks (s : Sy) (l : List (Int × Int)) : PRet Try.prog 7 [syD s, frs l] (bool true) := by
  refine PRet.intro 1 fun t => ACall.enter tab_ok Try.func7 rfl rfl Try.ntmps7 (by simp) ?_
  simp only [enterTM]
  have hF := few11L s l
  cases hs : (smallS s && decide (l.length ≤ 10))
  · rw [hs] at hF
    ((refine gga2 awake11 hF ?_))
    ((repeat refine AW_seq ?_); (refine wta ?_); simp (disch := omega) only [retQ, resD, oneD, rsv, rs, rsL, rsL_eq_map, List.map_map, bb, bt, zDs, zD, eqCells, simprocAttr, Try.results7])
  rw [hs] at hF
  obtain ⟨hs1, hs2⟩ := Bool.and_eq_true_iff.1 hs
  have hl10 : l.length ≤ 10 := by simpa using hs2
  have hf := small_fits hs1
  have hb : s.bs.length ≤ 1000 := by
    simp only [smallS, Bool.and_eq_true, decide_eq_true_eq] at hs1
    omega
  have hR := resid_prog s hf l (by omega)
  have hC := check_prog s hf hb l (by omega)
  have hR2 := resid_ref s hf l (by omega)
  have hC2 := check_ref s hf hb l (by omega)
  have hle := resP_len s hb l
  generalize chkP s l = Z at *
  generalize resP s l = Y at *
  have hQ := equalFr Y.1 Y.1 (by omega) (by omega)
  rw [beq_self_eq_true] at hQ
  have e1 : (Y.2 == Y.2) = true := by simp
  have e2 : (Z.2 == Z.2) = true := by simp
  have e3 : (Z.1 == Z.1) = true := by simp
  ((refine ggb7 (F := _∧_∧_) ⟨e1, e2, e3⟩ awake11 hF hR hC hR2 hC2 hQ ?_))
  ((repeat refine AW_seq ?_); (refine wta ?_); simp (disch := omega) only [retQ, resD, oneD, rsv, rs, rsL, rsL_eq_map, List.map_map, bb, bt, zDs, zD, eqCells, simprocAttr, Try.results7])
end Go.Proofs.Ytifmgjieplmbnaa.T
end
