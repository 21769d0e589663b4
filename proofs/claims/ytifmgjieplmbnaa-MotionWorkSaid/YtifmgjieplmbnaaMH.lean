import Derived.Test.YtifmgjieplmbnaaMGI
set_option linter.all false
namespace Go.Proofs.Ytifmgjieplmbnaa.T
open Go Go.RowKit Lin
set_option linter.unusedSimpArgs false

/-! Chapter 12: the law of virtual work. -/
set_option maxHeartbeats 4000000 in
theorem law_work (s : Sy) (h : List Int) : PRet Try.prog 8 [syD s, ints h] (bool true) := by
  refine PRet.intro 1 fun t => ACall.enter tab_ok Try.func8 rfl rfl Try.ntmps8 (by simp) ?_
  simp only [enterTM]
  have hRt := right12 s h
  have f0 : frC [] = [] := rfl
  cases hr : rightP s h
  · rw [hr] at hRt
    ((refine gga2 awake12 hRt ?_))
    ((repeat refine AW_seq ?_); (refine wta ?_); simp (disch := omega) only [retQ, resD, oneD, rsv, rs, rsL, rsL_eq_map, List.map_map, bb, bt, zDs, zD, eqCells, simprocAttr, Try.results8])
  rw [hr] at hRt
  obtain ⟨hs, hg⟩ := rightP_ok hr
  have hf := small_fits hs
  obtain ⟨hv, hz, hrg⟩ := givH_zero hg
  have ok := validS_ok hv
  have b6 := ok.b6
  have r6 := ok.r6
  have hdr := rpC_div s.rs
  have hdb := bkC_div s.bs
  have hSp := speeds_prog s hf h (by omega)
  have hTe := tens_prog s hf
  obtain ⟨hc1, hc2⟩ := speedsP_right hg
  have hsv := speedsP_val (s := s) (h := h)
  have hlt := tensP_len (s := s)
  have htv := tens_own (s := s)
  generalize speedsP s h = X at *
  generalize tensP s = T at *
  cases hx : (X.2 == 0)
  · have hxn : X.2 ≠ 0 := by simpa using hx
    have hn := hc2 hxn
    obtain ⟨X1, X2⟩ := X
    simp only at hn hx hc1 hxn
    subst hn
    rcases hc1 with k | rfl | rfl
    · exact absurd k hxn
    · ((refine ggb4 f0 awake12 hRt hSp hTe ?_))
      ((repeat refine AW_seq ?_); (refine wta ?_); simp (disch := omega) only [retQ, resD, oneD, rsv, rs, rsL, rsL_eq_map, List.map_map, bb, bt, zDs, zD, eqCells, simprocAttr, Try.results8])
    · ((refine ggb4 f0 awake12 hRt hSp hTe ?_))
      ((repeat refine AW_seq ?_); (refine wta ?_); simp (disch := omega) only [retQ, resD, oneD, rsv, rs, rsL, rsL_eq_map, List.map_map, bb, bt, zDs, zD, eqCells, simprocAttr, Try.results8])
  have hx0 : X.2 = 0 := by simpa using hx
  have hx' : (X.2 != 0) = false := by simpa using hx
  have hx21 : (X.2 == 21) = false := by rw [hx0]; rfl
  have hx22 : (X.2 == 22) = false := by rw [hx0]; rfl
  have hXd := frC_div X.1
  have hTd := frC_div T.1
  cases ht : (T.2 == 0)
  · have ht' : (T.2 != 0) = true := by simpa using ht
    cases hb : ((X.1.length : Int) == 0) <;>
    · ((refine ggb4 (F := _∧_∧_∧_∧_∧_∧_) ⟨hx, hx', hx21, hx22, ht', hXd, hb⟩ awake12 hRt hSp hTe ?_))
      ((repeat refine AW_seq ?_); (refine wta ?_); simp (disch := omega) only [retQ, resD, oneD, rsv, rs, rsL, rsL_eq_map, List.map_map, bb, bt, zDs, zD, eqCells, simprocAttr, Try.results8])
  have ht0 : T.2 = 0 := by simpa using ht
  have ht' : (T.2 != 0) = false := by simpa using ht
  obtain ⟨Z, D, hD, hZ, hXl, hXv⟩ := hsv hx0
  obtain ⟨_, Y, E, hE, hY, hTv⟩ := htv ht0
  obtain ⟨_, hTl⟩ := hlt ht0
  have hvirt := ok.virtual hz hY hZ
  have e1 : ((X.1.length : Int) != (s.bs.length : Int)) = false := by simp [hXl]
  have e2 : ((T.1.length : Int) != (s.rs.length : Int)) = false := by simp [hTl]
  have w0 := of12 0
  ((refine ggb5 (F := _∧_∧_∧_∧_∧_∧_∧_) ⟨hx', ht', hXd, hTd, hdb, hdr, e1, e2⟩ awake12 hRt hSp hTe w0 ?_))
  ((repeat refine AW_seq ?_))
  refine AW_mid (fun x : (Int × Int) × Nat => ⟨[(1, ints h), (7, frs T.1), (9, .fn 42 []), (10, .ptr 1 (t + 1 + 1) 0), (11, .ptr 2 (t + 1 + 1 + 1) 0)], [none, some ⟨42, t + 1 + 1, [int x.1.1, int x.1.2]⟩, some ⟨42, t + 1 + 1 + 1, [int 0, int 1]⟩], x.2⟩) (fun x => Val x.1 (sumN (fun i => Lin.at_ (wtsS s) i * Z i) s.bs.length) D) ?_ ?_
  · refine AW_block ?_
    refine AW_loop_w (fun x : (Int × Int) × Nat × Nat => ⟨[(1, ints h), (5, frs X.1), (7, frs T.1), (9, .fn 42 []), (10, .ptr 1 (t + 1 + 1) 0), (11, .ptr 2 (t + 1 + 1 + 1) 0), (79, bks s.bs), (80, int s.bs.length), (81, int x.2.1)], [none, some ⟨42, t + 1 + 1, [int x.1.1, int x.1.2]⟩, some ⟨42, t + 1 + 1 + 1, [int 0, int 1]⟩], x.2.2⟩) (fun x => s.bs.length - x.2.1) (fun x => x.2.1 ≤ s.bs.length ∧ Val x.1 (sumN (fun i => Lin.at_ (wtsS s) i * Z i) x.2.1) D) ((0, 1), 0, t + 1 + 1 + 1) ⟨Nat.zero_le _, ⟨(show vfrac 0 1 = true by decide), hD, by simp [sumN]⟩⟩ (by (simp (disch := omega) only [StLe, tmLe, hpLe_refl, hpLe, bl, bb, bt, zDs, zD, eqCells, simprocAttr])) ?_
    rintro ⟨c, k, tt⟩ ⟨hk, hc⟩
    simp only at hk hc
    by_cases hlt : k < s.bs.length
    · obtain ⟨b, hbk⟩ : ∃ y, s.bs[k]? = some y := ⟨_, List.getElem?_eq_getElem hlt⟩
      have hra := bkC_read s.bs k b hbk
      have hwb := ok.wts b (List.mem_of_getElem? hbk)
      obtain ⟨f, hfk⟩ : ∃ y, X.1[k]? = some y := ⟨_, List.getElem?_eq_getElem (by omega)⟩
      have hrf := frC_read X.1 k f hfk
      have hkx : k < X.1.length := by omega
      have hst := work_step (c := c) (f := f) (n := b.w) (k := k) (D := D) (F := Lin.at_ (wtsS s)) (G := Z) (by omega) (at_wts hbk) hc (hXv k f hfk)
      have hW := work1 b.w f
      have hA := rAdd c (mulP f (b.w, 1)).1
      generalize mulP f (b.w, 1) = y at *
      generalize addP c y.1 = z at *
      ((refine ggb0 (F := _∧_) ⟨@Int.ofNat_lt, hlt⟩ ?_))
      ((repeat refine AW_seq ?_))
      refine AW_block ?_
      ((refine ggb0 (F := _∧_∧_) ⟨hdb, hlt, hra⟩ ?_))
      ((repeat refine AW_seq ?_); (refine gdob1 (F := _∧_∧_) ⟨hXd, hkx, hrf⟩ hW ?_))
      cases hy : (y.2 == 0)
      · ((refine ggb1 hy hA ?_))
        ((repeat refine AW_seq ?_); (refine wta ?_); simp (disch := omega) only [retQ, resD, oneD, rsv, rs, rsL, rsL_eq_map, List.map_map, bb, bt, zDs, zD, eqCells, simprocAttr, Try.results8])
      cases hz2 : (z.2 == 0)
      · have hz' : (z.2 != 0) = true := by simpa using hz2
        ((refine ggb1 (F := _∧_) ⟨hy, hz'⟩ hA ?_))
        ((repeat refine AW_seq ?_); (refine wta ?_); simp (disch := omega) only [retQ, resD, oneD, rsv, rs, rsL, rsL_eq_map, List.map_map, bb, bt, zDs, zD, eqCells, simprocAttr, Try.results8])
      have hz' : (z.2 != 0) = false := by simpa using hz2
      ((refine ggb1 (F := _∧_) ⟨hy, hz'⟩ hA ?_))
      refine ⟨(z.1, k + 1, tt + 1 + 1 + 1), ⟨hlt, hst (by simpa using hy) (by simpa using hz2)⟩, by show s.bs.length - (k + 1) < s.bs.length - k; omega, ?_⟩
      (simp (disch := omega) only [StLe, tmLe, hpLe_refl, hpLe, bl, bb, bt, zDs, zD, eqCells, simprocAttr])
    · have hke : k = s.bs.length := by omega
      subst hke
      ((refine wqb @Int.lt_irrefl ?_))
      ((refine wia ?_))
      ((refine wxa ?_))
      exact ⟨(c, tt), hc, by (simp (disch := omega) only [StLe, tmLe, hpLe_refl, hpLe, bl, bb, bt, zDs, zD, eqCells, simprocAttr])⟩
  rintro ⟨c, t1⟩ hc
  simp only at hc
  ((refine gga0 ?_))
  ((repeat refine AW_seq ?_))
  refine AW_block ?_
  refine AW_loop_w (fun x : (Int × Int) × Nat × Nat => ⟨[(7, frs T.1), (9, .fn 42 []), (10, .ptr 1 (t + 1 + 1) 0), (11, .ptr 2 (t + 1 + 1 + 1) 0), (111, ints h), (112, int h.length), (113, int x.2.1)], [none, some ⟨42, t + 1 + 1, [int c.1, int c.2]⟩, some ⟨42, t + 1 + 1 + 1, [int x.1.1, int x.1.2]⟩], x.2.2⟩) (fun x => h.length - x.2.1) (fun x => x.2.1 ≤ h.length ∧ Val x.1 (sumN (fun i => Lin.at_ h i * Y i) x.2.1) E) ((0, 1), 0, t1) ⟨Nat.zero_le _, ⟨(show vfrac 0 1 = true by decide), hE, by simp [sumN]⟩⟩ (by (simp (disch := omega) only [StLe, tmLe, hpLe_refl, hpLe, bl, bb, bt, zDs, zD, eqCells, simprocAttr])) ?_
  rintro ⟨d, k, tt⟩ ⟨hk, hd⟩
  simp only at hk hd
  by_cases hlt : k < h.length
  · obtain ⟨n, hn⟩ : ∃ y, h[k]? = some y := ⟨_, List.getElem?_eq_getElem hlt⟩
    have hnb := (rangedP_at hrg (List.getElem?_eq_getElem (show k < s.rs.length by omega)) hn).1
    obtain ⟨f, hfk⟩ : ∃ y, T.1[k]? = some y := ⟨_, List.getElem?_eq_getElem (by omega)⟩
    have hrf := frC_read T.1 k f hfk
    have hkx : k < T.1.length := by omega
    have hst := work_step (c := d) (f := f) (n := n) (k := k) (D := E) (F := Lin.at_ h) (G := Y) (by omega) (by simp [Lin.at_, hn]) hd (hTv k f hfk)
    have hW := work1 n f
    have hA := rAdd d (mulP f (n, 1)).1
    generalize mulP f (n, 1) = y at *
    generalize addP d y.1 = z at *
    ((refine ggb0 (F := _∧_) ⟨@Int.ofNat_lt, hlt⟩ ?_))
    ((repeat refine AW_seq ?_))
    refine AW_block ?_
    ((refine ggb1 (F := _∧_∧_∧_∧_) ⟨hlt, hn, hTd, hkx, hrf⟩ hW ?_))
    cases hy : (y.2 == 0)
    · ((refine ggb1 hy hA ?_))
      ((repeat refine AW_seq ?_); (refine wta ?_); simp (disch := omega) only [retQ, resD, oneD, rsv, rs, rsL, rsL_eq_map, List.map_map, bb, bt, zDs, zD, eqCells, simprocAttr, Try.results8])
    cases hz2 : (z.2 == 0)
    · have hz' : (z.2 != 0) = true := by simpa using hz2
      ((refine ggb1 (F := _∧_) ⟨hy, hz'⟩ hA ?_))
      ((repeat refine AW_seq ?_); (refine wta ?_); simp (disch := omega) only [retQ, resD, oneD, rsv, rs, rsL, rsL_eq_map, List.map_map, bb, bt, zDs, zD, eqCells, simprocAttr, Try.results8])
    have hz' : (z.2 != 0) = false := by simpa using hz2
    ((refine ggb1 (F := _∧_) ⟨hy, hz'⟩ hA ?_))
    refine ⟨(z.1, k + 1, tt + 1 + 1), ⟨hlt, hst (by simpa using hy) (by simpa using hz2)⟩, by show h.length - (k + 1) < h.length - k; omega, ?_⟩
    (simp (disch := omega) only [StLe, tmLe, hpLe_refl, hpLe, bl, bb, bt, zDs, zD, eqCells, simprocAttr])
  · have hke : k = h.length := by omega
    subst hke
    rw [hz] at hd
    have hcd := hc.eq hd hvirt
    subst hcd
    have cc1 : (c.1 == c.1) = true := by simp
    have cc2 : (c.2 == c.2) = true := by simp
    ((refine ggb0 (F := _∧_∧_) ⟨@Int.lt_irrefl, cc1, cc2⟩ ?_))
    ((repeat refine AW_seq ?_); (refine wta ?_); simp (disch := omega) only [retQ, resD, oneD, rsv, rs, rsL, rsL_eq_map, List.map_map, bb, bt, zDs, zD, eqCells, simprocAttr, Try.results8])
end Go.Proofs.Ytifmgjieplmbnaa.T
