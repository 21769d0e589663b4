import Derived.Test.YtifmgjieplmbnaaMGI
set_option linter.all false
namespace Go.Proofs.Ytifmgjieplmbnaa.T
open Go Go.RowKit Lin
set_option linter.unusedSimpArgs false

/-! Chapter 12: the law of multiplied hauls. -/
def mulC (h : List Int) (n : Int) (k : Nat) : List Int := (h.take k).map (· * n) ++ h.drop k
theorem mulC_len (h : List Int) (n : Int) (k : Nat) : (mulC h n k).length = h.length := by simp [mulC]; omega
theorem mulC_get {h : List Int} {n x : Int} {k : Nat} (hx : h[k]? = some x) : (mulC h n k)[k]? = some x := by
  have hk := (List.getElem?_eq_some_iff.1 hx).1
  unfold mulC
  rw [List.getElem?_append_right (by simp; omega)]
  simp only [List.length_map, List.length_take, Nat.min_eq_left (Nat.le_of_lt hk), Nat.sub_self, List.getElem?_drop, Nat.add_zero]
  exact hx
theorem mulC_set {h : List Int} {n x : Int} {k : Nat} (hx : h[k]? = some x) : ((mulC h n k).map int).set k (int (x * n)) = (mulC h n (k + 1)).map int := by
  obtain ⟨hk, e⟩ := List.getElem?_eq_some_iff.1 hx
  rw [← List.map_set]
  congr 1
  unfold mulC
  have : k - ((h.take k).map (· * n)).length = 0 := by simp; omega
  rw [List.set_append_right _ _ (by simp; omega), this, List.drop_eq_getElem_cons hk, List.set_cons_zero, List.take_add_one, hx]
  simp
theorem mulC_end (h : List Int) (n : Int) : mulC h n h.length = h.map (· * n) := by simp [mulC]
set_option maxHeartbeats 8000000 in
theorem law_goes (s : Sy) (h : List Int) (n k : Int) (hn : -128 ≤ n ∧ n < 128) (hk : 0 ≤ k ∧ k < 256) : PRet Try.prog 14 [syD s, ints h, .v (.int .i8 n), .v (.int .u8 k)] (bool true) := by
  refine PRet.intro 1 fun t => ACall.enter tab_ok Try.func14 rfl rfl Try.ntmps14 (by simp) ?_
  simp only [enterTM]
  have hRt := right12 s h
  have f0 : frC [] = [] := rfl
  cases hr : rightP s h
  · rw [hr] at hRt
    ((refine gga2 awake12 hRt ?_))
    ((repeat refine AW_seq ?_); (refine wta ?_); simp (disch := omega) only [retQ, resD, oneD, rsv, rs, rsL, rsL_eq_map, List.map_map, bb, bt, zDs, zD, eqCells, simprocAttr, Try.results14])
  rw [hr] at hRt
  obtain ⟨hs, hg⟩ := rightP_ok hr
  have hf := small_fits hs
  obtain ⟨hv, hz, hrg⟩ := givH_zero hg
  have ok := validS_ok hv
  have b1 := ok.b1
  have b6 := ok.b6
  have r6 := ok.r6
  have hSp := speeds_prog s hf h (by omega)
  obtain ⟨hc1, hc2⟩ := speedsP_right hg
  have hgo := speeds_go (s := s) (h := h)
  have hmul := fun e => speeds_mul (s := s) (h := h) e n
  have honly := speeds_only (s := s) (h := h)
  have hfull := speedsP_full (s := s) (h := h)
  have hle := speedsP_le s h
  have hCk := check12 s hf h (by omega) (speedsP s h).1 (by omega)
  have hval := speedsP_val (s := s) (h := h)
  generalize speedsP s h = X at *
  cases hx : (X.2 == 0)
  · have hxn : X.2 ≠ 0 := by simpa using hx
    have hnl := hc2 hxn
    obtain ⟨X1, X2⟩ := X
    simp only at hnl hx hc1 hxn
    subst hnl
    rcases hc1 with e | rfl | rfl
    · exact absurd e hxn
    · ((refine ggb3 f0 awake12 hRt hSp ?_))
      ((repeat refine AW_seq ?_); (refine wta ?_); simp (disch := omega) only [retQ, resD, oneD, rsv, rs, rsL, rsL_eq_map, List.map_map, bb, bt, zDs, zD, eqCells, simprocAttr, Try.results14])
    · ((refine ggb3 f0 awake12 hRt hSp ?_))
      ((repeat refine AW_seq ?_); (refine wta ?_); simp (disch := omega) only [retQ, resD, oneD, rsv, rs, rsL, rsL_eq_map, List.map_map, bb, bt, zDs, zD, eqCells, simprocAttr, Try.results14])
  have hx0 : X.2 = 0 := by simpa using hx
  have hx' : (X.2 != 0) = false := by simpa using hx
  have hgo := hgo hx0
  have hmul := hmul hx0
  have honly := fun {i : Nat} {f : Int × Int} => honly hx0 (i := i) (f := f)
  obtain ⟨_, hXl⟩ := hfull hx0
  obtain ⟨Z, D, hD, _, _, hXv⟩ := hval hx0
  have hXd := frC_div X.1
  have hSm := speeds_prog s hf (h.map (· * n)) (by simp; omega)
  have hmle := speedsP_le s (h.map (· * n))
  have hCi := cloneInts h (by omega)
  generalize speedsP s (h.map (· * n)) = W at *
  generalize chkM s h X.1 = C at *
  ((refine ggb3 hx' awake12 hRt hSp ?_))
  ((refine wka1 hCk ?_))
  ((refine wra ?_)); ((refine wea ?_); (try clear hKR KR))
  ((repeat refine AW_seq ?_))
  refine AW_mid (fun x : Nat => ⟨[(1, ints h), (2, .v (.int .i8 n)), (3, .v (.int .u8 k)), (4, .ptr 0 (t + 1) 0), (9, frs X.1), (66, bool false)], [some ⟨25, t + 1, [bks s.bs, rps s.rs]⟩], x⟩) (fun _ => True) ?_ ?_
  · rcases hgo with e | rfl
    · have d1 : (C.2 != 5) = false := by rw [e]; rfl
      ((refine wqb d1 ?_))
      exact ⟨t + 1, trivial, by (simp (disch := omega) only [StLe, tmLe, hpLe_refl, hpLe, bl, bb, bt, zDs, zD, eqCells, simprocAttr])⟩
    · ((refine wqa ?_))
      exact ⟨t + 1, trivial, by (simp (disch := omega) only [StLe, tmLe, hpLe_refl, hpLe, bl, bb, bt, zDs, zD, eqCells, simprocAttr])⟩
  rintro t1 -
  clear hgo hCk
  ((refine gga0 ?_))
  ((try with_reducible intro KR hKR); (first | refine awOps_nc fun KK hKK => ?_ | refine awOps_gc rfl fun KK hKK => ?_); simp (disch := omega) only [bb, bt, zDs, zD, eqCells, simprocAttr, goC, callO_fn, argsD, and_self])
  refine ACall.of_fresh hCi (by first | (simp only [List.map_cons, List.map_nil, List.append_nil, List.nil_append, List.cons_append, ufa, uf]; done) | rfl) ?_
  (simp (disch := omega) only [bb, bt, zDs, zD, eqCells, simprocAttr, afterC]; refine hKK _ ?_; clear hKK KK)
  ((refine wra ?_)); ((refine wea ?_); (try clear hKR KR))
  ((refine gga0 ?_))
  ((repeat refine AW_seq ?_))
  refine AW_mid (fun x : Nat => ⟨[(1, ints h), (3, .v (.int .u8 k)), (4, .ptr 0 (t + 1) 0), (9, frs X.1), (13, int n), (14, .own 1 1 (t1 + 1) 0 h.length)], [some ⟨25, t + 1, [bks s.bs, rps s.rs]⟩, some ⟨3, t1 + 1, (h.map (· * n)).map int⟩], x⟩) (fun _ => True) ?_ ?_
  · refine AW_block ?_
    refine AW_loop_w (fun x : Nat × Nat => ⟨[(1, ints h), (3, .v (.int .u8 k)), (4, .ptr 0 (t + 1) 0), (9, frs X.1), (13, int n), (14, .own 1 1 (t1 + 1) 0 h.length), (72, int h.length), (73, int x.1)], [some ⟨25, t + 1, [bks s.bs, rps s.rs]⟩, some ⟨3, t1 + 1, (mulC h n x.1).map int⟩], x.2⟩) (fun x => h.length - x.1) (fun x => x.1 ≤ h.length) (0, t1 + 1) (Nat.zero_le _) (by (simp (disch := omega) only [StLe, tmLe, hpLe_refl, hpLe, bl, bb, bt, zDs, zD, eqCells, simprocAttr, mulC])) ?_
    rintro ⟨j, tt⟩ hj
    simp only at hj
    by_cases hlt : j < h.length
    · obtain ⟨x, hxj⟩ : ∃ y, h[j]? = some y := ⟨_, List.getElem?_eq_getElem hlt⟩
      have hxb := (rangedP_at hrg (List.getElem?_eq_getElem (show j < s.rs.length by omega)) hxj).1
      have hpb := Lin.abs_mul_le (A := 67108864) (B := 128) hxb (by omega : -128 ≤ n ∧ n ≤ 128)
      have hget := mulC_get (n := n) hxj
      have hset := mulC_set (n := n) hxj
      have hcl := mulC_len h n j
      ((refine ggb0 (F := _∧_) ⟨@Int.ofNat_lt, hlt⟩ ?_))
      ((repeat refine AW_seq ?_))
      refine AW_block ?_
      ((refine ggb0 (F := _∧_∧_∧_) ⟨hlt, hget, hset, hcl⟩ ?_))
      refine ⟨(j + 1, tt), hlt, by show h.length - (j + 1) < h.length - j; omega, ?_⟩
      (simp (disch := omega) only [StLe, tmLe, hpLe_refl, hpLe, bl, bb, bt, zDs, zD, eqCells, simprocAttr])
    · have hje : j = h.length := by omega
      subst hje
      rw [mulC_end]
      ((refine wqb @Int.lt_irrefl ?_))
      ((refine wia ?_))
      ((refine wxa ?_))
      exact ⟨tt, trivial, by (simp (disch := omega) only [StLe, tmLe, hpLe_refl, hpLe, bl, bb, bt, zDs, zD, eqCells, simprocAttr])⟩
  rintro t2 -
  have hfin : List.take h.length ((h.map (· * n)).map int) = (h.map (· * n)).map int := List.take_of_length_le (by simp)
  ((refine AW.freeze (1) (by first | rfl | (simp only [setH, List.getElem?_cons_zero, List.getElem?_cons_succ, fz_bk, fz_rp, fz_frS, hfin, List.length_map, Nat.le_refl]; done)) ?_); simp (disch := omega) only [fzT, fz, fzL, fzL_ints, fzL_mat, fzH, fzB, eq_self, bb, bt, zDs, zD, eqCells, simprocAttr, fz_bk, fz_rp, fz_frS, hfin, List.length_map, Nat.le_refl])
  have hWd := frC_div W.1
  rcases hmul with hW2 | ⟨hW0, hWl, hWv⟩
  · have e1 : (W.2 != 0) = true := by rw [hW2]; rfl
    have e2 : (W.2 == 2) = true := by rw [hW2]; rfl
    ((refine ggb1 (F := _∧_) ⟨e1, e2⟩ hSm ?_))
    ((repeat refine AW_seq ?_); (refine wta ?_); simp (disch := omega) only [retQ, resD, oneD, rsv, rs, rsL, rsL_eq_map, List.map_map, bb, bt, zDs, zD, eqCells, simprocAttr, Try.results14])
  have e1 : (W.2 != 0) = false := by rw [hW0]; rfl
  have e3 : ((W.1.length : Int) != (X.1.length : Int)) = false := by simp [hWl, hXl]
  ((refine ggb1 (F := _∧_∧_∧_) ⟨e1, e3, hWd, hXd⟩ hSm ?_))
  ((repeat refine AW_seq ?_))
  refine AW_mid (fun x : Nat => ⟨[(1, ints h), (3, .v (.int .u8 k)), (4, .ptr 0 (t + 1) 0), (9, frs X.1)], [some ⟨25, t + 1, [bks s.bs, rps s.rs]⟩], x⟩) (fun _ => True) ?_ ?_
  · refine AW_block ?_
    refine AW_loop_w (fun x : Nat × Nat => ⟨[(1, ints h), (3, .v (.int .u8 k)), (4, .ptr 0 (t + 1) 0), (9, frs X.1), (13, int n), (16, frs W.1), (102, int X.1.length), (103, int x.1)], [some ⟨25, t + 1, [bks s.bs, rps s.rs]⟩], x.2⟩) (fun x => X.1.length - x.1) (fun x => x.1 ≤ X.1.length) (0, t2) (Nat.zero_le _) (by (simp (disch := omega) only [StLe, tmLe, hpLe_refl, hpLe, bl, bb, bt, zDs, zD, eqCells, simprocAttr])) ?_
    rintro ⟨j, tt⟩ hj
    simp only at hj
    by_cases hlt : j < X.1.length
    · obtain ⟨f, hfj⟩ : ∃ y, X.1[j]? = some y := ⟨_, List.getElem?_eq_getElem hlt⟩
      have hjw : j < W.1.length := by omega
      obtain ⟨g, hgj⟩ : ∃ y, W.1[j]? = some y := ⟨_, List.getElem?_eq_getElem hjw⟩
      have hrf := frC_read X.1 j f hfj
      have hrg2 := frC_read W.1 j g hgj
      have hst := hWv j f g hfj hgj (vfrac_one (by omega))
      have hO := of12 n
      have hM := rMul f (n, 1)
      generalize mulP f (n, 1) = y at *
      ((refine ggb0 (F := _∧_) ⟨@Int.ofNat_lt, hlt⟩ ?_))
      ((repeat refine AW_seq ?_))
      refine AW_block ?_
      ((refine gga0 ?_))
      ((repeat refine AW_seq ?_); (refine gdob2 (F := _∧_∧_) ⟨hXd, hlt, hrf⟩ hO hM ?_))
      cases hy : (y.2 == 0)
      · ((repeat refine AW_seq ?_); (refine gdzb hy ?_))
        ((refine gga0 ?_))
        refine ⟨(j + 1, tt + 1 + 1), hlt, by show X.1.length - (j + 1) < X.1.length - j; omega, ?_⟩
        (simp (disch := omega) only [StLe, tmLe, hpLe_refl, hpLe, bl, bb, bt, zDs, zD, eqCells, simprocAttr])
      · have hyg := hst (by simpa using hy)
        have g1 : (y.1.1 != g.1) = false := by rw [hyg]; simp
        have g2 : (y.1.2 != g.2) = false := by rw [hyg]; simp
        have g3 : (y.1.1 == g.1) = true := by rw [hyg]; simp
        have g4 : (y.1.2 == g.2) = true := by rw [hyg]; simp
        ((repeat refine AW_seq ?_); (refine gdzb (F := _∧_∧_∧_∧_∧_∧_∧_) ⟨hy, hWd, hjw, hrg2, g1, g2, g3, g4⟩ ?_))
        ((refine gga0 ?_))
        refine ⟨(j + 1, tt + 1 + 1), hlt, by show X.1.length - (j + 1) < X.1.length - j; omega, ?_⟩
        (simp (disch := omega) only [StLe, tmLe, hpLe_refl, hpLe, bl, bb, bt, zDs, zD, eqCells, simprocAttr])
    · have hje : j = X.1.length := by omega
      subst hje
      ((refine wqb @Int.lt_irrefl ?_))
      ((refine wia ?_))
      ((refine wxa ?_))
      exact ⟨tt, trivial, by (simp (disch := omega) only [StLe, tmLe, hpLe_refl, hpLe, bl, bb, bt, zDs, zD, eqCells, simprocAttr])⟩
  rintro t3 -
  have hCf := cloneFr X.1 (by omega)
  ((refine gga0 ?_))
  ((try with_reducible intro KR hKR); (first | refine awOps_nc fun KK hKK => ?_ | refine awOps_gc rfl fun KK hKK => ?_); simp (disch := omega) only [bb, bt, zDs, zD, eqCells, simprocAttr, goC, callO_fn, argsD, and_self])
  refine ACall.of_fresh hCf (by first | (simp only [List.map_cons, List.map_nil, List.append_nil, List.nil_append, List.cons_append, ufa, uf]; done) | rfl) ?_
  (simp (disch := omega) only [bb, bt, zDs, zD, eqCells, simprocAttr, afterC]; refine hKK _ ?_; clear hKK KK)
  ((refine wra ?_)); ((refine wea ?_); (try clear hKR KR))
  obtain ⟨nk, rfl⟩ : ∃ n : Nat, k = (n : Int) := ⟨k.toNat, by omega⟩
  have ek : Int.tmod (nk : Int) (X.1.length : Int) = ((nk % X.1.length : Nat) : Int) := rfl
  have hA : nk % X.1.length < X.1.length := Nat.mod_lt _ (by omega)
  have hl0 : ¬ (X.1.length : Int) = 0 := by omega
  generalize nk % X.1.length = i at *
  obtain ⟨f, hfi⟩ : ∃ y, X.1[i]? = some y := ⟨_, List.getElem?_eq_getElem hA⟩
  have hra := frC_read X.1 i f hfi
  have hO := of12 1
  have hAd := rAdd f (1, 1)
  have hon := honly hfi
  have herr : (addP f (1, 1)).2 = 0 ∨ (addP f (1, 1)).2 = 5 := by
    have hfv := (hXv i f hfi).v
    rw [addP_ok (b := (1, 1)) hfv (by decide)]
    exact addR_err hfv (by decide)
  have hCk := check12 s hf h (by omega) (X.1.set i (addP f (1, 1)).1) (by simp; omega)
  have hset := frC_set X.1 i (addP f (1, 1)).1.1 (addP f (1, 1)).1.2 hA
  have hsl : (X.1.set i (addP f (1, 1)).1).length = X.1.length := by simp
  generalize addP f (1, 1) = x at *
  generalize hl2 : X.1.set i x.1 = l2 at *
  generalize chkM s h l2 = C2 at *
  ((refine wqb (F := _∧_∧_) ⟨hXd, ek, hl0⟩ ?_))
  ((repeat refine AW_seq ?_); (refine gdob2 (F := _∧_∧_) ⟨hXd, hA, hra⟩ hO hAd ?_))
  rcases herr with hx00 | hx5
  rotate_left 1
  · have x1 : (x.2 != 0) = true := by rw [hx5]; rfl
    have x2 : (x.2 == 5) = true := by rw [hx5]; rfl
    ((refine ggb0 (F := _∧_) ⟨x1, x2⟩ ?_))
    ((repeat refine AW_seq ?_); (refine wta ?_); simp (disch := omega) only [retQ, resD, oneD, rsv, rs, rsL, rsL_eq_map, List.map_map, bb, bt, zDs, zD, eqCells, simprocAttr, Try.results14])
  have x1 : (x.2 != 0) = false := by rw [hx00]; rfl
  have hon := hon hx00
  ((refine wqb x1 ?_))
  ((refine wia ?_))
  ((refine wsa ?_))
  ((refine wqb (F := _∧_∧_) ⟨hA, hXd, hset⟩ ?_))
  have hfin2 : List.take (X.1.length * 2) (frC l2) = frC l2 := List.take_of_length_le (by rw [frC_len, hsl]; exact Nat.le_refl _)
  ((refine AW.freeze (1) (by first | rfl | (simp only [setH, List.getElem?_cons_zero, List.getElem?_cons_succ, fz_frS, fz_bk, fz_rp, hfin2, frC_len, hsl, Nat.le_refl]; done)) ?_); simp (disch := omega) only [fzT, fz, fzL, fzL_ints, fzL_mat, fzH, fzB, eq_self, bb, bt, zDs, zD, eqCells, simprocAttr, fz_frS, fz_bk, fz_rp, hfin2, frC_len, hsl, Nat.le_refl])
  rcases hon with e | rfl
  · have y1 : (C2.2 == 5) = true := by rw [e]; rfl
    ((refine ggb1 y1 hCk ?_))
    ((repeat refine AW_seq ?_); (refine wta ?_); simp (disch := omega) only [retQ, resD, oneD, rsv, rs, rsL, rsL_eq_map, List.map_map, bb, bt, zDs, zD, eqCells, simprocAttr, Try.results14])
  · ((refine gga1 hCk ?_))
    ((repeat refine AW_seq ?_); (refine wta ?_); simp (disch := omega) only [retQ, resD, oneD, rsv, rs, rsL, rsL_eq_map, List.map_map, bb, bt, zDs, zD, eqCells, simprocAttr, Try.results14])
end Go.Proofs.Ytifmgjieplmbnaa.T
