import Derived.Test.YtpcakodemleoiaaGreatSARHMake
set_option linter.all false
namespace Go.Proofs.YtpcakodemleoiaaGreat.T
open Go Go.RowKit Lin
set_option maxHeartbeats 8000000 in
theorem law_none14 (s : Sy) : PRet Tryz.prog 8 [syD s] (bool true) := by
  refine PRet.intro 1 fun t => ACall.enter tab_ok Tryz.func8 rfl rfl Tryz.ntmps8 (by simp) ?_
  simp only [enterTM]
  have hR := ready14 s
  cases hr : smallS s && validS s
  · rw [hr] at hR
    ((refine gga2 awake14 hR ?_))
    ((repeat refine AW_seq ?_); (refine wta ?_); simp (disch := omega) only [retQ, resD, oneD, rsv, rs, rsL, rsL_eq_map, List.map_map, bb, bt, zDs, zD, eqCells, simprocAttr, Tryz.results8])
  rw [hr] at hR
  rw [Bool.and_eq_true] at hr
  obtain ⟨hs, hv⟩ := hr
  have hf := small_fits hs
  have hI := ideal_ref s (validS_ok hv)
  have hfc := clean_fits hf
  have a1 := raise14 (cleanS s) hfc
  have a2 := lower14 (cleanS s) hfc
  have a3 := haul_prog (cleanS s) hfc
  rw [← force_clean] at a2
  have key := @none_haul s hv
  generalize forceP (cleanS s) true = A at *
  generalize haulP (cleanS s) = B at *
  generalize cleanS s = c at *
  by_cases h1 : B.2 = 0
  · by_cases h2 : A.2 = 0
    · have e1 : (B.2 != 0) = false := by simpa using h1
      have e2 : (A.2 != 0) = false := by simpa using h2
      have key := key h1 h2
      ((refine ggb6 (F := _∧_∧_) ⟨e1, e2, key⟩ awake14 hR hI a1 a2 a3 ?_))
      ((repeat refine AW_seq ?_); (refine wta ?_); simp (disch := omega) only [retQ, resD, oneD, rsv, rs, rsL, rsL_eq_map, List.map_map, bb, bt, zDs, zD, eqCells, simprocAttr, Tryz.results8])
    · have e1 : (B.2 != 0) = false := by simpa using h1
      have e2 : (A.2 != 0) = true := by simpa using h2
      ((refine ggb6 (F := _∧_) ⟨e1, e2⟩ awake14 hR hI a1 a2 a3 ?_))
      ((repeat refine AW_seq ?_); (refine wta ?_); simp (disch := omega) only [retQ, resD, oneD, rsv, rs, rsL, rsL_eq_map, List.map_map, bb, bt, zDs, zD, eqCells, simprocAttr, Tryz.results8])
  · have e1 : (B.2 != 0) = true := by simpa using h1
    cases e2 : (A.2 != 0)
    all_goals
      ((refine ggb6 (F := _∧_) ⟨e1, e2⟩ awake14 hR hI a1 a2 a3 ?_))
      ((repeat refine AW_seq ?_); (refine wta ?_); simp (disch := omega) only [retQ, resD, oneD, rsv, rs, rsL, rsL_eq_map, List.map_map, bb, bt, zDs, zD, eqCells, simprocAttr, Tryz.results8])
set_option maxRecDepth 100000 in
set_option maxHeartbeats 16000000 in
theorem law_exact14 (s : Sy) (part : Int) (hp : 0 ≤ part ∧ part < 256) : PRet Tryz.prog 7 [syD s, .v (.int .u8 part)] (bool true) := by
  refine PRet.intro 1 fun t => ACall.enter tab_ok Tryz.func7 rfl rfl Tryz.ntmps7 (by simp) ?_
  simp only [enterTM]
  have hR := ready14 s
  cases hr : smallS s && validS s
  · rw [hr] at hR
    ((refine gga2 awake14 hR ?_))
    ((repeat refine AW_seq ?_); (refine wta ?_); simp (disch := omega) only [retQ, resD, oneD, rsv, rs, rsL, rsL_eq_map, List.map_map, bb, bt, zDs, zD, eqCells, simprocAttr, Tryz.results7])
  rw [hr] at hR
  rw [Bool.and_eq_true] at hr
  obtain ⟨hs, hv⟩ := hr
  have hf := small_fits hs
  have a1 := hold14 s hf
  have hH := fun f => holds14 s hf f
  have hok := @holdP_ok s
  have his := fun h f => @holdsP_is s h f
  have hHP : holdsP s (0, 1) = if vfrac 0 1 = true then (if (holdP s).2.2 = 0 then (decide (0 ≤ cmpV (0, 1) (holdP s).1) && decide (cmpV (0, 1) (holdP s).2.1 ≤ 0), 0) else (false, (holdP s).2.2)) else (false, 1) := rfl
  generalize holdP s = X at *
  obtain ⟨lo, hi, e⟩ := X
  simp only at *
  by_cases h1 : e = 0
  rotate_left 1
  · have e1 : (e != 0) = true := by simpa using h1
    rw [if_pos (vfrac_one (by omega)), if_neg h1] at hHP
    have h0 := hH (0, 1)
    rw [hHP] at h0
    ((refine ggb4 e1 awake14 hR a1 h0 ?_))
    ((repeat refine AW_seq ?_); (refine wta ?_); simp (disch := omega) only [retQ, resD, oneD, rsv, rs, rsL, rsL_eq_map, List.map_map, bb, bt, zDs, zD, eqCells, simprocAttr, Tryz.results7])
  obtain ⟨_, _, _, _, hle, vl, vh⟩ := hok h1
  subst h1
  have his := fun f => his rfl (f := f)
  have k1 := hH lo
  rw [(his lo vl).1 (leF_refl _) hle] at k1
  have k2 := hH hi
  rw [(his hi vh).1 hle (leF_refl _)] at k2
  clear hHP
  ((refine gga3 awake14 hR a1 ?_))
  ((repeat refine AW_seq ?_))
  refine AW_mid (fun x : Nat => ⟨[(1, .v (.int .u8 part)), (2, .ptr 0 (t + 1) 0), (5, .ptr 1 (t + 1 + 1) 0), (6, .ptr 2 (t + 1 + 1 + 1) 0)], [some ⟨25, t + 1, [bks s.bs, rps s.rs]⟩, some ⟨33, t + 1 + 1, [int lo.1, int lo.2]⟩, some ⟨33, t + 1 + 1 + 1, [int hi.1, int hi.2]⟩], x⟩) (fun _ => True) ?_ ?_
  · refine AW_block ?_
    refine AW_loop_w (fun x : Nat × Nat => ⟨[(1, .v (.int .u8 part)), (2, .ptr 0 (t + 1) 0), (5, .ptr 1 (t + 1 + 1) 0), (6, .ptr 2 (t + 1 + 1 + 1) 0), (61, .sl 2 [int lo.1, int lo.2, int hi.1, int hi.2] true), (62, int 2), (63, int x.1)], [some ⟨25, t + 1, [bks s.bs, rps s.rs]⟩, some ⟨33, t + 1 + 1, [int lo.1, int lo.2]⟩, some ⟨33, t + 1 + 1 + 1, [int hi.1, int hi.2]⟩], x.2⟩) (fun x => 2 - x.1) (fun x => x.1 ≤ 2) (0, t + 1 + 1 + 1) (Nat.zero_le _) (by (simp (disch := omega) only [StLe, tmLe, hpLe_refl, hpLe, bl, bb, bt, zDs, zD, eqCells, simprocAttr])) ?_
    rintro ⟨k, tt⟩ hk
    simp only at hk
    have hk3 : k = 0 ∨ k = 1 ∨ k = 2 := by omega
    rcases hk3 with rfl | rfl | rfl
    · ((refine gga0 ?_))
      ((repeat refine AW_seq ?_))
      refine AW_block ?_
      ((refine gga1 k1 ?_))
      refine ⟨(1, tt + 1 + 1), (by decide : 1 ≤ 2), (by show 2 - 1 < 2 - 0; decide), ?_⟩
      (simp (disch := omega) only [StLe, tmLe, hpLe_refl, hpLe, bl, bb, bt, zDs, zD, eqCells, simprocAttr])
    · ((refine gga0 ?_))
      ((repeat refine AW_seq ?_))
      refine AW_block ?_
      ((refine gga1 k2 ?_))
      refine ⟨(2, tt + 1 + 1), (by decide : 2 ≤ 2), (by show 2 - 2 < 2 - 1; decide), ?_⟩
      (simp (disch := omega) only [StLe, tmLe, hpLe_refl, hpLe, bl, bb, bt, zDs, zD, eqCells, simprocAttr])
    · ((refine gga0 ?_))
      exact ⟨tt, trivial, by (simp (disch := omega) only [StLe, tmLe, hpLe_refl, hpLe, bl, bb, bt, zDs, zD, eqCells, simprocAttr])⟩
  rintro tt -
  have hS := rSub hi lo
  have hMk := make part 255 (by omega) (by omega)
  have mk0 := makeP_ok (n := part) (d := 255) (by omega) (by omega) (by decide)
  have hpv : Val (makeP part 255).1 part 255 := by
    obtain ⟨q1', q2'⟩ := makeP_q (n := part) (d := 255) (by decide) mk0
    exact ⟨q1', by decide, q2'⟩
  have hSe := subP_err vh vl
  have wp := wr64 part (by omega)
  have hmid := fun d q x => @exact_mid lo hi d (makeP part 255).1 q x part vl vh hle hpv hp.1 (by omega)
  have hlit : vfrac 1 1000 = true := by decide
  have hup := fun x => @exact_up hi x vh
  have hdn := fun x => @exact_down lo x vl
  have vS := fun h => subP_valid (a := hi) (b := lo) vh vl h
  generalize makeP part 255 = P at *
  generalize hSS : subP hi lo = S at *
  by_cases s0 : S.2 = 0
  rotate_left 1
  · have e5 : S.2 = 5 := by
      rcases hSe with h | h
      · exact absurd h s0
      · exact h
    have e1 : (S.2 != 0) = true := by simpa using s0
    have e2 : (S.2 == 5) = true := by simpa using e5
    ((refine ggb2 (F := _∧_∧_∧_) ⟨wp, e1, e2, mk0⟩ hS hMk ?_))
    ((repeat refine AW_seq ?_); (refine wta ?_); simp (disch := omega) only [retQ, resD, oneD, rsv, rs, rsL, rsL_eq_map, List.map_map, bb, bt, zDs, zD, eqCells, simprocAttr, Tryz.results7])
  have e1 : (S.2 != 0) = false := by simpa using s0
  have e3 : (P.2 != 0) = false := by simpa using mk0
  have hM := rMul S.1 P.1
  have hMok : (mulP S.1 P.1).2 = 0 → ∀ x, addP lo (mulP S.1 P.1).1 = (x, 0) → leF lo x ∧ leF x hi := fun h x hx => hmid S.1 _ x (Prod.ext rfl s0) (Prod.ext rfl h) hx
  generalize mulP S.1 P.1 = M at *
  have hA := rAdd lo M.1
  have vA : (addP lo M.1).2 = 0 → vfrac (addP lo M.1).1.1 (addP lo M.1).1.2 = true := add0v
  have hB := rAdd hi (1, 1000)
  have vB : (addP hi (1, 1000)).2 = 0 → vfrac (addP hi (1, 1000)).1.1 (addP hi (1, 1000)).1.2 = true := add0v
  have hC := rSub lo (1, 1000)
  have vC : (subP lo (1, 1000)).2 = 0 → vfrac (subP lo (1, 1000)).1.1 (subP lo (1, 1000)).1.2 = true := fun h => subP_valid vl (by decide) h
  have hup : (addP hi (1, 1000)).2 = 0 → ¬ leF (addP hi (1, 1000)).1 hi := fun h => hup _ (Prod.ext rfl h)
  have hdn : (subP lo (1, 1000)).2 = 0 → ¬ leF lo (subP lo (1, 1000)).1 := fun h => hdn _ (Prod.ext rfl h)
  have hMok : M.2 = 0 → (addP lo M.1).2 = 0 → leF lo (addP lo M.1).1 ∧ leF (addP lo M.1).1 hi := fun h h2 => hMok h _ (Prod.ext rfl h2)
  generalize addP lo M.1 = A at *
  generalize addP hi (1, 1000) = B at *
  generalize subP lo (1, 1000) = C at *
  ((refine ggb3 (F := _∧_∧_) ⟨wp, e1, e3⟩ hS hMk hM ?_))
  ((repeat refine AW_seq ?_))
  refine AW_mid (fun x : Nat => ⟨[(2, .ptr 0 (t + 1) 0), (5, .ptr 1 (t + 1 + 1) 0), (6, .ptr 2 (t + 1 + 1 + 1) 0)], [some ⟨25, t + 1, [bks s.bs, rps s.rs]⟩, some ⟨33, t + 1 + 1, [int lo.1, int lo.2]⟩, some ⟨33, t + 1 + 1 + 1, [int hi.1, int hi.2]⟩], x⟩) (fun _ => True) ?_ ?_
  · by_cases m0 : M.2 = 0
    · have f1 : (M.2 == 0) = true := by simpa using m0
      by_cases a0 : A.2 = 0
      · have f2 : (A.2 == 0) = true := by simpa using a0
        obtain ⟨l1, l2⟩ := hMok m0 a0
        have k3 := hH A.1
        rw [(his A.1 (vA a0)).1 l1 l2] at k3
        ((refine ggb2 (F := _∧_) ⟨f1, f2⟩ hA k3 ?_))
        exact ⟨tt + 1 + 1 + 1 + 1, trivial, by (simp (disch := omega) only [StLe, tmLe, hpLe_refl, hpLe, bl, bb, bt, zDs, zD, eqCells, simprocAttr])⟩
      · have f2 : (A.2 == 0) = false := by simpa using a0
        ((refine ggb1 (F := _∧_) ⟨f1, f2⟩ hA ?_))
        exact ⟨tt + 1 + 1 + 1 + 1, trivial, by (simp (disch := omega) only [StLe, tmLe, hpLe_refl, hpLe, bl, bb, bt, zDs, zD, eqCells, simprocAttr])⟩
    · have f1 : (M.2 == 0) = false := by simpa using m0
      ((refine ggb0 f1 ?_))
      exact ⟨tt + 1 + 1 + 1 + 1, trivial, by (simp (disch := omega) only [StLe, tmLe, hpLe_refl, hpLe, bl, bb, bt, zDs, zD, eqCells, simprocAttr])⟩
  rintro t3 -
  ((refine gga1 hB ?_))
  ((repeat refine AW_seq ?_))
  refine AW_mid (fun x : Nat => ⟨[(2, .ptr 0 (t + 1) 0), (5, .ptr 1 (t + 1 + 1) 0), (24, .ptr 3 (t3 + 1) 0)], [some ⟨25, t + 1, [bks s.bs, rps s.rs]⟩, some ⟨33, t + 1 + 1, [int lo.1, int lo.2]⟩, none, some ⟨33, t3 + 1, [int 1, int 1000]⟩], x⟩) (fun _ => True) ?_ ?_
  · by_cases b0 : B.2 = 0
    · have f1 : (B.2 == 0) = true := by simpa using b0
      have k3 := hH B.1
      rw [(his B.1 (vB b0)).2.2 (hup b0)] at k3
      ((refine ggb1 f1 k3 ?_))
      exact ⟨t3 + 1 + 1, trivial, by (simp (disch := omega) only [StLe, tmLe, hpLe_refl, hpLe, bl, bb, bt, zDs, zD, eqCells, simprocAttr])⟩
    · have f1 : (B.2 == 0) = false := by simpa using b0
      ((refine ggb0 f1 ?_))
      exact ⟨t3 + 1 + 1, trivial, by (simp (disch := omega) only [StLe, tmLe, hpLe_refl, hpLe, bl, bb, bt, zDs, zD, eqCells, simprocAttr])⟩
  rintro t4 -
  by_cases c0 : C.2 = 0
  · have f1 : (C.2 == 0) = true := by simpa using c0
    have k3 := hH C.1
    rw [(his C.1 (vC c0)).2.1 (hdn c0)] at k3
    ((refine ggb2 f1 hC k3 ?_))
    ((repeat refine AW_seq ?_); (refine wta ?_); simp (disch := omega) only [retQ, resD, oneD, rsv, rs, rsL, rsL_eq_map, List.map_map, bb, bt, zDs, zD, eqCells, simprocAttr, Tryz.results7])
  · have f1 : (C.2 == 0) = false := by simpa using c0
    ((refine ggb1 f1 hC ?_))
    ((repeat refine AW_seq ?_); (refine wta ?_); simp (disch := omega) only [retQ, resD, oneD, rsv, rs, rsL, rsL_eq_map, List.map_map, bb, bt, zDs, zD, eqCells, simprocAttr, Tryz.results7])
end Go.Proofs.YtpcakodemleoiaaGreat.T
