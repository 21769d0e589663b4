import Derived.Test.YtalhegbjlfkipaaGWU
set_option linter.all false
namespace Go.Proofs.Ytalhegbjlfkipaa.T
open Go Go.RowKit Gr
set_option linter.unusedSimpArgs false

/-! Graphs: Bridges of the program. -/
theorem usedP_all' (E : List (Nat × Nat)) : usedP E (fun _ => true) = List.range E.length := by unfold usedP; simp
set_option maxHeartbeats 2000000 in
theorem bridgesG (n : Nat) (E : List (Nat × Nat)) (ho : Ok n E) (hv : validG n (edN E) = true) (hn : n ≤ 1000) (hE : E.length ≤ 4000) :
    PRet Try.prog 11 [int n, eds (edN E)] (.tup [ints (nl (bridgesP E)), int 0]) := by
  refine PRet.intro 2 fun t => ACall.enter tab_ok Try.func11 rfl rfl Try.ntmps11 (by simp) ?_
  simp only [enterTM]
  have hV := valid n (edN E) (by rw [edN_len]; omega)
  rw [hv] at hV
  have hdiv : (edC (edN E)).length / 2 = E.length := by rw [edC_div, edN_len]
  have hB := besideG n E ho hn hE 38 [] (fun _ => true) (fun k _ => bridgesTrue k)
  have hz : (List.replicate n [D.v (Value.int IntKind.i64 0)]).flatten = nD (List.replicate n 0) := by
    rw [flat_one]; simp [nD, nl]
  have hzb : (List.replicate E.length [D.v (Value.bool false)]).flatten = bD (List.replicate E.length false) := by
    rw [flat_one]; simp [bD]
  generalize hPM : (psA n E (fun _ => true) E.length).map nl = PM at *
  ((refine wqa ?_))
  ((repeat refine AW_seq ?_); (refine AW_region_k tab_ok fun KR hKR => ?_)); ((refine wra ?_))
  ((refine wka1 hV ?_))
  ((refine wra ?_)); ((refine wea ?_); (try clear hKR KR))
  ((refine wia ?_))
  ((refine wsa ?_))
  ((repeat refine AW_seq ?_); (refine AW_region_k tab_ok fun KR hKR => ?_)); ((refine wra ?_))
  ((refine wka1 hB ?_))
  ((refine wra ?_)); ((refine wea ?_); (try clear hKR KR))
  ((repeat refine AW_seq ?_))
  ((refine AW.freeze (0) (by first | rfl | (simp only [setH, List.getElem?_cons_zero, List.getElem?_cons_succ, fz_ed, fzL_mat]; done)) ?_); simp (disch := omega) only [fzT, fz, fzL, fzL_ints, fzL_mat, fzH, fzB, eq_self, bb, bt, zDs, zD, eqCells, simprocAttr, fz_ed, fzL_mat])
  ((refine AW.freeze (1) (by first | rfl | (simp only [setH, List.getElem?_cons_zero, List.getElem?_cons_succ, fz_ed, fzL_mat]; done)) ?_); simp (disch := omega) only [fzT, fz, fzL, fzL_ints, fzL_mat, fzH, fzB, eq_self, bb, bt, zDs, zD, eqCells, simprocAttr, fz_ed, fzL_mat])
  ((repeat refine AW_seq ?_))
  ((repeat refine AW_seq ?_); (refine AW_drawn_k tab_ok follows_mixed 4 fun KR hKR => ?_); simp only [List.replicate_succ, List.replicate_zero, List.append_nil, List.nil_append, List.cons_append, List.length_cons, List.length_nil, Nat.reduceAdd])
  ((refine wdb hz ?_))
  ((refine awD_nil ?_); simp only [List.reverse_cons, List.reverse_nil, List.nil_append, List.cons_append]; (refine hKR _ _ (by first | rfl | kernel_rfl) ?_); (try clear hKR KR); (repeat (with_reducible first | refine q1 ?_ | refine q2 ?_ | refine q3 ?_ | refine q4 ?_ | refine q5 ?_ | refine q6 ?_ | (refine q7 ?_ ?_; (focus (with_unfolding_all rfl))))))
  ((refine wqb (F := _∧_) ⟨hdiv, hzb⟩ ?_))
  ((repeat refine AW_seq ?_))
  ((refine AW.freeze (4) (by first | rfl | (simp only [setH, List.getElem?_cons_zero, List.getElem?_cons_succ, fz_ed, fzL_mat, fz_nD, fz_bD]; done)) ?_); simp (disch := omega) only [fzT, fz, fzL, fzL_ints, fzL_mat, fzH, fzB, eq_self, bb, bt, zDs, zD, eqCells, simprocAttr, fz_ed, fzL_mat, fz_nD, fz_bD])
  ((refine AW.freeze (5) (by first | rfl | (simp only [setH, List.getElem?_cons_zero, List.getElem?_cons_succ, fz_ed, fzL_mat, fz_nD, fz_bD]; done)) ?_); simp (disch := omega) only [fzT, fz, fzL, fzL_ints, fzL_mat, fzH, fzB, eq_self, bb, bt, zDs, zD, eqCells, simprocAttr, fz_ed, fzL_mat, fz_nD, fz_bD])
  ((refine AW.freeze (7) (by first | rfl | (simp only [setH, List.getElem?_cons_zero, List.getElem?_cons_succ, fz_ed, fzL_mat, fz_nD, fz_bD]; done)) ?_); simp (disch := omega) only [fzT, fz, fzL, fzL_ints, fzL_mat, fzH, fzB, eq_self, bb, bt, zDs, zD, eqCells, simprocAttr, fz_ed, fzL_mat, fz_nD, fz_bD])
  ((refine wqa ?_))
  ((refine wqa ?_))
  ((refine wqa ?_))
  have hat : ∀ x k, k ∈ atL E (fun _ => true) E.length x ↔ ∃ y, oth E k x = some y := fun x k => by
    rw [atL_mem, usedP_all', List.mem_range, Option.isSome_iff_exists]
    exact ⟨fun h => h.2, fun h => ⟨h.elim fun y hy => oth_idx hy, h⟩⟩
  have hPMl : PM.length = n := by rw [← hPM, List.length_map]; exact psA_len n E _ _
  have hrow : ∀ x, x < n → PM[x]? = some (nl (atL E (fun _ => true) E.length x)) := fun x hx => by rw [← hPM]; exact psA_row E _ _ hx
  have hV := visit_call n E ho hn hE (t + 1 + 1 + 1) (t + 1 + 1 + 1 + 1) (t + 1 + 1 + 1 + 1 + 1 + 1) (t + 1 + 1 + 1 + 1 + 1 + 1 + 1) (atL E (fun _ => true) E.length) hat (fun x => atL_len E _ _ x) PM hPMl hrow n
  have hcnt := visit_cnt (at_ := atL E (fun _ => true) E.length) ho hat n
  have hfin := dfs_bridges (at_ := atL E (fun _ => true) E.length) ho hat
  generalize atL E (fun _ => true) E.length = at_ at *
  have h0 := All.start n E
  have hc0 : (0 : Nat) + unv ⟨0, List.replicate n 0, List.replicate n 0, List.replicate E.length false⟩ = n := by
    simp [unv]
  unfold dfsP at hfin
  generalize hs0 : (⟨0, List.replicate n 0, List.replicate n 0, List.replicate E.length false⟩ : DF) = s0 at *
  have e1 : List.replicate n 0 = s0.od := by rw [← hs0]
  have e2 : List.replicate n 0 = s0.lw := by rw [← hs0]
  have e3 : List.replicate E.length false = s0.br := by rw [← hs0]
  have e4 : s0.ct = 0 := by rw [← hs0]
  have hc0 : s0.ct + unv s0 = n := by rw [e4]; exact hc0
  ((refine wqa ?_))
  ((repeat refine AW_seq ?_))
  refine AW_mid (fun x : Nat => ⟨[(9, .rp [.own 1 6 (t + 1 + 1 + 1 + 1) 0 E.length] 0)], [none, none, none, none, none, none, some ⟨4, (t + 1 + 1 + 1 + 1), bD ((List.range E.length).map (bridgeP E))⟩], x⟩) (fun _ => True) ?_ ?_
  · refine AW_block ?_
    refine AW_loop_w (fun x : (Nat × DF) × Nat => ⟨[(7, .rp [.own 1 2 (t + 1 + 1 + 1) 0 n] 0), (9, .rp [.own 1 6 (t + 1 + 1 + 1 + 1) 0 E.length] 0), (11, .ptr 9 (t + 1 + 1 + 1 + 1 + 1 + 1 + 1) 0), (28, int n), (29, int x.1.1)], [none, none, some ⟨3, (t + 1 + 1 + 1), nD x.1.2.od⟩, some ⟨3, (t + 1 + 1 + 1), nD x.1.2.lw⟩, none, none, some ⟨4, (t + 1 + 1 + 1 + 1), bD x.1.2.br⟩, none, some ⟨3, (t + 1 + 1 + 1 + 1 + 1 + 1), [int x.1.2.ct]⟩, some ⟨56, (t + 1 + 1 + 1 + 1 + 1 + 1 + 1), [.fn 39 [.ptr 8 (t + 1 + 1 + 1 + 1 + 1 + 1) 0, .rp [.own 1 2 (t + 1 + 1 + 1) 0 n] 0, .rp [.own 1 3 (t + 1 + 1 + 1) 0 n] 0, .rp [mat PM] 0, .rp [eds (edN E)] 0, .ptr 9 (t + 1 + 1 + 1 + 1 + 1 + 1 + 1) 0, .rp [.own 1 6 (t + 1 + 1 + 1 + 1) 0 E.length] 0]]⟩], x.2⟩) (fun x => n - x.1.1)
      (fun x => x.1.1 ≤ n ∧ x.1.2 = (List.range x.1.1).foldl (fun s x => if s.o x = 0 then visitP E at_ n x (-1) s else s) s0 ∧ All n E x.1.2 ∧ x.1.2.ct + unv x.1.2 = n) ((0, s0), t + 1 + 1 + 1 + 1 + 1 + 1 + 1) ⟨Nat.zero_le _, rfl, h0, hc0⟩ (by
        rw [← e3]
        simp only [e4]
        have e5 : nD s0.od = nD (List.replicate n 0) := by rw [e1]
        have e6 : nD s0.lw = nD (List.replicate n 0) := by rw [e2]
        rw [e5, e6]
        (simp (disch := omega) only [StLe, tmLe, hpLe_refl, hpLe, bl, bb, bt, zDs, zD, eqCells, simprocAttr])) ?_
    rintro ⟨⟨i, s⟩, tt⟩ ⟨hi, hs, hA, hc⟩
    simp only at hi hs hA hc
    by_cases hlt : i < n
    · have hsn : (List.range (i + 1)).foldl (fun s x => if s.o x = 0 then visitP E at_ n x (-1) s else s) s0 = if s.o i = 0 then visitP E at_ n i (-1) s else s := by
        rw [List.range_succ, List.foldl_append, ← hs]; rfl
      have hod := hA.len.od
      have k1 := nD_len s.od
      have d1 : (nD s.od)[i]? = some (int (s.o i)) := nD_get (getD_get (by omega))
      ((refine ggb0 (F := _∧_) ⟨@Int.ofNat_lt, hlt⟩ ?_))
      ((repeat refine AW_seq ?_))
      refine AW_block ?_
      by_cases hz : s.o i = 0
      · have e7 : ((s.o i : Int) == 0) = true := by simp [hz]
        rw [if_pos hz] at hsn
        have hpre := hA.pre hlt (by unfold DF.vis; omega)
        have q := visit_post ho hat n s i (-1) hpre (unv_n hA.len)
        have hc2 := hcnt s i (-1) hpre (unv_n hA.len) hc
        ((refine ggb0 (F := _∧_∧_∧_∧_) ⟨hlt, hod, k1, d1, e7⟩ ?_))
        ((try with_reducible intro KR hKR); (first | refine awOps_nc fun KK hKK => ?_ | refine awOps_gc rfl fun KK hKK => ?_); simp (disch := omega) only [bb, bt, zDs, zD, eqCells, simprocAttr, goC, callO_fn, argsD, and_self])
        refine (hV s i (-1) tt hpre (unv_n hA.len) hc).mono ?_
        rintro d H' t' ⟨rfl, ht'⟩
        simp only [HV, capsV]
        (simp (disch := omega) only [bb, bt, zDs, zD, eqCells, simprocAttr, afterC]; refine hKK _ ?_; clear hKK KK)
        ((refine wra ?_))
        ((refine wea ?_); (try clear hKR KR))
        ((refine gga0 ?_))
        refine ⟨((i + 1, visitP E at_ n i (-1) s), t'), ⟨hlt, hsn.symm, hA.next ho q, hc2⟩, by show n - (i + 1) < n - i; omega, ?_⟩
        (simp (disch := omega) only [StLe, tmLe, hpLe_refl, hpLe, bl, bb, bt, zDs, zD, eqCells, simprocAttr])
      · have e7 : ((s.o i : Int) == 0) = false := by simp; omega
        rw [if_neg hz] at hsn
        ((refine ggb0 (F := _∧_∧_∧_∧_) ⟨hlt, hod, k1, d1, e7⟩ ?_))
        refine ⟨((i + 1, s), tt), ⟨hlt, hsn.symm, hA, hc⟩, by show n - (i + 1) < n - i; omega, ?_⟩
        (simp (disch := omega) only [StLe, tmLe, hpLe_refl, hpLe, bl, bb, bt, zDs, zD, eqCells, simprocAttr])
    · have hie : i = n := by omega
      subst hie
      rw [← hs] at hfin
      ((refine ggb0 @Int.lt_irrefl ?_))
      refine ⟨tt, trivial, ?_⟩
      rw [← hfin]
      (simp (disch := omega) only [StLe, tmLe, hpLe_refl, hpLe, bl, bb, bt, zDs, zD, eqCells, simprocAttr])
  rintro tt -
  have hbl : (bD ((List.range E.length).map (bridgeP E))).length = E.length := by rw [bD_len]; simp
  have hfn : List.take E.length (bD ((List.range E.length).map (bridgeP E))) = ((List.range E.length).map (bridgeP E)).map bool := List.take_of_length_le (by rw [hbl]; exact Nat.le_refl _)
  have hI := indicesB ((List.range E.length).map (bridgeP E)) true (by simp; omega)
  have hids : idsP ((List.range E.length).map (bridgeP E)) true E.length = bridgesP E := by
    unfold idsP bridgesP
    refine List.filter_congr fun i hi => ?_
    have : i < E.length := by simpa using hi
    simp [this]
  rw [List.length_map, List.length_range, hids] at hI
  ((refine AW.freeze (6) (by first | rfl | (simp only [setH, List.getElem?_cons_zero, List.getElem?_cons_succ, hbl, hfn, Nat.le_refl]; done)) ?_); simp (disch := omega) only [fzT, fz, fzL, fzL_ints, fzL_mat, fzH, fzB, eq_self, bb, bt, zDs, zD, eqCells, simprocAttr, hbl, hfn, Nat.le_refl])
  ((refine gga1 hI ?_))
  ((repeat refine AW_seq ?_); (refine wta ?_); simp (disch := omega) only [retQ, resD, oneD, bb, bt, zDs, zD, eqCells, simprocAttr, Try.results11])
  exact rsv_tidy _ _ (by simp only [tidyD, tidyL, Bool.not_false, Bool.true_and, Bool.and_true, tidy_ints])
end Go.Proofs.Ytalhegbjlfkipaa.T
