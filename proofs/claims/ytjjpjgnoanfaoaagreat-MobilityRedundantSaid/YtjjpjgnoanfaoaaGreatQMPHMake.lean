import Derived.Test.YtjjpjgnoanfaoaaGreatQMQX
import Derived.Test.YtjjpjgnoanfaoaaGreatQMRNGRS
import Derived.Test.YtjjpjgnoanfaoaaGreatTJ
import Derived.Test.YtjjpjgnoanfaoaaGreatWA
import Derived.Test.YtjjpjgnoanfaoaaGreatWJK
import Derived.Test.YtjjpjgnoanfaoaaGreatSG
import Derived.Test.YtjjpjgnoanfaoaaGreatRows
import Derived.Lib.SmallJoins
import Derived.ProofKit
set_option linter.all false
namespace Go.Proofs.YtjjpjgnoanfaoaaGreat.T
open Go Go.RowKit Lin
set_option linter.unusedSimpArgs false

/-! MobilityKeeps. -/
end Go.Proofs.YtjjpjgnoanfaoaaGreat.T

namespace Go.Proofs.YtjjpjgnoanfaoaaGreat.T
open Go Go.RowKit Lin
theorem gga6_GM {C1 C2 C3 C4 C5 C6 P Q : Prop} (c1 : C1) (c2 : C2) (c3 : C3) (c4 : C4) (c5 : C5) (c6 : C6) (q : Q) (h : C1 → C2 → C3 → C4 → C5 → C6 → Q → P := by
  intro cc1 cc2 cc3 cc4 cc5 cc6 hq
  (try with_reducible intro KR hKR)
  (repeat' (first | (with_reducible refine AW_seq ?_) | (with_reducible refine AW_region_k tab_ok fun KR hKR => ?_) | ((first | with_reducible refine AW_skip ?_ | with_reducible refine AW_exit ?_ | ((with_reducible refine awOps_nil ?_); refine hKR _ ?_; (try clear hKR KR))); (repeat (with_reducible first | refine q1 ?_ | refine q2 ?_ | refine q3 ?_ | refine q4 ?_ | refine q5 ?_ | refine q6 ?_ | (refine q7 ?_ ?_; (focus (with_unfolding_all rfl)))))) | ((first | ((with_reducible refine at_ops ?_); (first | refine awOps_n rfl fun KK hKK => ?_ | refine awOps_g rfl rfl fun KK hKK => ?_ | refine awOps_gc rfl fun KK hKK => ?_ | refine awOps_nc fun KK hKK => ?_)) | with_reducible refine AW_cond_k (tab := tab) fun KK hKK => ?_); simp (disch := omega) only [bb, bt, zDs, zD, eqCells, simprocAttr, bne_self_eq_false, Int.reduceBNe, Int.reduceBEq, Bool.bne_false, Bool.bne_true, Bool.false_bne, Bool.true_bne, goC, callO_fn, argsD, and_self]; (try ((first | (with_reducible refine ACall.of_pret (cc1) ?_ ?_; (focus (first | (simp only [um]; done) | rfl))) | (with_reducible refine ACall.of_pret (cc2) ?_ ?_; (focus (first | (simp only [um]; done) | rfl))) | (with_reducible refine ACall.of_pret (cc3) ?_ ?_; (focus (first | (simp only [um]; done) | rfl))) | (with_reducible refine ACall.of_pret (cc4) ?_ ?_; (focus (first | (simp only [um]; done) | rfl))) | (with_reducible refine ACall.of_pret (cc5) ?_ ?_; (focus (first | (simp only [um]; done) | rfl))) | (with_reducible refine ACall.of_pret (cc6) ?_ ?_; (focus (first | (simp only [um]; done) | rfl)))); simp only [afterC, St.put, putTM, ↓reduceIte, Nat.reduceEqDiff])); refine hKK _ ?_; clear hKK KK; (first | with_reducible refine at_ops ?_ | with_reducible refine i1 ?_ | with_reducible refine i0 ?_))))
  (first | exact hq | (revert hKR; revert KR; exact hq))) : P := h c1 c2 c3 c4 c5 c6 q
theorem ggb10_GM {F C1 C2 C3 C4 C5 C6 C7 C8 C9 C10 P Q : Prop} (f : F) (c1 : C1) (c2 : C2) (c3 : C3) (c4 : C4) (c5 : C5) (c6 : C6) (c7 : C7) (c8 : C8) (c9 : C9) (c10 : C10) (q : Q) (h : F → C1 → C2 → C3 → C4 → C5 → C6 → C7 → C8 → C9 → C10 → Q → P := by
  intro ff cc1 cc2 cc3 cc4 cc5 cc6 cc7 cc8 cc9 cc10 hq
  (try with_reducible intro KR hKR)
  (repeat' (first | (with_reducible refine AW_seq ?_) | (with_reducible refine AW_region_k tab_ok fun KR hKR => ?_) | ((first | with_reducible refine AW_skip ?_ | with_reducible refine AW_exit ?_ | ((with_reducible refine awOps_nil ?_); refine hKR _ ?_; (try clear hKR KR))); (repeat (with_reducible first | refine q1 ?_ | refine q2 ?_ | refine q3 ?_ | refine q4 ?_ | refine q5 ?_ | refine q6 ?_ | (refine q7 ?_ ?_; (focus (with_unfolding_all rfl)))))) | ((first | ((with_reducible refine at_ops ?_); (first | refine awOps_n rfl fun KK hKK => ?_ | refine awOps_g rfl rfl fun KK hKK => ?_ | refine awOps_gc rfl fun KK hKK => ?_ | refine awOps_nc fun KK hKK => ?_)) | with_reducible refine AW_cond_k (tab := tab) fun KK hKK => ?_); simp (disch := omega) only [bb, bt, zDs, zD, eqCells, simprocAttr, ff, bne_self_eq_false, Int.reduceBNe, Int.reduceBEq, Bool.bne_false, Bool.bne_true, Bool.false_bne, Bool.true_bne, goC, callO_fn, argsD, and_self]; (try ((first | (with_reducible refine ACall.of_pret (cc1) ?_ ?_; (focus (first | (simp only [um]; done) | rfl))) | (with_reducible refine ACall.of_pret (cc2) ?_ ?_; (focus (first | (simp only [um]; done) | rfl))) | (with_reducible refine ACall.of_pret (cc3) ?_ ?_; (focus (first | (simp only [um]; done) | rfl))) | (with_reducible refine ACall.of_pret (cc4) ?_ ?_; (focus (first | (simp only [um]; done) | rfl))) | (with_reducible refine ACall.of_pret (cc5) ?_ ?_; (focus (first | (simp only [um]; done) | rfl))) | (with_reducible refine ACall.of_pret (cc6) ?_ ?_; (focus (first | (simp only [um]; done) | rfl))) | (with_reducible refine ACall.of_pret (cc7) ?_ ?_; (focus (first | (simp only [um]; done) | rfl))) | (with_reducible refine ACall.of_pret (cc8) ?_ ?_; (focus (first | (simp only [um]; done) | rfl))) | (with_reducible refine ACall.of_pret (cc9) ?_ ?_; (focus (first | (simp only [um]; done) | rfl))) | (with_reducible refine ACall.of_pret (cc10) ?_ ?_; (focus (first | (simp only [um]; done) | rfl)))); simp only [afterC, St.put, putTM, ↓reduceIte, Nat.reduceEqDiff])); refine hKK _ ?_; clear hKK KK; (first | with_reducible refine at_ops ?_ | with_reducible refine i1 ?_ | with_reducible refine i0 ?_))))
  (first | exact hq | (revert hKR; revert KR; exact hq))) : P := h f c1 c2 c3 c4 c5 c6 c7 c8 c9 c10 q
set_option linter.unusedSimpArgs false

/-! MobilityModes. -/
set_option maxHeartbeats 4000000 in
theorem law_modes16 (s : Sy) : PRet Tryz.prog 3 [syD s] (bool true) := by
  refine PRet.intro 1 fun t => ACall.enter tab_ok Tryz.func3 rfl rfl Tryz.ntmps3 (by simp) ?_
  simp only [enterTM]
  have hL : PRet Tryz.prog 15 [syD s, .v (.string ⟨#[]⟩)] (bool (longM s ⟨#[]⟩)) := long16 s ⟨#[]⟩
  cases hlo : longM s ⟨#[]⟩
  rotate_left 1
  · rw [hlo] at hL
    ((refine gga2 awake16 hL ?_))
    ((repeat refine AW_seq ?_); (refine wta ?_); simp (disch := omega) only [retQ, resD, oneD, rsv, rs, rsL, rsL_eq_map, List.map_map, bb, bt, zDs, zD, eqCells, simprocAttr, Tryz.results3])
  rw [hlo] at hL
  have hs : smallS s = true := by
    unfold longM at hlo
    rw [Bool.or_eq_false_iff] at hlo
    simpa using hlo.1
  have hf := small_fits hs
  have hV := valid_ref s hf
  have hFd := freedom_prog s hf
  have hMo := modes_prog s hf
  have hJ := jammed_prog s hf
  cases hv : validS s
  · rw [hv] at hV
    have em : modesP s = ([], 1) := by simp [modesP, hv]
    have ej : jamP s = ([], 1) := by simp [jamP, em]
    rw [em] at hFd hMo
    rw [ej] at hJ
    ((refine gga6_GM awake16 hL hFd hMo hJ hV ?_))
    ((repeat refine AW_seq ?_); (refine wta ?_); simp (disch := omega) only [retQ, resD, oneD, rsv, rs, rsL, rsL_eq_map, List.map_map, bb, bt, zDs, zD, eqCells, simprocAttr, Tryz.results3])
  rw [hv] at hV
  have ok := validS_ok hv
  have hb6 := ok.b6
  obtain ⟨z1, z2, z3⟩ := modesP_facts s
  have e0 : (modesP s).2 = 0 := z3.2 hv
  have ej : jamP s = (jamN s.bs (modesP s).1 s.bs.length, 0) := by unfold jamP; rw [if_pos e0]
  have hjl := jamN_len s.bs (modesP s).1 s.bs.length
  have hMr := modes_ref s hv
  have hJr := jammed_ref s hv
  rw [ej] at hJ
  simp only at hJ
  generalize modesP s = Y at *
  obtain ⟨N, ye⟩ := Y
  simp only at *
  subst e0
  generalize jamN s.bs N s.bs.length = J at *
  have hE := equalFuncFr N N (by omega) (by omega) (fun x hx => by rw [z1 x hx]; omega) (fun x hx => by rw [z1 x hx]; omega)
  have hS := equalStrs J J (by omega) (by omega)
  rw [beq_self_eq_true] at hE hS
  have hnn : ((N.length : Int) == (N.length : Int)) = true := by simp
  ((refine ggb10_GM hnn awake16 hL hFd hMo hJ hV hMr hE hJr hS ?_))
  ((repeat refine AW_seq ?_); (refine wta ?_); simp (disch := omega) only [retQ, resD, oneD, rsv, rs, rsL, rsL_eq_map, List.map_map, bb, bt, zDs, zD, eqCells, simprocAttr, Tryz.results3])
end Go.Proofs.YtjjpjgnoanfaoaaGreat.T

namespace Go.Proofs.YtjjpjgnoanfaoaaGreat.T
open Go Go.RowKit Lin
set_option linter.unusedSimpArgs false

/-! Chapter 16: the reference's witnesses. -/
theorem wit_none {s : Sy} {L : List Nat} {k i : Nat} (ok : OkS s) (h6 : L.length ≤ 6) (hL : ∀ j ∈ L, j < s.rs.length) (h : (rkF s (L.eraseIdx k) == rkF s L) = false) : witK s L k i = ([], 12) := by
  have hle : rkF s (L.eraseIdx k) ≤ rkF s L := rkF_le ok h6 (Nat.le_trans (List.length_eraseIdx_le _ _) h6) hL fun j hj => List.mem_of_mem_eraseIdx hj
  have hne : rkF s (L.eraseIdx k) ≠ rkF s L := by simpa using h
  unfold witK
  rw [if_pos (by omega)]
theorem null_is_facts {m : List (List Int)} (hv : validP m = true) : ∀ v ∈ (nullP m).1, v.length = wid m := by
  unfold nullP
  rw [if_pos hv]
  intro v h
  obtain ⟨c, _, _, rfl⟩ := nulls_mem _ _ _ v h
  rw [nvec_len]
theorem null_is_few {m : List (List Int)} (hv : validP m = true) : (nullP m).1.length ≤ wid m := by
  unfold nullP
  rw [if_pos hv]
  exact nulls_len _ _ _
set_option maxHeartbeats 8000000 in
theorem witness_ref (s : Sy) (hf : Fits s) (nm : ByteArray) : PRet Tryz.prog 27 [syD s, str nm] (.tup [frs (witP s nm).1, int (witP s nm).2]) := by
  refine PRet.intro 1 fun t => ACall.enter tab_ok Tryz.func27 rfl rfl Tryz.ntmps27 (by simp) ?_
  simp only [enterTM]
  have hV := valid_ref s hf
  have hnr0 := hf.nr
  have hFd := refFindRope s nm hnr0
  cases hv : validS s
  · rw [hv] at hV
    have e : witP s nm = ([], 1) := by simp [witP, findM, hv]
    ((refine gga1 hV ?_))
    ((repeat refine AW_seq ?_); (refine wta ?_); simp (disch := omega) only [retQ, resD, oneD, rsv, rs, rsL, rsL_eq_map, List.map_map, bb, bt, zDs, zD, eqCells, simprocAttr, Tryz.results27, e])
    rfl
  rw [hv] at hV
  have ok := validS_ok hv
  have hr6 := ok.r6
  have hb6 := ok.b6
  have hdr := rpC_div s.rs
  by_cases hfr : findR s.rs nm < 0
  · have e : witP s nm = ([], 9) := by simp [witP, findM, hv, hfr]
    ((refine ggb2 hfr hV hFd ?_))
    ((repeat refine AW_seq ?_); (refine wta ?_); simp (disch := omega) only [retQ, resD, oneD, rsv, rs, rsL, rsL_eq_map, List.map_map, bb, bt, zDs, zD, eqCells, simprocAttr, Tryz.results27, e])
    rfl
  have eF : findM s nm = (findR s.rs nm, 0) := by simp [findM, hv, hfr]
  obtain ⟨_, i, r, hZ, hri, hrn⟩ := findM_ok (s := s) (nm := nm) (by rw [eF])
  have hi : findR s.rs nm = (i : Int) := by rw [eF] at hZ; exact congrArg Prod.fst hZ
  have hI := is_ref s hv hri
  have hil := (List.getElem?_eq_some_iff.1 hri).1
  rw [hi] at hFd hfr
  subst hrn
  cases hb : isR s i
  · rw [hb] at hI
    have e : witP s r.nm = ([], 12) := by
      rcases wit_own hv hri with ⟨_, h⟩ | ⟨k, hk, hh, h⟩
      · exact h
      · rw [h]
        refine wit_none ok (fixA_le ok) (fun j hj => fixP_lt hj) ?_
        have := hb
        unfold isR at this
        rw [hri, fixP_but hk] at this
        simpa [hh] using this
    ((refine ggb3 hfr hV hFd hI ?_))
    ((repeat refine AW_seq ?_); (refine wta ?_); simp (disch := omega) only [retQ, resD, oneD, rsv, rs, rsL, rsL_eq_map, List.map_map, bb, bt, zDs, zD, eqCells, simprocAttr, Tryz.results27, e])
    rfl
  rw [hb] at hI
  obtain ⟨k, hk, hh, e⟩ : ∃ k, (fixA s)[k]? = some i ∧ r.hl = false ∧ witP s r.nm = witK s (fixA s) k i := by
    rcases wit_own hv hri with ⟨h1, _⟩ | h
    · unfold isR at hb
      rw [hri] at hb
      simp [h1] at hb
    · exact h
  have hrk : ¬ rkF s ((fixA s).eraseIdx k) < rkF s (fixA s) := by
    have := hb
    unfold isR at this
    rw [hri, fixP_but hk, Bool.and_eq_true, beq_iff_eq] at this
    omega
  have hl6 := fixA_le ok
  have hlt : ∀ j ∈ fixA s, j < s.rs.length := fun j hj => fixP_lt hj
  obtain ⟨wv, hwv, hwl, _⟩ := wit_val ok (fixA_nodup s) hlt hl6 hk hrk
  have hkl := (List.getElem?_eq_some_iff.1 hk).1
  have hFf := fixed_fresh s (i : Int) (by omega)
  rw [fixP_but hk] at hFf
  rw [e, hwv]
  unfold witK at hwv
  rw [if_neg hrk] at hwv
  generalize hLL : fixA s = L at *
  have hel : (L.eraseIdx k).length = L.length - 1 := List.length_eraseIdx_of_lt hkl
  have helt : ∀ j ∈ L.eraseIdx k, j < s.rs.length := fun j hj => hlt j (List.mem_of_mem_eraseIdx hj)
  have hPl : ∀ j ∈ L.eraseIdx k ++ [i], j < s.rs.length := fun j hj => by
    rcases List.mem_append.1 hj with h | h
    · exact helt j h
    · rw [List.mem_singleton.1 h]; exact hil
  obtain ⟨cv, cw, cm⟩ := rowsF_valid ok (L := L.eraseIdx k ++ [i]) (by simp) (by simp; omega) hPl
  obtain ⟨uv, uw⟩ := turn_valid cv (by omega)
  have hcl : (rowsF s (L.eraseIdx k ++ [i])).length = L.length := by rw [rowsF_len]; simp; omega
  have hRw := rows_ref s hv (L.eraseIdx k ++ [i]) (by simp; omega) hPl
  have hnp := nums_push (L.eraseIdx k) i
  have hnl := nums_len (L.eraseIdx k)
  have hT := refTurned (rowsF s (L.eraseIdx k ++ [i])) s.bs.length (by omega) (by omega) (by omega) (fun q hq => (cm q hq).2)
  rw [cw] at uv uw
  have hN := null_ref uv
  have hX := null_is_facts uv
  have ec : colsW s L k i = turnP (rowsF s (L.eraseIdx k ++ [i])) s.bs.length := rfl
  rw [ec] at hwv
  generalize rowsF s (L.eraseIdx k ++ [i]) = C at *
  have hX2 := null_is_few uv
  rw [uw, hcl] at hX2
  have hvw : ∀ v ∈ (nullP (turnP C s.bs.length)).1, v.length = L.length := fun v hv => by rw [hX v hv, uw, hcl]
  generalize (nullP (turnP C s.bs.length)).1 = N at *
  by_cases hN0 : N = []
  · rw [if_pos hN0] at hwv
    have := congrArg Prod.snd hwv
    simp at this
  rw [if_neg hN0] at hwv
  have hNp := List.length_pos_iff.2 hN0
  obtain ⟨v, hv1⟩ : ∃ y, N[N.length - 1]? = some y := ⟨_, List.getElem?_eq_getElem (by omega)⟩
  have hvl := hvw v (List.mem_of_getElem? hv1)
  have hsub : (N.length : Int) - 1 = ((N.length - 1 : Nat) : Int) := by omega
  have hlt1 : N.length - 1 < N.length := by omega
  rw [List.getD_eq_getElem?_getD, hv1, Option.getD_some, Prod.mk.injEq] at hwv
  obtain ⟨hwv, -⟩ := hwv
  have hfrn : ¬ ((i : Int) < 0) := by omega
  ((refine ggb3 hfrn hV hFd hI ?_))
  intro KR hKR
  ((first | refine awOps_nc fun KK hKK => ?_ | refine awOps_gc rfl fun KK hKK => ?_); simp (disch := omega) only [bb, bt, zDs, zD, eqCells, simprocAttr, goC, callO_fn, argsD, and_self]; refine ACall.of_fresh (hFf) (by first | (simp only [List.map_cons, List.map_nil, List.append_nil, List.nil_append, List.cons_append, ufa, uf]; done) | rfl) ?_; simp (disch := omega) only [bb, bt, zDs, zD, eqCells, simprocAttr, afterC]; refine hKK _ ?_; clear hKK KK)
  ((refine wrb (F := _∧_) ⟨hnl, hel⟩ ?_)); ((refine wea ?_); (try clear hKR KR))
  have hol := nums_len (L.eraseIdx k ++ [i])
  have holl : (L.eraseIdx k ++ [i]).length = L.length := by simp; omega
  have hwit : witV s L k i v = putW v (L.eraseIdx k ++ [i]) s.rs.length L.length := by
    have e1 : L.length = (L.length - 1) + 1 := by omega
    unfold witV
    rw [e1]
    simp only [putW]
    rw [hel, putW_app v (L.eraseIdx k) i s.rs.length _ (by omega), hvl]
    congr 1
    rw [List.getD_eq_getElem?_getD, List.getElem?_append_right (by omega), hel, Nat.sub_self]
    rfl
  rw [← hwv, hwit]
  have hnp2 : (nums (L.eraseIdx k)).map int ++ [int i] = (nums (L.eraseIdx k ++ [i])).map int := by rw [hnp]; simp
  have hlm : L.length - 1 + 1 = L.length := by omega
  have hfin : List.take L.length ((nums (L.eraseIdx k ++ [i])).map int) = (nums (L.eraseIdx k ++ [i])).map int := List.take_of_length_le (by rw [List.length_map, hol, holl]; exact Nat.le_refl _)
  have hle : L.length ≤ (nums (L.eraseIdx k ++ [i])).length := by omega
  ((refine AW.freeze (1) (by first | rfl | (simp only [setH, List.getElem?_cons_zero, List.getElem?_cons_succ, fzL_ints, fz_bk, fz_rp, hnp2, hlm, hfin, hle, hol, holl, List.length_map, Nat.le_refl]; done)) ?_); simp (disch := omega) only [fzT, fz, fzL, fzL_ints, fzL_mat, fzH, fzB, eq_self, bb, bt, zDs, zD, eqCells, simprocAttr, fzL_ints, fz_bk, fz_rp, hnp2, hlm, hfin, hle, hol, holl, List.length_map, Nat.le_refl])
  ((refine ggb3 (F := _∧_∧_∧_) ⟨hsub, hlt1, hv1, hdr⟩ hRw hT hN ?_))
  generalize hnr : s.rs.length = nr at *
  have hfz : (List.replicate nr [int 0, int 0]).flatten = frC (fillF nr 0) := by
    rw [fillF_zero]; exact pairC_frC 0 0 nr
  rw [hfz]
  generalize L.eraseIdx k ++ [i] = O at *
  have o0 := refOf 0
  have hvO : v.length = O.length := by omega
  rw [← holl]
  ((repeat refine AW_seq ?_))
  refine AW_mid (fun x : Nat => ⟨[(7, ints (nums O)), (9, frs v), (10, .own 2 2 (t + 1 + 1 + 1 + 1) 0 nr)], [none, none, some ⟨43, t + 1 + 1 + 1 + 1, frC (fillF nr nr)⟩], x⟩) (fun _ => True) ?_ ?_
  · refine AW_block ?_
    refine AW_loop_w (fun x : Nat × Nat => ⟨[(7, ints (nums O)), (9, frs v), (10, .own 2 2 (t + 1 + 1 + 1 + 1) 0 nr), (11, int x.1)], [none, none, some ⟨43, t + 1 + 1 + 1 + 1, frC (fillF nr x.1)⟩], x.2⟩) (fun x => nr - x.1) (fun x => x.1 ≤ nr) (0, t + 1 + 1 + 1 + 1) (Nat.zero_le _) (by (simp (disch := omega) only [StLe, tmLe, hpLe_refl, hpLe, bl, bb, bt, zDs, zD, eqCells, simprocAttr])) ?_
    rintro ⟨p, t3⟩ hp
    simp only at hp
    by_cases hpn : p < nr
    · have hl0 := frC_len (fillF nr p)
      rw [fillF_len hp] at hl0
      have hle0 : p * 2 + 2 ≤ nr * 2 := by omega
      have hset0 := frC_set (fillF nr p) p 0 1 (by rw [fillF_len hp]; exact hpn)
      rw [fillF_set hpn] at hset0
      simp only [List.append_assoc, List.cons_append, List.nil_append] at hset0
      ((refine ggb0 (F := _∧_) ⟨@Int.ofNat_lt, hpn⟩ ?_))
      ((repeat refine AW_seq ?_))
      refine AW_block ?_
      ((refine ggb1 (F := _∧_∧_∧_) ⟨hl0, hpn, hle0, hset0⟩ o0 ?_))
      refine ⟨(p + 1, t3), hpn, by show nr - (p + 1) < nr - p; omega, ?_⟩
      (simp (disch := omega) only [StLe, tmLe, hpLe_refl, hpLe, bl, bb, bt, zDs, zD, eqCells, simprocAttr])
    · have hpe : p = nr := by omega
      subst hpe
      ((refine ggb0 @Int.lt_irrefl ?_))
      exact ⟨t3, trivial, by (simp (disch := omega) only [StLe, tmLe, hpLe_refl, hpLe, bl, bb, bt, zDs, zD, eqCells, simprocAttr])⟩
  rintro t3 -
  rw [fillF_end, show List.replicate nr ((0 : Int), (1 : Int)) = putW v O nr 0 from rfl]
  have hO6 : O.length ≤ 6 := by omega
  ((refine gga0 ?_))
  ((repeat refine AW_seq ?_))
  refine AW_mid (fun x : Nat => ⟨[(10, .own 2 2 (t + 1 + 1 + 1 + 1) 0 nr)], [none, none, some ⟨43, t + 1 + 1 + 1 + 1, frC (putW v O nr O.length)⟩], x⟩) (fun _ => True) ?_ ?_
  · refine AW_block ?_
    refine AW_loop_w (fun x : Nat × Nat => ⟨[(7, ints (nums O)), (9, frs v), (10, .own 2 2 (t + 1 + 1 + 1 + 1) 0 nr), (12, int x.1)], [none, none, some ⟨43, t + 1 + 1 + 1 + 1, frC (putW v O nr x.1)⟩], x.2⟩) (fun x => O.length - x.1) (fun x => x.1 ≤ O.length) (0, t3) (Nat.zero_le _) (by (simp (disch := omega) only [StLe, tmLe, hpLe_refl, hpLe, bl, bb, bt, zDs, zD, eqCells, simprocAttr])) ?_
    rintro ⟨j, t4⟩ hj
    simp only at hj
    by_cases hjn : j < O.length
    · obtain ⟨o, ho⟩ : ∃ y, O[j]? = some y := ⟨_, List.getElem?_eq_getElem hjn⟩
      obtain ⟨f, hfj⟩ : ∃ y, v[j]? = some y := ⟨_, List.getElem?_eq_getElem (by omega)⟩
      have hon := hPl o (List.mem_of_getElem? ho)
      have hno : (nums O)[j]? = some (o : Int) := by unfold nums; rw [List.getElem?_map, ho]; rfl
      have hjn2 : j < (nums O).length := by omega
      have hjv : j < v.length := by omega
      have hra := frC_read v j f hfj
      have hvd := frC_div v
      have hl0 := frC_len (putW v O nr j)
      rw [putW_len] at hl0
      have hle0 : o * 2 + 2 ≤ nr * 2 := by omega
      have hset0 := frC_set (putW v O nr j) o f.1 f.2 (by rw [putW_len]; exact hon)
      have hpu : putW v O nr (j + 1) = (putW v O nr j).set o (f.1, f.2) := by simp only [putW]; rw [List.getD_eq_getElem?_getD, ho, List.getD_eq_getElem?_getD, hfj]; rfl
      rw [← hpu] at hset0
      simp only [List.append_assoc, List.cons_append, List.nil_append] at hset0
      ((refine ggb0 (F := _∧_∧_) ⟨@Int.ofNat_lt, hjn, hol⟩ ?_))
      ((repeat refine AW_seq ?_))
      refine AW_block ?_
      ((repeat refine AW_seq ?_); (refine gdzb (F := _∧_∧_∧_∧_∧_∧_∧_∧_∧_∧_) ⟨hl0, hon, hle0, hset0, hno, hjn, hjn2, hjv, hra, hvd, hol⟩ ?_))
      ((refine gga0 ?_))
      refine ⟨(j + 1, t4 + 1), hjn, by show O.length - (j + 1) < O.length - j; omega, ?_⟩
      (simp (disch := omega) only [StLe, tmLe, hpLe_refl, hpLe, bl, bb, bt, zDs, zD, eqCells, simprocAttr])
    · have hje : j = O.length := by omega
      subst hje
      ((refine ggb0 (F := _∧_) ⟨@Int.lt_irrefl, hol⟩ ?_))
      exact ⟨t4, trivial, by (simp (disch := omega) only [StLe, tmLe, hpLe_refl, hpLe, bl, bb, bt, zDs, zD, eqCells, simprocAttr])⟩
  rintro t4 -
  have hpl := putW_len v O nr O.length
  generalize putW v O nr O.length = W at *
  have hlw := frC_len W
  rw [hpl] at hlw
  have hfinW : List.take (nr * 2) (frC W) = frC W := List.take_of_length_le (by omega)
  ((refine AW.freeze (2) (by first | rfl | (simp only [setH, List.getElem?_cons_zero, List.getElem?_cons_succ, hfinW, hlw, Nat.le_refl]; done)) ?_); simp (disch := omega) only [fzT, fz, fzL, fzL_ints, fzL_mat, fzH, fzB, eq_self, bb, bt, zDs, zD, eqCells, simprocAttr, hfinW, hlw, Nat.le_refl])
  ((refine gga0 ?_))
  ((repeat refine AW_seq ?_); (refine wta ?_); simp (disch := omega) only [retQ, resD, oneD, bb, bt, zDs, zD, eqCells, simprocAttr, Tryz.results27])
  exact rsv_tidy _ _ (by simp only [tidyD, tidyL, tidy_fr, Bool.not_false, Bool.and_self])
end Go.Proofs.YtjjpjgnoanfaoaaGreat.T

namespace Go.Proofs.YtjjpjgnoanfaoaaGreat.T
open Go Go.RowKit Lin
theorem ggb9_GM2 {F C1 C2 C3 C4 C5 C6 C7 C8 C9 P Q : Prop} (f : F) (c1 : C1) (c2 : C2) (c3 : C3) (c4 : C4) (c5 : C5) (c6 : C6) (c7 : C7) (c8 : C8) (c9 : C9) (q : Q) (h : F → C1 → C2 → C3 → C4 → C5 → C6 → C7 → C8 → C9 → Q → P := by
  intro ff cc1 cc2 cc3 cc4 cc5 cc6 cc7 cc8 cc9 hq
  (try with_reducible intro KR hKR)
  (repeat' (first | (with_reducible refine AW_seq ?_) | (with_reducible refine AW_region_k tab_ok fun KR hKR => ?_) | ((first | with_reducible refine AW_skip ?_ | with_reducible refine AW_exit ?_ | ((with_reducible refine awOps_nil ?_); refine hKR _ ?_; (try clear hKR KR))); (repeat (with_reducible first | refine q1 ?_ | refine q2 ?_ | refine q3 ?_ | refine q4 ?_ | refine q5 ?_ | refine q6 ?_ | (refine q7 ?_ ?_; (focus (with_unfolding_all rfl)))))) | ((first | ((with_reducible refine at_ops ?_); (first | refine awOps_n rfl fun KK hKK => ?_ | refine awOps_g rfl rfl fun KK hKK => ?_ | refine awOps_gc rfl fun KK hKK => ?_ | refine awOps_nc fun KK hKK => ?_)) | with_reducible refine AW_cond_k (tab := tab) fun KK hKK => ?_); simp (disch := omega) only [bb, bt, zDs, zD, eqCells, simprocAttr, ff, bne_self_eq_false, Int.reduceBNe, Int.reduceBEq, Bool.bne_false, Bool.bne_true, Bool.false_bne, Bool.true_bne, goC, callO_fn, argsD, and_self]; (try ((first | (with_reducible refine ACall.of_pret (cc1) ?_ ?_; (focus (first | (simp only [um]; done) | rfl))) | (with_reducible refine ACall.of_pret (cc2) ?_ ?_; (focus (first | (simp only [um]; done) | rfl))) | (with_reducible refine ACall.of_pret (cc3) ?_ ?_; (focus (first | (simp only [um]; done) | rfl))) | (with_reducible refine ACall.of_pret (cc4) ?_ ?_; (focus (first | (simp only [um]; done) | rfl))) | (with_reducible refine ACall.of_pret (cc5) ?_ ?_; (focus (first | (simp only [um]; done) | rfl))) | (with_reducible refine ACall.of_pret (cc6) ?_ ?_; (focus (first | (simp only [um]; done) | rfl))) | (with_reducible refine ACall.of_pret (cc7) ?_ ?_; (focus (first | (simp only [um]; done) | rfl))) | (with_reducible refine ACall.of_pret (cc8) ?_ ?_; (focus (first | (simp only [um]; done) | rfl))) | (with_reducible refine ACall.of_pret (cc9) ?_ ?_; (focus (first | (simp only [um]; done) | rfl)))); simp only [afterC, St.put, putTM, ↓reduceIte, Nat.reduceEqDiff])); refine hKK _ ?_; clear hKK KK; (first | with_reducible refine at_ops ?_ | with_reducible refine i1 ?_ | with_reducible refine i0 ?_))))
  (first | exact hq | (revert hKR; revert KR; exact hq))) : P := h f c1 c2 c3 c4 c5 c6 c7 c8 c9 q
set_option linter.unusedSimpArgs false

/-! MobilityRedundant. -/
theorem witP_len (s : Sy) (nm : ByteArray) : (witP s nm).1.length ≤ 6 := by
  by_cases h : (findM s nm).2 = 0
  rotate_left 1
  · unfold witP
    rw [if_pos h]
    simp
  obtain ⟨hv, i, r, hZ, hri, hrn⟩ := findM_ok h
  have ok := validS_ok hv
  subst hrn
  rcases proves_case hv hri with ⟨e, _⟩ | ⟨_, _, v, e, hl, _⟩
  · rw [e]
    simp
  · rw [e]
    simp only
    have := ok.r6
    omega
set_option maxHeartbeats 4000000 in
theorem law_redundant16 (s : Sy) (nm : ByteArray) : PRet Tryz.prog 4 [syD s, str nm] (bool true) := by
  refine PRet.intro 1 fun t => ACall.enter tab_ok Tryz.func4 rfl rfl Tryz.ntmps4 (by simp) ?_
  simp only [enterTM]
  have hL := long16 s nm
  cases hlo : longM s nm
  rotate_left 1
  · rw [hlo] at hL
    ((refine gga2 awake16 hL ?_))
    ((repeat refine AW_seq ?_); (refine wta ?_); simp (disch := omega) only [retQ, resD, oneD, rsv, rs, rsL, rsL_eq_map, List.map_map, bb, bt, zDs, zD, eqCells, simprocAttr, Tryz.results4])
  rw [hlo] at hL
  have hs : smallS s = true := by
    unfold longM at hlo
    rw [Bool.or_eq_false_iff] at hlo
    simpa using hlo.1
  have hf := small_fits hs
  have hV := valid_ref s hf
  have hR := redundant_prog s hf
  have hW := witness_prog s hf nm
  have hWr := witness_ref s hf nm
  have hwl := witP_len s nm
  have hE := equalFr (witP s nm).1 (witP s nm).1 (by omega) (by omega)
  rw [beq_self_eq_true] at hE
  generalize witP s nm = X at *
  obtain ⟨w, we⟩ := X
  simp only at *
  have hne : (we != we) = false := by simp
  cases hv : validS s
  · rw [hv] at hV
    have er : redP s = ([], 1) := by unfold redP; rw [if_neg (by simp [hv])]
    rw [er] at hR
    ((refine ggb7 hne awake16 hL hR hW hWr hE hV ?_))
    ((repeat refine AW_seq ?_); (refine wta ?_); simp (disch := omega) only [retQ, resD, oneD, rsv, rs, rsL, rsL_eq_map, List.map_map, bb, bt, zDs, zD, eqCells, simprocAttr, Tryz.results4])
  rw [hv] at hV
  have e0 : (redP s).2 = 0 := by rw [redP_fx hv]
  have hl := redP_len hv
  have hRr := redundant_ref s hv
  have hS := equalStrs (redP s).1 (redP s).1 (by omega) (by omega)
  rw [beq_self_eq_true] at hS
  generalize redP s = Y at *
  obtain ⟨J, je⟩ := Y
  simp only at *
  subst e0
  ((refine ggb9_GM2 hne awake16 hL hR hW hWr hE hV hRr hS ?_))
  ((repeat refine AW_seq ?_); (refine wta ?_); simp (disch := omega) only [retQ, resD, oneD, rsv, rs, rsL, rsL_eq_map, List.map_map, bb, bt, zDs, zD, eqCells, simprocAttr, Tryz.results4])
end Go.Proofs.YtjjpjgnoanfaoaaGreat.T

/- What the arguments of chapter 4's laws stand for. -/
section
namespace Go.Proofs.YtjjpjgnoanfaoaaGreat.T
open Go Go.RowKit Go.ChangeShapes

theorem slice_one {P : Program} {w : World} {r : Reach} {base : Nat} {t e : TypeId} {v : Value} (ht : P.underlying t = some (.slice e)) (h : Value.okWide P w r base t v) : v.cells = #[v] := by
  simp only [Value.okWide, ht, Cell.okWide] at h
  cases v <;> simp_all [Value.cells, Cell.ok]
theorem ints_of : ∀ {rows : List (List D)}, (∀ r ∈ rows, (∃ n, r = [int n] ∧ (Lit.int .i64 n).wf = true) ∧ r.length = 1) → ∃ l : List Int, rows.flatten = l.map int ∧ ∀ x ∈ l, (Lit.int .i64 x).wf = true
  | [], _ => ⟨[], rfl, by simp⟩
  | r :: rows, h => by
    obtain ⟨⟨n, rfl, hw⟩, _⟩ := h r (by simp)
    obtain ⟨l, e, hl⟩ := ints_of fun x hx => h x (List.mem_cons_of_mem _ hx)
    exact ⟨n :: l, by simp [e], fun x hx => by
      rcases List.mem_cons.1 hx with rfl | hx
      · exact hw
      · exact hl x hx⟩
theorem rows_of : ∀ {rows : List (List D)}, (∀ r ∈ rows, (∃ l : List Int, r = [ints l] ∧ ∀ x ∈ l, (Lit.int .i64 x).wf = true) ∧ r.length = 1) → ∃ m : List (List Int), rows.flatten = m.map ints ∧ ∀ l ∈ m, ∀ x ∈ l, (Lit.int .i64 x).wf = true
  | [], _ => ⟨[], rfl, by simp⟩
  | r :: rows, h => by
    obtain ⟨⟨n, rfl, hw⟩, _⟩ := h r (by simp)
    obtain ⟨l, e, hl⟩ := rows_of fun x hx => h x (List.mem_cons_of_mem _ hx)
    exact ⟨n :: l, by simp [e], fun x hx => by
      rcases List.mem_cons.1 hx with rfl | hx
      · exact hw
      · exact hl x hx⟩

theorem u8_of {x : Int} (h : (Lit.int .u8 x).wf = true) : 0 ≤ x ∧ x < 256 := by
  rw [Lit.wf, Bool.and_eq_true] at h
  have h1 := of_decide_eq_true h.1
  have h2 := of_decide_eq_true h.2
  have e1 : IntKind.u8.min = 0 := rfl
  have e2 : IntKind.u8.max = 255 := rfl
  rw [e1] at h1
  rw [e2] at h2
  exact ⟨h1, by omega⟩
theorem cellsInt : Tryz.prog.cellsOf 3 = 1 := by kernel_rfl
theorem cellsInts : Tryz.prog.cellsOf 50 = 1 := by kernel_rfl
section
variable {H : Type} {enc : TypeId × Value → H} {W : World}
theorem opn_ints : Opn enc Tryz.prog W 50 fun ds => ∃ l : List Int, ds = [ints l] ∧ ∀ x ∈ l, (Lit.int .i64 x).wf = true :=
  (Opn.slice Tryz.underlying50 cellsInt (by decide) (Opn.int Tryz.underlying3)).mono fun ds ⟨rows, e, h, _⟩ => by
    obtain ⟨l, e2, hl⟩ := ints_of h
    exact ⟨l, by rw [e, e2], hl⟩
theorem opn_mat : Opn enc Tryz.prog W 99 fun ds => ∃ m : List (List Int), ds = [mat m] ∧ ∀ l ∈ m, ∀ x ∈ l, (Lit.int .i64 x).wf = true :=
  (Opn.slice Tryz.underlying99 cellsInts (by decide) opn_ints).mono fun ds ⟨rows, e, h, _⟩ => by
    obtain ⟨l, e2, hl⟩ := rows_of h
    exact ⟨l, by rw [e, e2], hl⟩
end
end Go.Proofs.YtjjpjgnoanfaoaaGreat.T
end

/- Arguments that are lists of fractions. -/
section
namespace Go.Proofs.YtjjpjgnoanfaoaaGreat.T
open Go Go.RowKit Go.ChangeShapes

theorem fracs_of : ∀ {rows : List (List D)}, (∀ r ∈ rows, (∃ a b, r = [int a, int b]) ∧ r.length = 2) → ∃ l : List (Int × Int), rows.flatten = frC l
  | [], _ => ⟨[], rfl⟩
  | r :: rows, h => by
    obtain ⟨⟨a, b, rfl⟩, _⟩ := h r (by simp)
    obtain ⟨l, e⟩ := fracs_of fun x hx => h x (List.mem_cons_of_mem _ hx)
    exact ⟨(a, b) :: l, by simp [e, frC]⟩
theorem cellsFrac : Tryz.prog.cellsOf 43 = 2 := by kernel_rfl
section
variable {H : Type} {enc : TypeId × Value → H} {W : World}
theorem opn_frac : Opn enc Tryz.prog W 43 fun ds => ∃ a b, ds = [int a, int b] :=
  (Opn.struct Tryz.underlying43 ⟨_, _, rfl, rfl, Opn.int Tryz.underlying3, _, _, rfl, by simp only [cellsInt], Opn.int Tryz.underlying3, rfl⟩ (by kernel_rfl)).mono fun ds h => by
    obtain ⟨d1, r1, rfl, ⟨a, rfl, _⟩, d2, r2, rfl, ⟨b, rfl, _⟩, rfl⟩ := h
    exact ⟨a, b, rfl⟩
theorem opn_fracs : Opn enc Tryz.prog W 40 fun ds => ∃ l : List (Int × Int), ds = [frs l] ∧ True :=
  (Opn.slice Tryz.underlying40 cellsFrac (by decide) opn_frac).mono fun ds ⟨rows, e, h, _⟩ => by
    obtain ⟨l, e2⟩ := fracs_of h
    exact ⟨l, by rw [e, e2], trivial⟩
end
end Go.Proofs.YtjjpjgnoanfaoaaGreat.T
end

/- Arguments that are systems. -/
section
namespace Go.Proofs.YtjjpjgnoanfaoaaGreat.T
open Go Go.RowKit Go.ChangeShapes

theorem flats_of {α : Type} {f : α → List D} {n : Nat} : ∀ {rows : List (List D)}, (∀ r ∈ rows, (∃ x, r = f x) ∧ r.length = n) → ∃ l : List α, rows.flatten = l.flatMap f
  | [], _ => ⟨[], rfl⟩
  | r :: rows, h => by
    obtain ⟨⟨x, rfl⟩, _⟩ := h r (by simp)
    obtain ⟨l, e⟩ := flats_of fun x hx => h x (List.mem_cons_of_mem _ hx)
    exact ⟨x :: l, by simp [e]⟩
theorem cellsHold : Tryz.prog.cellsOf 76 = 4 := by kernel_rfl
theorem cellsRope : Tryz.prog.cellsOf 72 = 3 := by kernel_rfl
theorem cellsBlock : Tryz.prog.cellsOf 78 = 2 := by kernel_rfl
theorem agg_of {P : Program} {w : World} {r : Reach} {base : Nat} {t : TypeId} {fs : Array Field} {v : Value} (ht : P.underlying t = some (.struct fs)) (h : Value.okWide P w r base t v) : ∃ cs, v = .agg cs := by
  simp only [Value.okWide, ht] at h
  obtain ⟨cs, e, _⟩ := h
  exact ⟨cs, e⟩
section
variable {H : Type} {enc : TypeId × Value → H} {W : World}
theorem opn_hold : Opn enc Tryz.prog W 76 fun ds => ∃ h : Hd, ds = hd1 h :=
  (Opn.struct Tryz.underlying76 ⟨_, _, rfl, (by kernel_rfl), Opn.str Tryz.underlying9, _, _, rfl, (by kernel_rfl), Opn.int Tryz.underlying3, _, _, rfl, (by kernel_rfl), opn_frac, rfl⟩ (by kernel_rfl)).mono fun ds h => by
    obtain ⟨d1, r1, rfl, ⟨s, rfl, _⟩, d2, r2, rfl, ⟨p, rfl, _⟩, d3, r3, rfl, ⟨a, b, rfl⟩, rfl⟩ := h
    exact ⟨⟨s, p, a, b⟩, rfl⟩
theorem opn_holds : Opn enc Tryz.prog W 70 fun ds => ∃ l : List Hd, ds = [hds l] :=
  (Opn.slice Tryz.underlying70 cellsHold (by decide) opn_hold).mono fun ds ⟨rows, e, h, _⟩ => by
    obtain ⟨l, e2⟩ := flats_of h
    exact ⟨l, by rw [e, e2]; rfl⟩
theorem opn_rope : Opn enc Tryz.prog W 72 fun ds => ∃ r : Rp, ds = rp1 r :=
  (Opn.struct Tryz.underlying72 ⟨_, _, rfl, (by kernel_rfl), Opn.str Tryz.underlying9, _, _, rfl, (by kernel_rfl), opn_holds, _, _, rfl, (by kernel_rfl), Opn.bool Tryz.underlying4, rfl⟩ (by kernel_rfl)).mono fun ds h => by
    obtain ⟨d1, r1, rfl, ⟨s, rfl, _⟩, d2, r2, rfl, ⟨l, rfl⟩, d3, r3, rfl, ⟨b, rfl⟩, rfl⟩ := h
    exact ⟨⟨s, l, b⟩, rfl⟩
theorem opn_ropes : Opn enc Tryz.prog W 23 fun ds => ∃ l : List Rp, ds = [rps l] :=
  (Opn.slice Tryz.underlying23 cellsRope (by decide) opn_rope).mono fun ds ⟨rows, e, h, _⟩ => by
    obtain ⟨l, e2⟩ := flats_of h
    exact ⟨l, by rw [e, e2]; rfl⟩
theorem opn_block : Opn enc Tryz.prog W 78 fun ds => ∃ b : Bk, ds = bk1 b :=
  (Opn.struct Tryz.underlying78 ⟨_, _, rfl, (by kernel_rfl), Opn.str Tryz.underlying9, _, _, rfl, (by kernel_rfl), Opn.int Tryz.underlying3, rfl⟩ (by kernel_rfl)).mono fun ds h => by
    obtain ⟨d1, r1, rfl, ⟨s, rfl, _⟩, d2, r2, rfl, ⟨p, rfl, _⟩, rfl⟩ := h
    exact ⟨⟨s, p⟩, rfl⟩
theorem opn_blocks : Opn enc Tryz.prog W 22 fun ds => ∃ l : List Bk, ds = [bks l] :=
  (Opn.slice Tryz.underlying22 cellsBlock (by decide) opn_block).mono fun ds ⟨rows, e, h, _⟩ => by
    obtain ⟨l, e2⟩ := flats_of h
    exact ⟨l, by rw [e, e2]; rfl⟩
theorem opn_sys : Opn enc Tryz.prog W 25 fun ds => ∃ s : Sy, ds = [bks s.bs, rps s.rs] :=
  (Opn.struct Tryz.underlying25 ⟨_, _, rfl, (by kernel_rfl), opn_blocks, _, _, rfl, (by kernel_rfl), opn_ropes, rfl⟩ (by kernel_rfl)).mono fun ds h => by
    obtain ⟨d1, r1, rfl, ⟨a, rfl⟩, d2, r2, rfl, ⟨b, rfl⟩, rfl⟩ := h
    exact ⟨⟨a, b⟩, rfl⟩
theorem arg_sys {v : Value} {base : Nat} {r : Reach} {d : DataW H} {p : List MemPlace} (h : DataW.Trod enc Tryz.prog W 0 (fun _ => true) true 25 v d p) (hv : Value.okWide Tryz.prog W r base 25 v) : ∃ s : Sy, Rep (memOf W) [] (syD s) v := by
  obtain ⟨cs, rfl⟩ : ∃ cs, v = .agg cs := by
    simp only [Value.okWide, Tryz.underlying25] at hv
    obtain ⟨cs, e, _⟩ := hv
    exact ⟨cs, e⟩
  obtain ⟨ds, hr, s, rfl⟩ := arg_agg opn_sys h
  exact ⟨s, hr⟩
theorem cellsSys : Tryz.prog.cellsOf 25 = 2 := by kernel_rfl
theorem opn_syss : Opn enc Tryz.prog W 62 fun ds => ∃ l : List Sy, ds = [sys l] ∧ True :=
  (Opn.slice Tryz.underlying62 cellsSys (by decide) opn_sys).mono fun ds ⟨rows, e, h, _⟩ => by
    obtain ⟨l, e2⟩ := flats_of (f := sy1) h
    exact ⟨l, by rw [e, e2], trivial⟩
theorem arg_rope {v : Value} {base : Nat} {r : Reach} {d : DataW H} {p : List MemPlace} (h : DataW.Trod enc Tryz.prog W 0 (fun _ => true) true 72 v d p) (hv : Value.okWide Tryz.prog W r base 72 v) : ∃ s : Rp, Rep (memOf W) [] (.agg (rp1 s)) v := by
  obtain ⟨cs, rfl⟩ : ∃ cs, v = .agg cs := by
    simp only [Value.okWide, Tryz.underlying72] at hv
    obtain ⟨cs, e, _⟩ := hv
    exact ⟨cs, e⟩
  obtain ⟨ds, hr, s, rfl⟩ := arg_agg opn_rope h
  exact ⟨s, hr⟩
theorem arg_frac {v : Value} {base : Nat} {r : Reach} {d : DataW H} {p : List MemPlace} (h : DataW.Trod enc Tryz.prog W 0 (fun _ => true) true 43 v d p) (hv : Value.okWide Tryz.prog W r base 43 v) : ∃ s : Int × Int, Rep (memOf W) [] (frD s) v := by
  obtain ⟨cs, rfl⟩ : ∃ cs, v = .agg cs := by
    simp only [Value.okWide, Tryz.underlying43] at hv
    obtain ⟨cs, e, _⟩ := hv
    exact ⟨cs, e⟩
  obtain ⟨ds, hr, a, b, rfl⟩ := arg_agg opn_frac h
  exact ⟨(a, b), hr⟩
abbrev u16s (l : List Int) : D := .sl 1 (l.map fun n => .v (.int .u16 n)) false
theorem u16_of {x : Int} (h : (Lit.int .u16 x).wf = true) : 0 ≤ x ∧ x < 65536 := by
  rw [Lit.wf, Bool.and_eq_true] at h
  have h1 := of_decide_eq_true h.1
  have h2 := of_decide_eq_true h.2
  have e1 : IntKind.u16.min = 0 := rfl
  have e2 : IntKind.u16.max = 65535 := rfl
  rw [e1] at h1
  rw [e2] at h2
  exact ⟨h1, by omega⟩
theorem u16_rows : ∀ {rows : List (List D)}, (∀ r ∈ rows, (∃ n, r = [.v (.int .u16 n)] ∧ (Lit.int .u16 n).wf = true) ∧ r.length = 1) → ∃ l : List Int, rows.flatten = l.map (fun n => .v (.int .u16 n)) ∧ ∀ x ∈ l, (Lit.int .u16 x).wf = true
  | [], _ => ⟨[], rfl, by simp⟩
  | r :: rows, h => by
    obtain ⟨⟨n, rfl, hw⟩, _⟩ := h r (by simp)
    obtain ⟨l, e, hl⟩ := u16_rows fun x hx => h x (List.mem_cons_of_mem _ hx)
    exact ⟨n :: l, by simp [e], fun x hx => by
      rcases List.mem_cons.1 hx with rfl | hx
      · exact hw
      · exact hl x hx⟩
theorem u64_of {x : Int} (h : (Lit.int .u64 x).wf = true) : 0 ≤ x ∧ x ≤ 18446744073709551615 := by
  rw [Lit.wf, Bool.and_eq_true] at h
  have h1 := of_decide_eq_true h.1
  have h2 := of_decide_eq_true h.2
  have e1 : IntKind.u64.min = 0 := rfl
  have e2 : IntKind.u64.max = 18446744073709551615 := rfl
  rw [e1] at h1
  rw [e2] at h2
  exact ⟨h1, h2⟩
end
end Go.Proofs.YtjjpjgnoanfaoaaGreat.T
end

/- The signs of the head's word (printed by mkmake.py): the kernel need not take a long string apart. -/
namespace Go.Proofs.YtjjpjgnoanfaoaaGreat.T
open Go Go.RowKit Go.Joins
def wordSigns0 : List Char := [104,97,114,110,101,115,115,32,102,52,55,98,51,102,54,100,49,50,97,57,49,99,99,100,98,50,54,50,55,97,97,51,100,57,97,98,50,55,101,98,101,51,53,52,50,98,57,49,50,98,49,55,53,56,52,55,48,48,53,54,99,101,101,48].map Char.ofNat
def wordSigns1 : List Char := [57,57,51,56,52,100,56,51,32,99,117,116,32,97,116,32,108,111,102,116,98,108,111,99,107,47,108,111,102,116,98,108,111,99,107,108,97,119,49,54,46,77,111,98,105,108,105,116,121,77,111,100,101,115,32,108,111,102,116,98,108,111,99,107].map Char.ofNat
def wordSigns2 : List Char := [47,108,111,102,116,98,108,111,99,107,108,97,119,49,54,46,77,111,98,105,108,105,116,121,82,101,100,117,110,100,97,110,116,32,108,111,102,116,98,108,111,99,107,47,108,111,102,116,98,108,111,99,107,108,97,119,49,51,46,65,100,118,97,110].map Char.ofNat
def wordSigns3 : List Char := [116,97,103,101,87,111,114,107,115,32,108,111,102,116,98,108,111,99,107,47,108,111,102,116,98,108,111,99,107,108,97,119,49,51,46,65,100,118,97,110,116,97,103,101,66,111,116,104,32,108,111,102,116,98,108,111,99,107,47,108,111,102,116,98].map Char.ofNat
def wordSigns4 : List Char := [108,111,99,107,108,97,119,49,51,46,65,100,118,97,110,116,97,103,101,66,101,115,116,32,108,111,102,116,98,108,111,99,107,47,108,111,102,116,98,108,111,99,107,108,97,119,49,52,46,76,111,115,115,101,115,67,97,114,114,121,32,108,111,102].map Char.ofNat
def wordSigns5 : List Char := [116,98,108,111,99,107,47,108,111,102,116,98,108,111,99,107,108,97,119,49,52,46,76,111,115,115,101,115,70,111,114,99,101,115,32,108,111,102,116,98,108,111,99,107,47,108,111,102,116,98,108,111,99,107,108,97,119,49,52,46,76,111,115,115].map Char.ofNat
def wordSigns6 : List Char := [101,115,79,114,100,101,114,32,108,111,102,116,98,108,111,99,107,47,108,111,102,116,98,108,111,99,107,108,97,119,49,52,46,76,111,115,115,101,115,72,111,108,100,115,32,108,111,102,116,98,108,111,99,107,47,108,111,102,116,98,108,111,99,107].map Char.ofNat
def wordSigns7 : List Char := [108,97,119,49,52,46,76,111,115,115,101,115,69,120,97,99,116,32,108,111,102,116,98,108,111,99,107,47,108,111,102,116,98,108,111,99,107,108,97,119,49,52,46,76,111,115,115,101,115,78,111,110,101].map Char.ofNat
def wordSigns : List Char := wordSigns0 ++ wordSigns1 ++ wordSigns2 ++ wordSigns3 ++ wordSigns4 ++ wordSigns5 ++ wordSigns6 ++ wordSigns7
theorem word_is : Tryz.prog.initOrder.toList = wordSigns := by
  have h : Tryz.prog.initOrder = String.ofList wordSigns := by kernel_rfl
  rw [h, String.toList_ofList]
theorem word_cut : behindMainWord (wordsSigns wordSigns) = "cut".toList :: (behindMainWord (wordsSigns wordSigns)).tail := by kernel_rfl
theorem make_of (P : Program) (l : List Char) (h : P.initOrder.toList = l) (r : List (List Char)) (hr : behindMainWord (wordsSigns l) = "cut".toList :: r) : P.make = some .cut := by
  unfold Program.make
  rw [h, hr]
  rfl
theorem enter_of (P : Program) (l : List Char) (h : P.initOrder.toList = l) (r : List (List Char)) (hr : behindMainWord (wordsSigns l) = "cut".toList :: r) (h1 : P.laysLater = false) (h2 : P.bearsReflect = false) (h3 : P.doorFits [] = true) (hs : stripLifts liftWords ("cut".toList :: r) = ([], "cut".toList :: r)) : P.mayEnter = true := by
  unfold Program.mayEnter
  rw [h, hr]
  simp only [hs, h1, h2, h3]
  rfl
theorem word_make : Tryz.prog.make = some .cut := make_of _ wordSigns word_is _ word_cut
theorem word_enter : Tryz.prog.mayEnter = true := enter_of _ wordSigns word_is _ word_cut (by kernel_rfl) (by kernel_rfl) (by kernel_rfl) (by kernel_rfl)
theorem word_lifts : Tryz.prog.liftsFinal = false := by
  unfold Program.liftsFinal Program.headLifts
  rw [word_is]
  kernel_rfl
theorem word_enterP : Tryz.pinned.checked.prog.mayEnter = true := word_enter
theorem word_liftsP : Tryz.pinned.checked.prog.liftsFinal = false := word_lifts
theorem word_makeP : Tryz.pinned.checked.prog.make = some .cut := word_make
end Go.Proofs.YtjjpjgnoanfaoaaGreat.T

