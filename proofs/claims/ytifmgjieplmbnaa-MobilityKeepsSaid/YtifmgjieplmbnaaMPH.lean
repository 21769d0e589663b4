import Derived.Test.YtifmgjieplmbnaaMQG
set_option linter.all false
namespace Go.Proofs.Ytifmgjieplmbnaa.T
open Go Go.RowKit Lin
set_option linter.unusedSimpArgs false

/-! MobilityKeeps. -/
set_option maxHeartbeats 8000000 in
theorem law_keeps (s : Sy) : PRet Try.prog 9 [syD s] (bool true) := by
  refine PRet.intro 1 fun t => ACall.enter tab_ok Try.func9 rfl rfl Try.ntmps9 (by simp) ?_
  simp only [enterTM]
  have hL : PRet Try.prog 46 [syD s, .v (.string ⟨#[]⟩)] (bool (longM s ⟨#[]⟩)) := long16 s ⟨#[]⟩
  cases hlo : longM s ⟨#[]⟩
  rotate_left 1
  · rw [hlo] at hL
    ((refine gga2 awake16 hL ?_))
    ((repeat refine AW_seq ?_); (refine wta ?_); simp (disch := omega) only [retQ, resD, oneD, rsv, rs, rsL, rsL_eq_map, List.map_map, bb, bt, zDs, zD, eqCells, simprocAttr, Try.results9])
  rw [hlo] at hL
  have hs : smallS s = true := by
    unfold longM at hlo
    rw [Bool.or_eq_false_iff] at hlo
    simpa using hlo.1
  have hf := small_fits hs
  have hV := valid_ref s hf
  cases hv : validS s
  · rw [hv] at hV
    ((refine gga3 awake16 hL hV ?_))
    ((repeat refine AW_seq ?_); (refine wta ?_); simp (disch := omega) only [retQ, resD, oneD, rsv, rs, rsL, rsL_eq_map, List.map_map, bb, bt, zDs, zD, eqCells, simprocAttr, Try.results9])
  rw [hv] at hV
  have hM := matrix_prog s hf
  rw [hv] at hM
  simp only [if_true] at hM
  have hFd := freedom_prog s hf
  have hMo := modes_prog s hf
  have hJ := jammed_prog s hf
  have ok := validS_ok hv
  have hdr := rpC_div s.rs
  have hdb := bkC_div s.bs
  have hr6 := ok.r6
  have hb6 := ok.b6
  have hrow := ok.rows
  have ml := ok.mat_len
  have mw := ok.mat_wid
  obtain ⟨y0, y1, y2, y3⟩ := modes_law hv
  obtain ⟨z1, z2, _⟩ := modesP_facts s
  have ej : jamP s = (jamN s.bs (modesP s).1 s.bs.length, 0) := by unfold jamP; rw [if_pos y0]
  have hjm := fun (k : Nat) (b : Bk) (hb : s.bs[k]? = some b) => jamN_mem ok (L := (modesP s).1) hb
  have hjl := jamN_len s.bs (modesP s).1 s.bs.length
  rw [ej] at hJ
  simp only at hJ
  generalize modesP s = Y at *
  obtain ⟨N, ye⟩ := Y
  simp only at *
  subst y0
  generalize jamN s.bs N s.bs.length = J at *
  have hcol : ∀ i, i < s.rs.length → (trS s).getD i [] = colP (matS s) i := fun i h => trS_getD s h
  have hz0 : fixP s.rs (-1) 0 = [] := rfl
  have hee : ((N.length : Int) != (N.length : Int)) = false := by simp
  have hcolb : ∀ i, ∀ n ∈ colP (matS s) i, -1000 ≤ n ∧ n ≤ 1000 := fun i n hn => by
    obtain ⟨q, hq, rfl⟩ := List.mem_map.1 hn
    exact at_bound (by decide) (hrow q hq).2 i
  ((refine ggb7 (F := _∧_) ⟨hee, hdr⟩ awake16 hL hV hM hFd hMo hJ ?_))
  refine AW.begin 11 1 53 rfl (by decide) ?_
  simp only [putTM, List.length_cons, List.length_nil, Nat.reduceEqDiff, ↓reduceIte, List.cons_append, List.nil_append]
  refine AW_mid (fun x : Nat × Nat => ⟨[(1, .ptr 0 (t + 1) 0), (5, int N.length), (7, frss N), (9, strsD J), (11, .own 1 1 x.1 0 (fixA s).length)], [some ⟨25, t + 1, [bks s.bs, rps s.rs]⟩, some ⟨53, x.1, (rowsF s (fixA s)).map ints⟩], x.2⟩) (fun _ => True) ?_ ?_
  · refine AW_block ?_
    refine AW_loop_w (fun x : Nat × Nat × Nat => ⟨[(1, .ptr 0 (t + 1) 0), (3, mat (matS s)), (5, int N.length), (7, frss N), (9, strsD J), (11, .own 1 1 x.2.1 0 (fixP s.rs (-1) x.1).length), (75, rps s.rs), (76, int s.rs.length), (77, int x.1)], [some ⟨25, t + 1, [bks s.bs, rps s.rs]⟩, some ⟨53, x.2.1, (rowsF s (fixP s.rs (-1) x.1)).map ints⟩], x.2.2⟩) (fun x => s.rs.length - x.1) (fun x => x.1 ≤ s.rs.length) (0, t + 1 + 1, t + 1 + 1) (Nat.zero_le _) (by (simp (disch := omega) only [StLe, tmLe, hpLe_refl, hpLe, bl, bb, bt, zDs, zD, eqCells, simprocAttr, hz0, rowsF, List.map_nil, List.length_nil])) ?_
    rintro ⟨k, g, tt⟩ hk
    simp only at hk
    by_cases hlt : k < s.rs.length
    · obtain ⟨r, hr⟩ : ∃ y, s.rs[k]? = some y := ⟨_, List.getElem?_eq_getElem hlt⟩
      have hra := rpC_read s.rs k r hr
      have hst := fixP_step (but := -1) hr
      have hfl := fixP_len s.rs (-1) k
      have hrl := rowsF_len s (fixP s.rs (-1) k)
      have hP := pulls16 (matS s) k (by omega) (fun q hq => by have := (hrow q hq).1; omega)
      generalize fixP s.rs (-1) k = L at *
      ((refine ggb0 (F := _∧_∧_) ⟨@Int.ofNat_lt, hlt, hdr⟩ ?_))
      ((repeat refine AW_seq ?_))
      refine AW_block ?_
      cases hh : r.hl
      · have hk1 : (!((k : Int) == -1)) = true := by simp
        rw [hh, Bool.not_false, Bool.true_and, if_pos hk1] at hst
        have hro : rowsF s (L ++ [k]) = rowsF s L ++ [colP (matS s) k] := by unfold rowsF; rw [List.map_append, List.map_cons, List.map_nil, hcol k hlt]
        ((refine ggb1 (F := _∧_∧_∧_∧_) ⟨hlt, hdr, hra, hh, hrl⟩ hP ?_))
        refine ⟨(k + 1, tt + 1 + 1, tt + 1 + 1), hlt, by show s.rs.length - (k + 1) < s.rs.length - k; omega, ?_⟩
        simp only [hst, hro, List.length_append, List.length_cons, List.length_nil, List.map_append, List.map_cons, List.map_nil]
        (simp (disch := omega) only [StLe, tmLe, hpLe_refl, hpLe, bl, bb, bt, zDs, zD, eqCells, simprocAttr])
      · rw [hh, Bool.not_true, Bool.false_and, if_neg (by simp)] at hst
        ((refine ggb0 (F := _∧_∧_∧_) ⟨hlt, hdr, hra, hh⟩ ?_))
        refine ⟨(k + 1, g, tt + 1), hlt, by show s.rs.length - (k + 1) < s.rs.length - k; omega, ?_⟩
        simp only [hst]
        (simp (disch := omega) only [StLe, tmLe, hpLe_refl, hpLe, bl, bb, bt, zDs, zD, eqCells, simprocAttr])
    · have hke : k = s.rs.length := by omega
      subst hke
      ((refine wqb (F := _∧_) ⟨@Int.lt_irrefl, hdr⟩ ?_))
      ((refine wia ?_))
      ((refine wxa ?_))
      exact ⟨(g, tt), trivial, by (simp (disch := omega) only [StLe, tmLe, hpLe_refl, hpLe, bl, bb, bt, zDs, zD, eqCells, simprocAttr, fixA])⟩
  rintro ⟨g, tt⟩ -
  have hrl := rowsF_len s (fixA s)
  have hfl := fixP_len s.rs (-1) s.rs.length
  have hfl2 : (fixA s).length ≤ 6 := by unfold fixA; omega
  have hrr : ∀ r ∈ rowsF s (fixA s), r.length = s.bs.length ∧ ∀ n ∈ r, -1000 ≤ n ∧ n ≤ 1000 := fun r hr => by
    obtain ⟨i, hi, rfl⟩ := List.mem_map.1 hr
    rw [hcol i (fixP_lt hi)]
    exact ⟨by simp [colP, ml], hcolb i⟩
  have hfin : List.take (fixA s).length ((rowsF s (fixA s)).map ints) = (rowsF s (fixA s)).map ints := List.take_of_length_le (by simp [rowsF])
  have hle : (fixA s).length ≤ (rowsF s (fixA s)).length := by omega
  ((refine AW.freeze (1) (by first | rfl | (simp only [setH, List.getElem?_cons_zero, List.getElem?_cons_succ, fzL_mat, fzS_frss, fzS_str, fz_bk, fz_rp, hfin, hle, List.length_map, Nat.le_refl]; done)) ?_); simp (disch := omega) only [fzT, fz, fzL, fzL_ints, fzL_mat, fzH, fzB, eq_self, bb, bt, zDs, zD, eqCells, simprocAttr, fzL_mat, fzS_frss, fzS_str, fz_bk, fz_rp, hfin, hle, List.length_map, Nat.le_refl])
  ((refine wqa ?_))
  ((repeat refine AW_seq ?_))
  refine AW_mid (fun x : Nat => ⟨[(1, .ptr 0 (t + 1) 0), (7, frss N), (9, strsD J), (11, mat (rowsF s (fixA s)))], [some ⟨25, t + 1, [bks s.bs, rps s.rs]⟩], x⟩) (fun _ => True) ?_ ?_
  · by_cases h0 : fixA s = []
    · have e1 := y2 h0
      have e2 : (rowsF s (fixA s)).length = 0 := by rw [hrl, h0]; rfl
      have e3 : ((N.length : Int) != (s.bs.length : Int)) = false := by simp [e1]
      ((refine ggb0 (F := _∧_∧_) ⟨e2, e3, hdb⟩ ?_))
      exact ⟨tt, trivial, by (simp (disch := omega) only [StLe, tmLe, hpLe_refl, hpLe, bl, bb, bt, zDs, zD, eqCells, simprocAttr])⟩
    · obtain ⟨rv, rw', rm⟩ := rowsF_valid ok h0 hfl2 (fun i hi => fixP_lt hi)
      have hR := rank (rowsF s (fixA s)) (by omega) (fun r hr => by rw [(hrr r hr).1]; omega)
      rw [rv] at hR
      simp only [if_true] at hR
      have e1 := y1 h0
      have hpos : (0 : Int) < ((rowsF s (fixA s)).length : Int) := by
        have := List.length_pos_iff.2 h0
        omega
      generalize rankP (rowsF s (fixA s)) (wid (rowsF s (fixA s))) = K at *
      have e3 : ((N.length : Int) != (s.bs.length : Int) - (K : Int)) = false := by rw [e1]; simp
      have hK : (K : Int) ≤ s.bs.length := by omega
      ((refine ggb1 (F := _∧_∧_) ⟨hpos, hdb, e3⟩ hR ?_))
      exact ⟨tt, trivial, by (simp (disch := omega) only [StLe, tmLe, hpLe_refl, hpLe, bl, bb, bt, zDs, zD, eqCells, simprocAttr])⟩
  rintro t2 -
  generalize rowsF s (fixA s) = R at *
  ((refine gga0 ?_))
  ((repeat refine AW_seq ?_))
  refine AW_mid (fun x : Nat => ⟨[(1, .ptr 0 (t + 1) 0), (7, frss N), (9, strsD J)], [some ⟨25, t + 1, [bks s.bs, rps s.rs]⟩], x⟩) (fun _ => True) ?_ ?_
  · refine AW_block ?_
    refine AW_loop_w (fun x : Nat × Nat => ⟨[(1, .ptr 0 (t + 1) 0), (7, frss N), (9, strsD J), (11, mat R), (116, frss N), (117, int N.length), (118, int x.1)], [some ⟨25, t + 1, [bks s.bs, rps s.rs]⟩], x.2⟩) (fun x => N.length - x.1) (fun x => x.1 ≤ N.length) (0, t2) (Nat.zero_le _) (by (simp (disch := omega) only [StLe, tmLe, hpLe_refl, hpLe, bl, bb, bt, zDs, zD, eqCells, simprocAttr])) ?_
    rintro ⟨j, t3⟩ hj
    simp only at hj
    by_cases hjn : j < N.length
    · obtain ⟨v, hv1⟩ : ∃ y, N[j]? = some y := ⟨_, List.getElem?_eq_getElem hjn⟩
      have hvm := List.mem_of_getElem? hv1
      have hvl := z1 v hvm
      obtain ⟨va, Z, D, hD, hK, hX⟩ := y3 v hvm
      have hC := containsFuncFr v 55 [] (fun x => x.1 != 0) (by omega) (fun x _ => keeps1 x)
      rw [va] at hC
      have hvd := frC_div v
      have e4 : ((v.length : Int) != (s.bs.length : Int)) = false := by simp [hvl]
      ((refine ggb0 (F := _∧_) ⟨@Int.ofNat_lt, hjn⟩ ?_))
      ((repeat refine AW_seq ?_))
      refine AW_block ?_
      ((refine ggb1 (F := _∧_∧_∧_∧_) ⟨hjn, hv1, hvd, hdb, e4⟩ hC ?_))
      ((repeat refine AW_seq ?_))
      refine AW_block ?_
      refine AW_loop_w (fun x : Nat × Nat => ⟨[(1, .ptr 0 (t + 1) 0), (7, frss N), (9, strsD J), (11, mat R), (17, frs v), (116, frss N), (117, int N.length), (118, int j), (133, mat R), (134, int R.length), (135, int x.1)], [some ⟨25, t + 1, [bks s.bs, rps s.rs]⟩], x.2⟩) (fun x => R.length - x.1) (fun x => x.1 ≤ R.length) (0, t3) (Nat.zero_le _) (by (simp (disch := omega) only [StLe, tmLe, hpLe_refl, hpLe, bl, bb, bt, zDs, zD, eqCells, simprocAttr])) ?_
      rintro ⟨p, t4⟩ hp
      simp only at hp
      by_cases hpn : p < R.length
      · obtain ⟨r, hr⟩ : ∃ y, R[p]? = some y := ⟨_, List.getElem?_eq_getElem hpn⟩
        have hrm := List.mem_of_getElem? hr
        obtain ⟨r1, r2⟩ := hrr r hrm
        have hPr := product16 r v hD hX r2 (by omega) (by omega)
        have hval := prK_val hD hX r2 r.length (Nat.le_refl _) (by omega)
        rw [hK r hrm] at hval
        have hzero : (prK r v r.length).2 = true → ((prK r v r.length).1.1 != 0) = false := fun h => by
          have := (hval h).e
          rw [Int.zero_mul] at this
          rcases Int.mul_eq_zero.1 this with h | h
          · simp [h]
          · exact absurd h hD
        generalize prK r v r.length = P at *
        cases hP : P.2
        · rw [hP] at hPr
          ((refine ggb0 (F := _∧_) ⟨@Int.ofNat_lt, hpn⟩ ?_))
          ((repeat refine AW_seq ?_))
          refine AW_block ?_
          ((refine ggb1 (F := _∧_) ⟨hpn, hr⟩ hPr ?_))
          refine ⟨(p + 1, t4 + 1), hpn, by show R.length - (p + 1) < R.length - p; omega, ?_⟩
          (simp (disch := omega) only [StLe, tmLe, hpLe_refl, hpLe, bl, bb, bt, zDs, zD, eqCells, simprocAttr])
        · rw [hP] at hPr
          have e5 := hzero hP
          ((refine ggb0 (F := _∧_) ⟨@Int.ofNat_lt, hpn⟩ ?_))
          ((repeat refine AW_seq ?_))
          refine AW_block ?_
          ((refine ggb1 (F := _∧_∧_) ⟨hpn, hr, e5⟩ hPr ?_))
          refine ⟨(p + 1, t4 + 1), hpn, by show R.length - (p + 1) < R.length - p; omega, ?_⟩
          (simp (disch := omega) only [StLe, tmLe, hpLe_refl, hpLe, bl, bb, bt, zDs, zD, eqCells, simprocAttr])
      · have hpe : p = R.length := by omega
        subst hpe
        ((refine ggb0 @Int.lt_irrefl ?_))
        refine ⟨(j + 1, t4), hjn, by show N.length - (j + 1) < N.length - j; omega, ?_⟩
        (simp (disch := omega) only [StLe, tmLe, hpLe_refl, hpLe, bl, bb, bt, zDs, zD, eqCells, simprocAttr])
    · have hje : j = N.length := by omega
      subst hje
      ((refine ggb0 @Int.lt_irrefl ?_))
      exact ⟨t3, trivial, by (simp (disch := omega) only [StLe, tmLe, hpLe_refl, hpLe, bl, bb, bt, zDs, zD, eqCells, simprocAttr])⟩
  rintro t3 -
  ((refine ggb0 hdb ?_))
  ((repeat refine AW_seq ?_))
  refine AW_mid (fun x : Nat => ⟨[], [], x⟩) (fun _ => True) ?_ ?_
  · refine AW_block ?_
    refine AW_loop_w (fun x : Nat × Nat => ⟨[(1, .ptr 0 (t + 1) 0), (7, frss N), (9, strsD J), (154, bks s.bs), (155, int s.bs.length), (156, int x.1)], [some ⟨25, t + 1, [bks s.bs, rps s.rs]⟩], x.2⟩) (fun x => s.bs.length - x.1) (fun x => x.1 ≤ s.bs.length) (0, t3) (Nat.zero_le _) (by (simp (disch := omega) only [StLe, tmLe, hpLe_refl, hpLe, bl, bb, bt, zDs, zD, eqCells, simprocAttr])) ?_
    rintro ⟨k, tt⟩ hk
    simp only at hk
    by_cases hlt : k < s.bs.length
    · obtain ⟨b, hb⟩ : ∃ y, s.bs[k]? = some y := ⟨_, List.getElem?_eq_getElem hlt⟩
      have hra := bkC_read s.bs k b hb
      have hC := movesK N k (by omega) (fun v hv => by rw [z1 v hv]; exact hlt)
      have hS := containsStrs J b.nm (by omega)
      rw [hjm k b hb] at hS
      generalize N.any (movB k) = mv at *
      have e6 : (mv == !mv) = false := by cases mv <;> rfl
      ((refine ggb0 (F := _∧_∧_) ⟨@Int.ofNat_lt, hlt, hdb⟩ ?_))
      ((repeat refine AW_seq ?_))
      refine AW_block ?_
      ((refine wqb (F := _∧_∧_) ⟨hlt, hdb, hra⟩ ?_))
      ((refine AW.freeze (1) (by first | rfl | (simp only [setH, List.getElem?_cons_zero, List.getElem?_cons_succ, fz_bk, fz_rp, fzS_str, fzS_frss]; done)) ?_); simp (disch := omega) only [fzT, fz, fzL, fzL_ints, fzL_mat, fzH, fzB, eq_self, bb, bt, zDs, zD, eqCells, simprocAttr, fz_bk, fz_rp, fzS_str, fzS_frss])
      ((refine ggb2 e6 hC hS ?_))
      refine ⟨(k + 1, tt + 1 + 1), hlt, by show s.bs.length - (k + 1) < s.bs.length - k; omega, ?_⟩
      (simp (disch := omega) only [StLe, tmLe, hpLe_refl, hpLe, bl, bb, bt, zDs, zD, eqCells, simprocAttr])
    · have hke : k = s.bs.length := by omega
      subst hke
      ((refine wqb (F := _∧_) ⟨@Int.lt_irrefl, hdb⟩ ?_))
      ((refine wia ?_))
      ((refine wxa ?_))
      exact ⟨tt, trivial, by (simp (disch := omega) only [StLe, tmLe, hpLe_refl, hpLe, bl, bb, bt, zDs, zD, eqCells, simprocAttr])⟩
  rintro tt -
  ((refine gga0 ?_))
  ((repeat refine AW_seq ?_); (refine wta ?_); simp (disch := omega) only [retQ, resD, oneD, rsv, rs, rsL, rsL_eq_map, List.map_map, bb, bt, zDs, zD, eqCells, simprocAttr, Try.results9])
end Go.Proofs.Ytifmgjieplmbnaa.T
