import Derived.Test.YtjjpjgnoanfaoaaGreatQMQX
import Derived.Test.YtjjpjgnoanfaoaaGreatQLSJ
import Derived.Test.YtjjpjgnoanfaoaaGreatQWOP
set_option linter.all false
namespace Go.Proofs.YtjjpjgnoanfaoaaGreat.T
open Go Go.RowKit Lin
set_option linter.unusedSimpArgs false

/-! Chapter 16: the reference. -/
theorem turnedR (s : Sy) (hv : validS s = true) : PRet Tryz.prog 153 [syD s] (mat (trS s)) := by
  refine PRet.intro 1 fun t => ACall.enter tab_ok Tryz.func153 rfl rfl Tryz.ntmps153 (by simp) ?_
  simp only [enterTM]
  have ok := validS_ok hv
  have hM := matrix_ref s ok
  obtain ⟨m1, m2, m3⟩ := validP_iff.1 ok.mat_valid
  have mw := ok.mat_wid
  have hT := refTurned (matS s) s.rs.length (by omega) (by omega) (by omega) (fun r hr => by rw [(m3 r hr).1, mw])
  ((refine gga2 hM hT ?_))
  ((repeat refine AW_seq ?_); (refine wta ?_); simp (disch := omega) only [retQ, resD, oneD, bb, bt, zDs, zD, eqCells, simprocAttr, Tryz.results153])
  exact rsv_tidy _ _ (tidy_mat _)
theorem nums_push (L : List Nat) (k : Nat) : nums (L ++ [k]) = nums L ++ [(k : Int)] := by simp [nums]
theorem fixed_call (s : Sy) (but : Int) (hl : s.rs.length ≤ 1000) (t : Nat) : ACall Tryz.prog 82 [syD s, int but] [] t (fun d H' _ => ∃ b g, d = .own 1 b g 0 (fixP s.rs but s.rs.length).length ∧ H'[b]? = some (some ⟨3, g, (nums (fixP s.rs but s.rs.length)).map int⟩)) := by
  refine ACall.enter tab_ok Tryz.func82 rfl rfl Tryz.ntmps82 (by simp) ?_
  simp only [enterTM]
  have hdr := rpC_div s.rs
  have hz0 : fixP s.rs but 0 = [] := rfl
  ((refine gga0 ?_))
  refine AW.begin 5 1 3 rfl (by decide) ?_
  simp only [putTM, List.length_cons, List.length_nil, Nat.reduceEqDiff, ↓reduceIte, List.cons_append, List.nil_append]
  refine AW_mid (fun x : Nat × Nat => ⟨[(5, .own 1 1 x.1 0 (fixP s.rs but s.rs.length).length)], [none, some ⟨3, x.1, (nums (fixP s.rs but s.rs.length)).map int⟩], x.2⟩) (fun _ => True) ?_ ?_
  · refine AW_block ?_
    refine AW_loop_w (fun x : Nat × Nat × Nat => ⟨[(1, int but), (2, .ptr 0 (t + 1) 0), (5, .own 1 1 x.2.1 0 (fixP s.rs but x.1).length), (6, int x.1)], [some ⟨25, t + 1, [bks s.bs, rps s.rs]⟩, some ⟨3, x.2.1, (nums (fixP s.rs but x.1)).map int⟩], x.2.2⟩) (fun x => s.rs.length - x.1) (fun x => x.1 ≤ s.rs.length) (0, t + 1 + 1, t + 1 + 1) (Nat.zero_le _) (by (simp (disch := omega) only [StLe, tmLe, hpLe_refl, hpLe, bl, bb, bt, zDs, zD, eqCells, simprocAttr, hz0, nums, List.map_nil, List.length_nil])) ?_
    rintro ⟨k, g, tt⟩ hk
    simp only at hk
    by_cases hlt : k < s.rs.length
    · obtain ⟨r, hr⟩ : ∃ y, s.rs[k]? = some y := ⟨_, List.getElem?_eq_getElem hlt⟩
      have hra : (rpC s.rs)[k * 3 + 2]? = some (bool r.hl) := rpC_cell s.rs k r hr 2 (by decide)
      have hst := fixP_step (but := but) hr
      have hfl := fixP_len s.rs but k
      have hnl := nums_len (fixP s.rs but k)
      have hpu := nums_push (fixP s.rs but k) k
      generalize fixP s.rs but k = L at *
      ((refine ggb0 (F := _∧_∧_) ⟨@Int.ofNat_lt, hlt, hdr⟩ ?_))
      ((repeat refine AW_seq ?_))
      refine AW_block ?_
      cases hh : r.hl
      · rw [hh] at hra hst
        by_cases hb : (k : Int) = but
        · have hb1 : ((k : Int) != but) = false := by simp [hb]
          rw [if_neg (by simp [hb])] at hst
          ((refine ggb0 (F := _∧_∧_∧_) ⟨hlt, hdr, hra, hb1⟩ ?_))
          refine ⟨(k + 1, g, tt), hlt, by show s.rs.length - (k + 1) < s.rs.length - k; omega, ?_⟩
          simp only [hst]
          (simp (disch := omega) only [StLe, tmLe, hpLe_refl, hpLe, bl, bb, bt, zDs, zD, eqCells, simprocAttr])
        · have hb1 : ((k : Int) != but) = true := by simpa using hb
          rw [if_pos (by simpa using hb)] at hst
          ((refine ggb0 (F := _∧_∧_∧_∧_) ⟨hlt, hdr, hra, hb1, hnl⟩ ?_))
          refine ⟨(k + 1, tt + 1, tt + 1), hlt, by show s.rs.length - (k + 1) < s.rs.length - k; omega, ?_⟩
          simp only [hst, hpu, List.length_append, List.length_cons, List.length_nil, List.map_append, List.map_cons, List.map_nil]
          (simp (disch := omega) only [StLe, tmLe, hpLe_refl, hpLe, bl, bb, bt, zDs, zD, eqCells, simprocAttr])
      · rw [hh] at hra hst
        rw [if_neg (by simp)] at hst
        ((refine ggb0 (F := _∧_∧_) ⟨hlt, hdr, hra⟩ ?_))
        refine ⟨(k + 1, g, tt), hlt, by show s.rs.length - (k + 1) < s.rs.length - k; omega, ?_⟩
        simp only [hst]
        (simp (disch := omega) only [StLe, tmLe, hpLe_refl, hpLe, bl, bb, bt, zDs, zD, eqCells, simprocAttr])
    · have hke : k = s.rs.length := by omega
      subst hke
      ((refine wqb (F := _∧_) ⟨@Int.lt_irrefl, hdr⟩ ?_))
      ((refine wia ?_))
      ((refine wxa ?_))
      exact ⟨(g, tt), trivial, by (simp (disch := omega) only [StLe, tmLe, hpLe_refl, hpLe, bl, bb, bt, zDs, zD, eqCells, simprocAttr])⟩
  rintro ⟨g, tt⟩ -
  generalize fixP s.rs but s.rs.length = L
  ((refine gga0 ?_))
  ((repeat refine AW_seq ?_); (refine wta ?_); simp (disch := omega) only [retQ, resD, oneD, bb, bt, zDs, zD, eqCells, simprocAttr, Tryz.results82])
  exact ⟨1, g, rfl, rfl⟩
theorem plainL_numsD (l : List Int) : plainL (l.map int) = true := by
  induction l with
  | nil => rfl
  | cons x l ih => simp only [List.map_cons, plainL, plainD, ih, Bool.and_self]
theorem fixed_fresh (s : Sy) (but : Int) (hl : s.rs.length ≤ 1000) : PFresh Tryz.prog 82 [syD s, int but] 3 1 (fixP s.rs but s.rs.length).length ((nums (fixP s.rs but s.rs.length)).map int) :=
  PFresh.intro (plainL_numsD _) fun t => (fixed_call s but hl t).mono fun _ _ _ h => .inr h
theorem fixed_ref (s : Sy) (but : Int) (hl : s.rs.length ≤ 1000) : PRet Tryz.prog 82 [syD s, int but] (ints (nums (fixP s.rs but s.rs.length))) := by
  refine PRet.intro 2 fun t => (fixed_call s but hl t).mono ?_
  rintro d H' t' ⟨b, g, rfl, hb⟩
  have hnl := nums_len (fixP s.rs but s.rs.length)
  generalize fixP s.rs but s.rs.length = L at *
  simp only [rsv, rs, hb, if_true]
  have hfin : List.take L.length ((nums L).map int) = (nums L).map int := List.take_of_length_le (by simp [hnl])
  have ht : rsL (fun _ => D.any) H' ((nums L).map int) = (nums L).map int := rsL_tidy _ _ _ (tidy_ints _)
  rw [rsL_eq_map] at ht
  simp [hfin, hnl]
  intro a ha
  exact rs_tidy _ _ _ rfl
theorem rowsF_push (s : Sy) (L : List Nat) (i : Nat) : rowsF s (L ++ [i]) = rowsF s L ++ [(trS s).getD i []] := by simp [rowsF]
theorem rows_ref (s : Sy) (hv : validS s = true) (L : List Nat) (h6 : L.length ≤ 1000) (hL : ∀ i ∈ L, i < s.rs.length) : PRet Tryz.prog 81 [syD s, ints (nums L)] (mat (rowsF s L)) := by
  refine PRet.intro 1 fun t => ACall.enter tab_ok Tryz.func81 rfl rfl Tryz.ntmps81 (by simp) ?_
  simp only [enterTM]
  have hT := turnedR s hv
  have hnl := nums_len L
  have htl := (validS_ok hv).tr_len
  have hz0 : rowsF s [] = [] := rfl
  ((refine gga1 hT ?_))
  refine AW.begin 6 1 50 rfl (by decide) ?_
  simp only [putTM, List.length_cons, List.length_nil, Nat.reduceEqDiff, ↓reduceIte, List.cons_append, List.nil_append]
  refine AW_mid (fun x : Nat × Nat => ⟨[(6, .own 1 1 x.1 0 L.length)], [none, some ⟨50, x.1, (rowsF s L).map ints⟩], x.2⟩) (fun _ => True) ?_ ?_
  · refine AW_block ?_
    refine AW_loop_w (fun x : Nat × Nat × Nat => ⟨[(1, ints (nums L)), (5, mat (trS s)), (6, .own 1 1 x.2.1 0 x.1), (7, int x.1)], [none, some ⟨50, x.2.1, (rowsF s (L.take x.1)).map ints⟩], x.2.2⟩) (fun x => L.length - x.1) (fun x => x.1 ≤ L.length) (0, t + 1 + 1, t + 1 + 1) (Nat.zero_le _) (by (simp (disch := omega) only [StLe, tmLe, hpLe_refl, hpLe, bl, bb, bt, zDs, zD, eqCells, simprocAttr, hz0, List.map_nil])) ?_
    rintro ⟨k, g, tt⟩ hk
    simp only at hk
    by_cases hlt : k < L.length
    · obtain ⟨i, hi⟩ : ∃ y, L[k]? = some y := ⟨_, List.getElem?_eq_getElem hlt⟩
      have hil := hL i (List.mem_of_getElem? hi)
      have hni : (nums L)[k]? = some (i : Int) := by unfold nums; rw [List.getElem?_map, hi]; rfl
      have hti : i < (trS s).length := by omega
      obtain ⟨row, hrow⟩ : ∃ y, (trS s)[i]? = some y := ⟨_, List.getElem?_eq_getElem hti⟩
      have hge : (trS s).getD i [] = row := by rw [List.getD_eq_getElem?_getD, hrow]; rfl
      have htk : rowsF s (L.take (k + 1)) = rowsF s (L.take k) ++ [row] := by
        rw [List.take_add_one, hi, Option.toList_some, rowsF_push, hge]
      have hrl := rowsF_len s (L.take k)
      have hlk : (L.take k).length = k := by simp; omega
      rw [hlk] at hrl
      have hkn : k < (nums L).length := by omega
      generalize rowsF s (L.take k) = E at *
      ((refine ggb0 (F := _∧_∧_) ⟨@Int.ofNat_lt, hlt, hnl⟩ ?_))
      ((repeat refine AW_seq ?_))
      refine AW_block ?_
      ((refine ggb0 (F := _∧_∧_∧_∧_) ⟨hkn, hni, hti, hrow, hrl⟩ ?_))
      refine ⟨(k + 1, tt + 1, tt + 1), hlt, by show L.length - (k + 1) < L.length - k; omega, ?_⟩
      simp only [htk, List.map_append, List.map_cons, List.map_nil]
      (simp (disch := omega) only [StLe, tmLe, hpLe_refl, hpLe, bl, bb, bt, zDs, zD, eqCells, simprocAttr])
    · have hke : k = L.length := by omega
      subst hke
      rw [List.take_length]
      ((refine wqb (F := _∧_) ⟨@Int.lt_irrefl, hnl⟩ ?_))
      ((refine wia ?_))
      ((refine wxa ?_))
      exact ⟨(g, tt), trivial, by (simp (disch := omega) only [StLe, tmLe, hpLe_refl, hpLe, bl, bb, bt, zDs, zD, eqCells, simprocAttr])⟩
  rintro ⟨g, tt⟩ -
  have hrl := rowsF_len s L
  generalize rowsF s L = E at *
  have hfin : List.take L.length (E.map ints) = E.map ints := List.take_of_length_le (by simp [hrl])
  ((refine AW.freeze (1) (by first | rfl | (simp only [setH, List.getElem?_cons_zero, List.getElem?_cons_succ, fzL_mat, hfin, hrl, List.length_map, Nat.le_refl]; done)) ?_); simp (disch := omega) only [fzT, fz, fzL, fzL_ints, fzL_mat, fzH, fzB, eq_self, bb, bt, zDs, zD, eqCells, simprocAttr, fzL_mat, hfin, hrl, List.length_map, Nat.le_refl])
  ((refine gga0 ?_))
  ((repeat refine AW_seq ?_); (refine wta ?_); simp (disch := omega) only [retQ, resD, oneD, bb, bt, zDs, zD, eqCells, simprocAttr, Tryz.results81])
  exact rsv_tidy _ _ (tidy_mat _)
theorem null_ref {m : List (List Int)} (hv : validP m = true) : PRet Tryz.prog 83 [mat m] (frss (nullP m).1) := by
  have h := refNull m hv
  have hsm := valid_small hv
  have iv1 := elim_inv (ups_mover m (wid m)) hsm.lens (wid m) (Nat.le_refl _)
  have iv2 := elim_inv (mvR_mover m (wid m)) hsm.lens (wid m) (Nat.le_refl _)
  have e : (nullP m).1 = nulls (elimBy mvR m (wid m)) (wid m) (wid m) := by
    unfold nullP
    rw [if_pos hv]
    show nulls (elim m (wid m)) (wid m) (wid m) = _
    rw [elim_by, nulls_same iv1 iv2 (pivots_agree (ups_mover m (wid m)) (mvR_mover m (wid m)) hsm.lens (wid m) (Nat.le_refl _)) (wid m) (Nat.le_refl _)]
  rw [e]
  exact h
theorem rank_ref (m : List (List Int)) (hm : m.length ≤ 1000000) (hv : m ≠ [] → validP m = true) : PRet Tryz.prog 160 [mat m] (int (rankP m (wid m))) := by
  refine PRet.intro 1 fun t => ACall.enter tab_ok Tryz.func160 rfl rfl Tryz.ntmps160 (by simp) ?_
  simp only [enterTM]
  by_cases h0 : m = []
  · subst h0
    have e : rankP ([] : List (List Int)) (wid []) = 0 := rfl
    rw [e]
    ((refine gga0 ?_))
    ((repeat refine AW_seq ?_); (refine wta ?_); simp (disch := omega) only [retQ, resD, oneD, rsv, rs, rsL, rsL_eq_map, List.map_map, bb, bt, zDs, zD, eqCells, simprocAttr, Tryz.results160])
  · have hvm := hv h0
    obtain ⟨h1, h2, h3⟩ := validP_iff.1 hvm
    have hpos := List.length_pos_iff.2 h0
    have hR := refRank m (valid_small hvm) (by omega) (by omega) hpos
    have hne : ((m.length : Int) == 0) = false := by simpa using h0
    ((refine ggb1 hne hR ?_))
    ((repeat refine AW_seq ?_); (refine wta ?_); simp (disch := omega) only [retQ, resD, oneD, rsv, rs, rsL, rsL_eq_map, List.map_map, bb, bt, zDs, zD, eqCells, simprocAttr, Tryz.results160])
set_option maxHeartbeats 4000000 in
theorem modes_ref (s : Sy) (hv : validS s = true) : PRet Tryz.prog 20 [syD s] (frss (modesP s).1) := by
  refine PRet.intro 1 fun t => ACall.enter tab_ok Tryz.func20 rfl rfl Tryz.ntmps20 (by simp) ?_
  simp only [enterTM]
  have ok := validS_ok hv
  have hb6 := ok.b6
  have hr6 := ok.r6
  have hdb := bkC_div s.bs
  have hfl := fixP_len s.rs (-1) s.rs.length
  have hF : PRet Tryz.prog 82 [syD s, int (-1)] (ints (nums (fixA s))) := fixed_ref s (-1) (by omega)
  have hR := rows_ref s hv (fixA s) (by unfold fixA; omega) (fun i hi => fixP_lt hi)
  have hrl := rowsF_len s (fixA s)
  by_cases h0 : fixA s = []
  rotate_left 1
  · obtain ⟨rv, rw', rm⟩ := rowsF_valid ok h0 (by unfold fixA; omega) (fun i hi => fixP_lt hi)
    have e : modesP s = nullP (rowsF s (fixA s)) := by simp [modesP, hv, h0]
    have hN := null_ref rv
    have hp : (0 : Int) < ((rowsF s (fixA s)).length : Int) := by
      have := List.length_pos_iff.2 h0
      omega
    rw [e]
    generalize rowsF s (fixA s) = E at *
    generalize (nullP E).1 = Y at *
    ((refine wqa ?_))
    ((repeat refine AW_seq ?_); (refine gdza2 hF hR ?_))
    ((refine ggb1 hp hN ?_))
    ((repeat refine AW_seq ?_); (refine wta ?_); simp (disch := omega) only [retQ, resD, oneD, bb, bt, zDs, zD, eqCells, simprocAttr, Tryz.results20])
    exact rsv_tidy _ _ (by simp only [tidyD, tidy_frss, Bool.not_false, Bool.and_self])
  have e : modesP s = (unitM s.bs.length, 0) := by simp [modesP, hv, h0]
  have eM : unitM s.bs.length = unitL s.bs.length s.bs.length := rfl
  rw [h0] at hF hR
  have e1 : nums [] = [] := rfl
  have e2 : rowsF s [] = [] := rfl
  rw [e1] at hF
  rw [e1, e2] at hR
  replace hF : PRet Tryz.prog 82 [syD s, int (-1)] (.sl 1 [] false) := hF
  replace hR : PRet Tryz.prog 81 [syD s, .sl 1 [] false] (.sl 1 [] false) := hR
  rw [e]
  simp only [eM]
  have o0 := refOf 0
  have o1 := refOf 1
  have hz0 : ∀ n, unitL n 0 = [] := fun n => rfl
  have hz1 : ∀ k, frC (unitC k 0) = [] := fun k => rfl
  ((refine wqa ?_))
  ((repeat refine AW_seq ?_); (refine gdza2 hF hR ?_))
  ((refine gga0 ?_))
  generalize hn : s.bs.length = n at *
  refine AW.begin 4 1 40 rfl (by decide) ?_
  simp only [putTM, List.length_cons, List.length_nil, Nat.reduceEqDiff, ↓reduceIte, List.cons_append, List.nil_append]
  refine AW_mid (fun x : Nat × Nat => ⟨[(4, .own 1 1 x.1 0 n)], [none, some ⟨40, x.1, (unitL n n).map frs⟩], x.2⟩) (fun _ => True) ?_ ?_
  · refine AW_block ?_
    refine AW_loop_w (fun x : Nat × Nat × Nat => ⟨[(1, .ptr 0 (t + 1) 0), (4, .own 1 1 x.2.1 0 x.1), (5, int x.1)], [some ⟨25, t + 1, [bks s.bs, rps s.rs]⟩, some ⟨40, x.2.1, (unitL n x.1).map frs⟩], x.2.2⟩) (fun x => n - x.1) (fun x => x.1 ≤ n) (0, t + 1 + 1 + 1, t + 1 + 1 + 1) (Nat.zero_le _) (by (simp (disch := omega) only [StLe, tmLe, hpLe_refl, hpLe, bl, bb, bt, zDs, zD, eqCells, simprocAttr, hz0, List.map_nil])) ?_
    rintro ⟨k, g, tt⟩ hk
    simp only at hk
    have htl : (unitL n k).length = k := unitL_len n k
    by_cases hlt : k < n
    · ((refine ggb0 (F := _∧_∧_) ⟨@Int.ofNat_lt, hlt, hdb⟩ ?_))
      ((repeat refine AW_seq ?_))
      refine AW_block ?_
      ((refine gga0 ?_))
      refine AW.begin 6 2 43 rfl (by decide) ?_
      simp only [putTM, List.length_cons, List.length_nil, Nat.reduceEqDiff, ↓reduceIte, List.cons_append, List.nil_append]
      refine AW_mid (fun x : Nat × Nat => ⟨[(1, .ptr 0 (t + 1) 0), (4, .own 1 1 g 0 k), (5, int k), (6, .own 2 2 x.1 0 n)], [some ⟨25, t + 1, [bks s.bs, rps s.rs]⟩, some ⟨40, g, (unitL n k).map frs⟩, some ⟨43, x.1, frC (unitC k n)⟩], x.2⟩) (fun _ => True) ?_ ?_
      · refine AW_block ?_
        refine AW_loop_w (fun x : Nat × Nat × Nat => ⟨[(1, .ptr 0 (t + 1) 0), (4, .own 1 1 g 0 k), (5, int k), (6, .own 2 2 x.2.1 0 x.1), (7, int x.1)], [some ⟨25, t + 1, [bks s.bs, rps s.rs]⟩, some ⟨40, g, (unitL n k).map frs⟩, some ⟨43, x.2.1, frC (unitC k x.1)⟩], x.2.2⟩) (fun x => n - x.1) (fun x => x.1 ≤ n) (0, tt + 1, tt + 1) (Nat.zero_le _) (by (simp (disch := omega) only [StLe, tmLe, hpLe_refl, hpLe, bl, bb, bt, zDs, zD, eqCells, simprocAttr, hz1])) ?_
        rintro ⟨j, g2, t2⟩ hj
        simp only at hj
        by_cases hlj : j < n
        · have hct := unitC_succ k j
          have hcl := unitC_len k j
          have hfl2 : (frC (unitC k j)).length = j * 2 := by rw [frC_len, hcl]
          ((refine ggb0 (F := _∧_∧_) ⟨@Int.ofNat_lt, hlj, hdb⟩ ?_))
          ((repeat refine AW_seq ?_))
          refine AW_block ?_
          by_cases hjk : j = k
          · have ejk : ((j : Int) == (k : Int)) = true := by simp [hjk]
            rw [if_pos hjk] at hct
            ((refine ggb2 (F := _∧_) ⟨ejk, hfl2⟩ o1 o0 ?_))
            refine ⟨(j + 1, t2 + 1, t2 + 1), hlj, by show n - (j + 1) < n - j; omega, ?_⟩
            simp only [hct, frC_push]
            (simp (disch := omega) only [StLe, tmLe, hpLe_refl, hpLe, bl, bb, bt, zDs, zD, eqCells, simprocAttr])
          · have ejk : ((j : Int) == (k : Int)) = false := by simp; omega
            rw [if_neg hjk] at hct
            ((refine ggb2 (F := _∧_) ⟨ejk, hfl2⟩ o1 o0 ?_))
            refine ⟨(j + 1, t2 + 1, t2 + 1), hlj, by show n - (j + 1) < n - j; omega, ?_⟩
            simp only [hct, frC_push]
            (simp (disch := omega) only [StLe, tmLe, hpLe_refl, hpLe, bl, bb, bt, zDs, zD, eqCells, simprocAttr])
        · have hje : j = n := by omega
          subst hje
          ((refine wqb (F := _∧_) ⟨@Int.lt_irrefl, hdb⟩ ?_))
          ((refine wia ?_))
          ((refine wxa ?_))
          exact ⟨(g2, t2), trivial, by (simp (disch := omega) only [StLe, tmLe, hpLe_refl, hpLe, bl, bb, bt, zDs, zD, eqCells, simprocAttr])⟩
      rintro ⟨g2, t2⟩ -
      have hcl := unitC_len k n
      have hfl2 : (frC (unitC k n)).length = n * 2 := by rw [frC_len, hcl]
      have hfin : List.take (n * 2) (frC (unitC k n)) = frC (unitC k n) := List.take_of_length_le (by omega)
      have hul := unitL_succ n k
      generalize unitC k n = U at *
      ((refine AW.freeze (2) (by first | rfl | (simp only [setH, List.getElem?_cons_zero, List.getElem?_cons_succ, fzS_frss, fz_bk, fz_rp, hfl2, hfin, Nat.le_refl]; done)) ?_); simp (disch := omega) only [fzT, fz, fzL, fzL_ints, fzL_mat, fzH, fzB, eq_self, bb, bt, zDs, zD, eqCells, simprocAttr, fzS_frss, fz_bk, fz_rp, hfl2, hfin, Nat.le_refl])
      ((refine ggb0 htl ?_))
      refine ⟨(k + 1, t2 + 1, t2 + 1), hlt, by show n - (k + 1) < n - k; omega, ?_⟩
      simp only [hul, List.map_append, List.map_cons, List.map_nil]
      (simp (disch := omega) only [StLe, tmLe, hpLe_refl, hpLe, bl, bb, bt, zDs, zD, eqCells, simprocAttr])
    · have hke : k = n := by omega
      subst hke
      ((refine wqb (F := _∧_) ⟨@Int.lt_irrefl, hdb⟩ ?_))
      ((refine wia ?_))
      ((refine wxa ?_))
      exact ⟨(g, tt), trivial, by (simp (disch := omega) only [StLe, tmLe, hpLe_refl, hpLe, bl, bb, bt, zDs, zD, eqCells, simprocAttr])⟩
  rintro ⟨g, tt⟩ -
  have htl : (unitL n n).length = n := unitL_len n n
  generalize unitL n n = U at *
  have hfin : List.take n (U.map frs) = U.map frs := List.take_of_length_le (by simp [htl])
  ((refine AW.freeze (1) (by first | rfl | (simp only [setH, List.getElem?_cons_zero, List.getElem?_cons_succ, fzS_frss, hfin, htl, List.length_map, Nat.le_refl]; done)) ?_); simp (disch := omega) only [fzT, fz, fzL, fzL_ints, fzL_mat, fzH, fzB, eq_self, bb, bt, zDs, zD, eqCells, simprocAttr, fzS_frss, hfin, htl, List.length_map, Nat.le_refl])
  ((refine gga0 ?_))
  ((repeat refine AW_seq ?_); (refine wta ?_); simp (disch := omega) only [retQ, resD, oneD, bb, bt, zDs, zD, eqCells, simprocAttr, Tryz.results20])
  exact rsv_tidy _ _ (by simp only [tidyD, tidy_frss, Bool.not_false, Bool.and_self])
end Go.Proofs.YtjjpjgnoanfaoaaGreat.T

