import Derived.Test.YtifmgjieplmbnaaMO
set_option linter.all false
namespace Go.Proofs.Ytifmgjieplmbnaa.T
open Go Go.RowKit Lin
set_option linter.unusedSimpArgs false

/-! Chapter 12: the law of lengths. -/
def partC (l : List Int) (k : Nat) : List Int := l.take k ++ List.replicate (l.length - k) 0
theorem partC_len (l : List Int) (k : Nat) : (partC l k).length = l.length := by simp [partC]; omega
theorem partC_zero (l : List Int) : partC l 0 = List.replicate l.length 0 := by simp [partC]
theorem partC_end (l : List Int) : partC l l.length = l := by simp [partC]
theorem partC_set {l : List Int} {k : Nat} {x : Int} (h : l[k]? = some x) : ((partC l k).map int).set k (int x) = (partC l (k + 1)).map int := by
  obtain ⟨hk, e⟩ := List.getElem?_eq_some_iff.1 h
  rw [← List.map_set]
  congr 1
  unfold partC
  have h1 : k - (l.take k).length = 0 := by simp; omega
  rw [List.set_append_right _ _ (by simp; omega), h1, show l.length - k = (l.length - (k + 1)) + 1 by omega, List.replicate_succ, List.set_cons_zero, List.take_add_one, h]
  simp
theorem partC_same {l : List Int} {k : Nat} (h : l[k]? = some 0) : partC l (k + 1) = partC l k := by
  obtain ⟨hk, e⟩ := List.getElem?_eq_some_iff.1 h
  unfold partC
  rw [show l.length - k = (l.length - (k + 1)) + 1 by omega, List.replicate_succ, List.take_add_one, h]
  simp
theorem lengths74 (r : Rp) : PRet Try.prog 74 [.agg (rp1 r)] (bool r.hl) := by
  refine PRet.intro 1 fun t => ACall.enter tab_ok Try.func74 rfl rfl Try.ntmps74 (by simp) ?_
  simp only [enterTM]
  ((refine gga0 ?_))
  ((repeat refine AW_seq ?_); (refine wta ?_); simp (disch := omega) only [retQ, resD, oneD, rsv, rs, rsL, rsL_eq_map, List.map_map, bb, bt, zDs, zD, eqCells, simprocAttr, Try.results74])
set_option maxHeartbeats 8000000 in
theorem law_lengths (s : Sy) (a b : List Int) : PRet Try.prog 15 [syD s, ints a, ints b] (bool true) := by
  refine PRet.intro 1 fun t => ACall.enter tab_ok Try.func15 rfl rfl Try.ntmps15 (by simp) ?_
  simp only [enterTM]
  have hL : PRet Try.prog 29 [syD s, .sl 1 [int a.length, int b.length] false] (bool (longL s [(a.length : Int), (b.length : Int)])) := long12 s [(a.length : Int), (b.length : Int)] (by simp)
  cases hlo : longL s [(a.length : Int), (b.length : Int)]
  rotate_left 1
  · rw [hlo] at hL
    ((refine gga2 awake12 hL ?_))
    ((repeat refine AW_seq ?_); (refine wta ?_); simp (disch := omega) only [retQ, resD, oneD, rsv, rs, rsL, rsL_eq_map, List.map_map, bb, bt, zDs, zD, eqCells, simprocAttr, Try.results15])
  rw [hlo] at hL
  obtain ⟨hs, hn⟩ := longL_false hlo
  have ha20 : (a.length : Int) ≤ 20 := hn _ (by simp)
  have hb20 : (b.length : Int) ≤ 20 := hn _ (by simp)
  have hf := small_fits hs
  have hV := valid_ref s hf
  cases hv : validS s
  · rw [hv] at hV
    ((refine gga3 awake12 hL hV ?_))
    ((repeat refine AW_seq ?_); (refine wta ?_); simp (disch := omega) only [retQ, resD, oneD, rsv, rs, rsL, rsL_eq_map, List.map_map, bb, bt, zDs, zD, eqCells, simprocAttr, Try.results15])
  rw [hv] at hV
  by_cases hab : a.length = b.length
  rotate_left 1
  · have en : ((a.length : Int) != (b.length : Int)) = true := by simpa using fun e => hab (by omega)
    ((refine ggb3 en awake12 hL hV ?_))
    ((repeat refine AW_seq ?_); (refine wta ?_); simp (disch := omega) only [retQ, resD, oneD, rsv, rs, rsL, rsL_eq_map, List.map_map, bb, bt, zDs, zD, eqCells, simprocAttr, Try.results15])
  have en : ((a.length : Int) != (b.length : Int)) = false := by simp [hab]
  have ok := validS_ok hv
  have b6 := ok.b6
  have r6 := ok.r6
  have hdr := rpC_div s.rs
  have hdb := bkC_div s.bs
  have hPa := lengths_prog s hf a (by omega)
  have hPb := lengths_prog s hf b (by omega)
  have na := lenP_nil (s := s) (a := a)
  have nb := lenP_nil (s := s) (a := b)
  have la := len_len (s := s) (a := a)
  have lb := len_len (s := s) (a := b)
  have oka := lenP_ok (s := s) (a := a)
  generalize hX : lenP s a = X at *
  generalize hY : lenP s b = Y at *
  cases hx : (X.2 == 0)
  · have hx' : (X.2 != 0) = true := by simpa using hx
    have hn0 := na (by simpa using hx)
    obtain ⟨X1, X2⟩ := X
    simp only at hn0 hx hx'
    subst hn0
    cases hy : (Y.2 == 0)
    · have hn1 := nb (by simpa using hy)
      obtain ⟨Y1, Y2⟩ := Y
      simp only at hn1 hy
      subst hn1
      ((refine ggb5 (F := _∧_∧_∧_) ⟨en, hx, hx', hy⟩ awake12 hL hV hPa hPb ?_))
      ((repeat refine AW_seq ?_); (refine wta ?_); simp (disch := omega) only [retQ, resD, oneD, rsv, rs, rsL, rsL_eq_map, List.map_map, bb, bt, zDs, zD, eqCells, simprocAttr, Try.results15])
    · ((refine ggb5 (F := _∧_∧_∧_) ⟨en, hx, hx', hy⟩ awake12 hL hV hPa hPb ?_))
      ((repeat refine AW_seq ?_); (refine wta ?_); simp (disch := omega) only [retQ, resD, oneD, rsv, rs, rsL, rsL_eq_map, List.map_map, bb, bt, zDs, zD, eqCells, simprocAttr, Try.results15])
  have hx' : (X.2 != 0) = false := by simpa using hx
  have hx0 : X.2 = 0 := by simpa using hx
  cases hy : (Y.2 == 0)
  · have hy' : (Y.2 != 0) = true := by simpa using hy
    have hn1 := nb (by simpa using hy)
    obtain ⟨Y1, Y2⟩ := Y
    simp only at hn1 hy hy'
    subst hn1
    ((refine ggb5 (F := _∧_∧_∧_∧_) ⟨en, hx, hx', hy, hy'⟩ awake12 hL hV hPa hPb ?_))
    ((repeat refine AW_seq ?_); (refine wta ?_); simp (disch := omega) only [retQ, resD, oneD, rsv, rs, rsL, rsL_eq_map, List.map_map, bb, bt, zDs, zD, eqCells, simprocAttr, Try.results15])
  have hy' : (Y.2 != 0) = false := by simpa using hy
  have hy0 : Y.2 = 0 := by simpa using hy
  have hbd : ∀ (mv : List Int), (lenP s mv).2 = 0 → ∀ x ∈ (lenP s mv).1, -268435456 ≤ x ∧ x ≤ 268435456 := fun mv h0 x hx => by
    obtain ⟨_, _, hm, he⟩ := lenP_ok h0
    obtain ⟨tv, tw⟩ := ok.tr_valid
    obtain ⟨_, _, t3⟩ := validP_iff.1 tv
    rw [he] at hx
    obtain ⟨r, hr, rfl⟩ := List.mem_map.1 hx
    have := dotN_le (t3 r hr).2 hm r.length
    have := (ok.tr_rows r hr).1
    unfold lenF
    omega
  have hbnd := hbd a (by rw [hX]; exact hx0)
  have hbndY := hbd b (by rw [hY]; exact hy0)
  rw [hX] at hbnd
  rw [hY] at hbndY
  clear hbd
  have la := la hx0
  have lb := lb hy0
  obtain ⟨_, laB, haB, haE⟩ := oka hx0
  have e1 : ((X.1.length : Int) != (s.rs.length : Int)) = false := by simp [la]
  have e2 : ((Y.1.length : Int) != (X.1.length : Int)) = false := by simp [la, lb]
  have e3 : ((a.length : Int) != (s.bs.length : Int)) = false := by simp [laB]
  have hzl : (zipA a b).length = a.length := by simp [zipA]; omega
  have hPs := lengths_prog s hf (zipA a b) (by omega)
  have hadd := len_add (s := s) (a := a) (b := b) (by rw [hX]; exact hx0) (by rw [hY]; exact hy0)
  have herr := lenP_err (s := s) (a := zipA a b) hv (by omega)
  have lz := len_len (s := s) (a := zipA a b)
  rw [hX, hY] at hadd
  generalize lenP s (zipA a b) = W at *
  have hz0 := zerosI a.length
  have hpz := partC_zero (zipA a b)
  rw [hzl] at hpz
  rw [← hpz] at hz0
  ((refine ggb5 (F := _∧_∧_∧_∧_∧_∧_∧_∧_∧_∧_) ⟨en, hx, hx', hy, hy', hdr, hdb, e1, e2, e3, hz0⟩ awake12 hL hV hPa hPb ?_))
  ((repeat refine AW_seq ?_))
  refine AW_mid (fun x : Nat => ⟨[(1, ints a), (3, .ptr 0 (t + 1) 0), (7, ints X.1), (9, ints Y.1), (11, .own 1 1 (t + 1 + 1) 0 a.length)], [some ⟨25, t + 1, [bks s.bs, rps s.rs]⟩, some ⟨3, t + 1 + 1, (zipA a b).map int⟩], x⟩) (fun _ => True) ?_ ?_
  · refine AW_block ?_
    refine AW_loop_w (fun x : Nat × Nat => ⟨[(1, ints a), (2, ints b), (3, .ptr 0 (t + 1) 0), (7, ints X.1), (9, ints Y.1), (11, .own 1 1 (t + 1 + 1) 0 a.length), (108, int a.length), (109, int x.1)], [some ⟨25, t + 1, [bks s.bs, rps s.rs]⟩, some ⟨3, t + 1 + 1, (partC (zipA a b) x.1).map int⟩], x.2⟩) (fun x => a.length - x.1) (fun x => x.1 ≤ a.length) (0, t + 1 + 1) (Nat.zero_le _) (by (simp (disch := omega) only [StLe, tmLe, hpLe_refl, hpLe, bl, bb, bt, zDs, zD, eqCells, simprocAttr])) ?_
    rintro ⟨j, tt⟩ hj
    simp only at hj
    by_cases hlt : j < a.length
    · obtain ⟨x, hxj⟩ : ∃ y, a[j]? = some y := ⟨_, List.getElem?_eq_getElem hlt⟩
      have hjb : j < b.length := by omega
      obtain ⟨y, hyj⟩ : ∃ y, b[j]? = some y := ⟨_, List.getElem?_eq_getElem hjb⟩
      have hxb := haB x (List.mem_of_getElem? hxj)
      have hyb := (lenP_ok (s := s) (a := b) (by rw [hY]; exact hy0)).2.2.1 y (List.mem_of_getElem? hyj)
      have hzj : (zipA a b)[j]? = some (x + y) := by
        unfold zipA
        rw [List.getElem?_zipWith, hxj, hyj]
      have hset := partC_set hzj
      have hcl := partC_len (zipA a b) j
      rw [hzl] at hcl
      ((refine ggb0 (F := _∧_) ⟨@Int.ofNat_lt, hlt⟩ ?_))
      ((repeat refine AW_seq ?_))
      refine AW_block ?_
      ((refine gga0 ?_))
      ((repeat refine AW_seq ?_); (refine gdzb (F := _∧_∧_∧_∧_∧_) ⟨hlt, hjb, hxj, hyj, hset, hcl⟩ ?_))
      ((refine gga0 ?_))
      refine ⟨(j + 1, tt + 1), hlt, by show a.length - (j + 1) < a.length - j; omega, ?_⟩
      (simp (disch := omega) only [StLe, tmLe, hpLe_refl, hpLe, bl, bb, bt, zDs, zD, eqCells, simprocAttr])
    · have hje : j = a.length := by omega
      subst hje
      have hpe := partC_end (zipA a b)
      rw [hzl] at hpe
      rw [hpe]
      ((refine wqb @Int.lt_irrefl ?_))
      ((refine wia ?_))
      ((refine wxa ?_))
      exact ⟨tt, trivial, by (simp (disch := omega) only [StLe, tmLe, hpLe_refl, hpLe, bl, bb, bt, zDs, zD, eqCells, simprocAttr])⟩
  rintro t1 -
  have hfin : List.take a.length ((zipA a b).map int) = (zipA a b).map int := List.take_of_length_le (by rw [List.length_map, hzl]; exact Nat.le_refl _)
  ((refine AW.freeze (1) (by first | rfl | (simp only [setH, List.getElem?_cons_zero, List.getElem?_cons_succ, fz_bk, fz_rp, hfin, hzl, List.length_map, Nat.le_refl]; done)) ?_); simp (disch := omega) only [fzT, fz, fzL, fzL_ints, fzL_mat, fzH, fzB, eq_self, bb, bt, zDs, zD, eqCells, simprocAttr, fz_bk, fz_rp, hfin, hzl, List.length_map, Nat.le_refl])
  ((refine gga0 ?_))
  ((refine wka1 hPs ?_))
  ((refine wra ?_)); ((refine wea ?_); (try clear hKR KR))
  ((refine wqa ?_))
  ((repeat refine AW_seq ?_))
  refine AW_mid (fun x : Nat => ⟨[(1, ints a), (3, .ptr 0 (t + 1) 0), (7, ints X.1)], [some ⟨25, t + 1, [bks s.bs, rps s.rs]⟩], x⟩) (fun _ => True) ?_ ?_
  · cases hw : (W.2 == 0)
    · have hw2 : (W.2 != 2) = false := by
        have := herr.resolve_left (by simpa using hw)
        rw [this]; rfl
      ((refine ggb0 (F := _∧_) ⟨hw, hw2⟩ ?_))
      exact ⟨t1, trivial, by (simp (disch := omega) only [StLe, tmLe, hpLe_refl, hpLe, bl, bb, bt, zDs, zD, eqCells, simprocAttr])⟩
    have hw0 : W.2 = 0 := by simpa using hw
    have lz := lz hw0
    have e4 : ((W.1.length : Int) != (X.1.length : Int)) = false := by simp [lz, la]
    have hadd := hadd hw0
    ((refine ggb0 (F := _∧_) ⟨hw, e4⟩ ?_))
    ((repeat refine AW_seq ?_))
    refine AW_block ?_
    refine AW_loop_w (fun x : Nat × Nat => ⟨[(1, ints a), (3, .ptr 0 (t + 1) 0), (7, ints X.1), (9, ints Y.1), (13, ints W.1), (139, int W.1.length), (140, int x.1)], [some ⟨25, t + 1, [bks s.bs, rps s.rs]⟩], x.2⟩) (fun x => W.1.length - x.1) (fun x => x.1 ≤ W.1.length) (0, t1) (Nat.zero_le _) (by (simp (disch := omega) only [StLe, tmLe, hpLe_refl, hpLe, bl, bb, bt, zDs, zD, eqCells, simprocAttr])) ?_
    rintro ⟨j, tt⟩ hj
    simp only at hj
    by_cases hlt : j < W.1.length
    · have hjx : j < X.1.length := by omega
      have hjy : j < Y.1.length := by omega
      obtain ⟨z, hzj⟩ : ∃ y, W.1[j]? = some y := ⟨_, List.getElem?_eq_getElem hlt⟩
      obtain ⟨x, hxj⟩ : ∃ y, X.1[j]? = some y := ⟨_, List.getElem?_eq_getElem hjx⟩
      obtain ⟨y, hyj⟩ : ∃ y, Y.1[j]? = some y := ⟨_, List.getElem?_eq_getElem hjy⟩
      have hzz := hadd j x y z hxj hyj hzj
      subst hzz
      have hbx := hbnd x (List.mem_of_getElem? hxj)
      have hby := hbndY y (List.mem_of_getElem? hyj)
      have ez : ((x + y) != (x + y)) = false := by simp
      ((refine ggb0 (F := _∧_) ⟨@Int.ofNat_lt, hlt⟩ ?_))
      ((repeat refine AW_seq ?_))
      refine AW_block ?_
      ((refine gga0 ?_))
      ((repeat refine AW_seq ?_); (refine gdzb (F := _∧_∧_∧_∧_∧_∧_) ⟨hlt, hjx, hjy, hzj, hxj, hyj, ez⟩ ?_))
      ((refine gga0 ?_))
      refine ⟨(j + 1, tt + 1), hlt, by show W.1.length - (j + 1) < W.1.length - j; omega, ?_⟩
      (simp (disch := omega) only [StLe, tmLe, hpLe_refl, hpLe, bl, bb, bt, zDs, zD, eqCells, simprocAttr])
    · have hje : j = W.1.length := by omega
      subst hje
      ((refine ggb0 @Int.lt_irrefl ?_))
      exact ⟨tt, trivial, by (simp (disch := omega) only [StLe, tmLe, hpLe_refl, hpLe, bl, bb, bt, zDs, zD, eqCells, simprocAttr])⟩
  rintro t2 -
  clear hadd herr lz hPs
  have hhl : (haulL s.rs X.1).length = X.1.length := by simp [haulL]; omega
  have hz1 := zerosI X.1.length
  have hpz1 := partC_zero (haulL s.rs X.1)
  rw [hhl] at hpz1
  rw [← hpz1] at hz1
  ((refine ggb0 hz1 ?_))
  ((repeat refine AW_seq ?_))
  refine AW_mid (fun x : Nat => ⟨[(1, ints a), (3, .ptr 0 (t + 1) 0), (7, ints X.1), (16, .own 1 1 (t2 + 1) 0 X.1.length), (17, bool (fixL s.rs X.1))], [some ⟨25, t + 1, [bks s.bs, rps s.rs]⟩, some ⟨3, t2 + 1, (haulL s.rs X.1).map int⟩], x⟩) (fun _ => True) ?_ ?_
  · refine AW_block ?_
    refine AW_loop_w (fun x : Nat × Nat => ⟨[(1, ints a), (3, .ptr 0 (t + 1) 0), (7, ints X.1), (16, .own 1 1 (t2 + 1) 0 X.1.length), (17, bool (((s.rs.zip X.1).take x.1).all fun y => y.1.hl || (y.2 == 0))), (163, ints X.1), (164, int X.1.length), (165, int x.1)], [some ⟨25, t + 1, [bks s.bs, rps s.rs]⟩, some ⟨3, t2 + 1, (partC (haulL s.rs X.1) x.1).map int⟩], x.2⟩) (fun x => X.1.length - x.1) (fun x => x.1 ≤ X.1.length) (0, t2 + 1) (Nat.zero_le _) (by (simp (disch := omega) only [StLe, tmLe, hpLe_refl, hpLe, bl, bb, bt, zDs, zD, eqCells, simprocAttr])) ?_
    rintro ⟨j, tt⟩ hj
    simp only at hj
    by_cases hlt : j < X.1.length
    · obtain ⟨n, hnj⟩ : ∃ y, X.1[j]? = some y := ⟨_, List.getElem?_eq_getElem hlt⟩
      obtain ⟨r, hrj⟩ : ∃ y, s.rs[j]? = some y := ⟨_, List.getElem?_eq_getElem (by omega)⟩
      have hjr : j < s.rs.length := by omega
      have hra : (rpC s.rs)[j * 3 + 2]? = some (bool r.hl) := rpC_cell s.rs j r hrj 2 (by decide)
      have hst := all_take (p := fun y : Rp × Int => y.1.hl || (y.2 == 0)) (zip_at hrj hnj)
      have hcl := partC_len (haulL s.rs X.1) j
      have hha : (haulL s.rs X.1)[j]? = some (if r.hl = true then n else 0) := by
        unfold haulL
        rw [List.getElem?_zipWith, hrj, hnj]
      cases hh : r.hl
      · rw [hh] at hra hha hst
        have hsm := partC_same hha
        cases hq : ((s.rs.zip X.1).take j).all fun y => y.1.hl || (y.2 == 0)
        · rw [hq] at hst
          ((refine ggb0 (F := _∧_) ⟨@Int.ofNat_lt, hlt⟩ ?_))
          ((repeat refine AW_seq ?_))
          refine AW_block ?_
          ((refine ggb0 (F := _∧_∧_∧_∧_) ⟨hlt, hnj, hdr, hjr, hra⟩ ?_))
          refine ⟨(j + 1, tt), hlt, by show X.1.length - (j + 1) < X.1.length - j; omega, ?_⟩
          rw [hst, hsm]
          (simp (disch := omega) only [StLe, tmLe, hpLe_refl, hpLe, bl, bb, bt, zDs, zD, eqCells, simprocAttr])
        · rw [hq] at hst
          ((refine ggb0 (F := _∧_) ⟨@Int.ofNat_lt, hlt⟩ ?_))
          ((repeat refine AW_seq ?_))
          refine AW_block ?_
          ((refine ggb0 (F := _∧_∧_∧_∧_) ⟨hlt, hnj, hdr, hjr, hra⟩ ?_))
          refine ⟨(j + 1, tt), hlt, by show X.1.length - (j + 1) < X.1.length - j; omega, ?_⟩
          rw [hst, hsm]
          (simp (disch := omega) only [StLe, tmLe, hpLe_refl, hpLe, bl, bb, bt, zDs, zD, eqCells, simprocAttr, Bool.false_or])
      · rw [hh] at hra hha hst
        have hset := partC_set hha
        simp only [if_true] at hset
        ((refine ggb0 (F := _∧_) ⟨@Int.ofNat_lt, hlt⟩ ?_))
        ((repeat refine AW_seq ?_))
        refine AW_block ?_
        ((refine ggb0 (F := _∧_∧_∧_∧_∧_∧_∧_) ⟨hlt, hnj, hdr, hjr, hra, hcl, hhl, hset⟩ ?_))
        refine ⟨(j + 1, tt), hlt, by show X.1.length - (j + 1) < X.1.length - j; omega, ?_⟩
        rw [hst]
        (simp (disch := omega) only [StLe, tmLe, hpLe_refl, hpLe, bl, bb, bt, zDs, zD, eqCells, simprocAttr, Bool.true_or, Bool.and_true])
    · have hje : j = X.1.length := by omega
      subst hje
      have hpe := partC_end (haulL s.rs X.1)
      rw [hhl] at hpe
      have hzt : (s.rs.zip X.1).take X.1.length = s.rs.zip X.1 := List.take_of_length_le (by simp [List.length_zip]; omega)
      rw [hpe, hzt]
      ((refine wqb @Int.lt_irrefl ?_))
      ((refine wia ?_))
      ((refine wxa ?_))
      exact ⟨tt, trivial, by (simp (disch := omega) only [StLe, tmLe, hpLe_refl, hpLe, bl, bb, bt, zDs, zD, eqCells, simprocAttr, fixL])⟩
  rintro t3 -
  have hfin1 : List.take X.1.length ((haulL s.rs X.1).map int) = (haulL s.rs X.1).map int := List.take_of_length_le (by rw [List.length_map, hhl]; exact Nat.le_refl _)
  ((refine AW.freeze (1) (by first | rfl | (simp only [setH, List.getElem?_cons_zero, List.getElem?_cons_succ, fz_bk, fz_rp, hfin1, hhl, List.length_map, Nat.le_refl]; done)) ?_); simp (disch := omega) only [fzT, fz, fzL, fzL_ints, fzL_mat, fzH, fzB, eq_self, bb, bt, zDs, zD, eqCells, simprocAttr, fz_bk, fz_rp, hfin1, hhl, List.length_map, Nat.le_refl])
  ((refine wqa ?_))
  ((refine wqa ?_))
  refine AW.begin 20 2 42 rfl (by decide) ?_
  simp only [putTM, List.length_cons, List.length_nil, Nat.reduceEqDiff, ↓reduceIte, List.cons_append, List.nil_append]
  have f0 : frC [] = [] := rfl
  refine AW_mid (fun x : Nat × Nat => ⟨[(1, ints a), (3, .ptr 0 (t + 1) 0), (7, ints X.1), (16, ints (haulL s.rs X.1)), (17, bool (fixL s.rs X.1)), (20, .own 2 2 x.1 0 a.length)], [some ⟨25, t + 1, [bks s.bs, rps s.rs]⟩, none, some ⟨42, x.1, frC (wholeL a)⟩], x.2⟩) (fun _ => True) ?_ ?_
  · refine AW_block ?_
    refine AW_loop_w (fun x : Nat × Nat × Nat => ⟨[(1, ints a), (3, .ptr 0 (t + 1) 0), (7, ints X.1), (16, ints (haulL s.rs X.1)), (17, bool (fixL s.rs X.1)), (20, .own 2 2 x.2.1 0 x.1), (186, ints a), (187, int a.length), (188, int x.1)], [some ⟨25, t + 1, [bks s.bs, rps s.rs]⟩, none, some ⟨42, x.2.1, frC (wholeL (a.take x.1))⟩], x.2.2⟩) (fun x => a.length - x.1) (fun x => x.1 ≤ a.length) (0, t3 + 1, t3 + 1) (Nat.zero_le _) (by (simp (disch := omega) only [StLe, tmLe, hpLe_refl, hpLe, bl, bb, bt, zDs, zD, eqCells, simprocAttr, f0, List.take_zero, List.map_nil])) ?_
    rintro ⟨j, g, tt⟩ hj
    simp only at hj
    by_cases hlt : j < a.length
    · obtain ⟨x, hxj⟩ : ∃ y, a[j]? = some y := ⟨_, List.getElem?_eq_getElem hlt⟩
      have hst : wholeL (a.take (j + 1)) = wholeL (a.take j) ++ [(x, 1)] := by unfold wholeL; rw [List.take_add_one, hxj]; simp
      have hap := frC_app (wholeL (a.take j)) (x, 1)
      have hcl : (frC (wholeL (a.take j))).length = j * 2 := by rw [frC_len]; simp; omega
      have hO := of12 x
      ((refine ggb0 (F := _∧_) ⟨@Int.ofNat_lt, hlt⟩ ?_))
      ((repeat refine AW_seq ?_))
      refine AW_block ?_
      ((refine ggb1 (F := _∧_∧_) ⟨hlt, hxj, hcl⟩ hO ?_))
      refine ⟨(j + 1, tt + 1, tt + 1), hlt, by show a.length - (j + 1) < a.length - j; omega, ?_⟩
      simp only [hst, hap]
      (simp (disch := omega) only [StLe, tmLe, hpLe_refl, hpLe, bl, bb, bt, zDs, zD, eqCells, simprocAttr])
    · have hje : j = a.length := by omega
      subst hje
      rw [List.take_length]
      ((refine wqb @Int.lt_irrefl ?_))
      ((refine wia ?_))
      ((refine wxa ?_))
      exact ⟨(g, tt), trivial, by (simp (disch := omega) only [StLe, tmLe, hpLe_refl, hpLe, bl, bb, bt, zDs, zD, eqCells, simprocAttr])⟩
  rintro ⟨g, t4⟩ -
  have hwl : (wholeL a).length = a.length := by simp
  have hfin2 : List.take (a.length * 2) (frC (wholeL a)) = frC (wholeL a) := List.take_of_length_le (by rw [frC_len, hwl]; exact Nat.le_refl _)
  ((refine AW.freeze (2) (by first | rfl | (simp only [setH, List.getElem?_cons_zero, List.getElem?_cons_succ, fz_bk, fz_rp, hfin2, frC_len, hwl, Nat.le_refl]; done)) ?_); simp (disch := omega) only [fzT, fz, fzL, fzL_ints, fzL_mat, fzH, fzB, eq_self, bb, bt, zDs, zD, eqCells, simprocAttr, fz_bk, fz_rp, hfin2, frC_len, hwl, Nat.le_refl])
  have hCk := check12 s hf (haulL s.rs X.1) (by omega) (wholeL a) (by omega)
  have hck := len_check (s := s) (a := a) (by rw [hX]; exact hx0)
  rw [hX] at hck
  generalize hC : chkM s (haulL s.rs X.1) (wholeL a) = C at *
  rcases hck with e | rfl
  · have c1 : (C.2 != 0) = true := by rw [e]; rfl
    have c2 : (C.2 == 2) = true := by rw [e]; rfl
    ((refine ggb1 (F := _∧_) ⟨c1, c2⟩ hCk ?_))
    ((repeat refine AW_seq ?_); (refine wta ?_); simp (disch := omega) only [retQ, resD, oneD, rsv, rs, rsL, rsL_eq_map, List.map_map, bb, bt, zDs, zD, eqCells, simprocAttr, Try.results15])
  by_cases hb1 : s.bs.length = 1
  rotate_left 1
  · have q1' : ((s.bs.length : Int) != 1) = true := by simpa using fun e => hb1 (by omega)
    cases hfx : fixL s.rs X.1 <;> rw [hfx] at hCk <;>
    · ((refine ggb1 (F := _∧_) ⟨hdb, q1'⟩ hCk ?_))
      ((repeat refine AW_seq ?_); (refine wta ?_); simp (disch := omega) only [retQ, resD, oneD, rsv, rs, rsL, rsL_eq_map, List.map_map, bb, bt, zDs, zD, eqCells, simprocAttr, Try.results15])
  have q1' : ((s.bs.length : Int) != 1) = false := by simp [hb1]
  cases hfx : fixL s.rs X.1
  · rw [hfx] at hCk
    ((refine ggb1 (F := _∧_) ⟨hdb, q1'⟩ hCk ?_))
    ((repeat refine AW_seq ?_); (refine wta ?_); simp (disch := omega) only [retQ, resD, oneD, rsv, rs, rsL, rsL_eq_map, List.map_map, bb, bt, zDs, zD, eqCells, simprocAttr, Try.results15])
  rw [hfx] at hCk
  obtain ⟨a0, rfl⟩ : ∃ x, a = [x] := by
    cases a with
    | nil => simp at laB; omega
    | cons x r =>
      cases r with
      | nil => exact ⟨x, rfl⟩
      | cons y r => simp at laB; omega
  by_cases ha1 : a0 = 1
  rotate_left 1
  · have q2' : (a0 != 1) = true := by simpa using ha1
    ((refine ggb1 (F := _∧_∧_) ⟨hdb, q1', q2'⟩ hCk ?_))
    ((repeat refine AW_seq ?_); (refine wta ?_); simp (disch := omega) only [retQ, resD, oneD, rsv, rs, rsL, rsL_eq_map, List.map_map, bb, bt, zDs, zD, eqCells, simprocAttr, Try.results15])
  subst ha1
  obtain ⟨b0, hbs⟩ : ∃ b, s.bs = [b] := by
    cases h : s.bs with
    | nil => rw [h] at hb1; simp at hb1
    | cons x r =>
      cases r with
      | nil => exact ⟨x, rfl⟩
      | cons y r => rw [h] at hb1; simp at hb1
  have hI := indexFuncRp s.rs 74 [] (fun r => r.hl) hf.nr (fun x _ => lengths74 x)
  have eI : idx (fun r : Rp => r.hl) s.rs 0 = hix s := rfl
  rw [eI] at hI
  have hnm : (bkC s.bs)[0]? = some (str b0.nm) := by rw [hbs]; rfl
  have hT := travel_prog s hf b0.nm
  have hlt := len_travel (s := s) (by rw [hX]; exact hx0) hbs
  rw [hX] at hlt
  generalize travP s b0.nm = V at *
  cases hv2 : (V.2 == 0)
  · have hv' : (V.2 != 0) = true := by simpa using hv2
    ((refine ggb2 (F := _∧_∧_) ⟨hdb, q1', hb1⟩ hCk hI ?_))
    ((repeat refine AW_seq ?_); (refine gdob1 (F := _∧_∧_) ⟨hdb, hb1, hnm⟩ hT ?_))
    ((repeat refine AW_seq ?_); (refine gdzb hv' ?_))
    ((refine gga0 ?_))
    ((repeat refine AW_seq ?_); (refine wta ?_); simp (disch := omega) only [retQ, resD, oneD, rsv, rs, rsL, rsL_eq_map, List.map_map, bb, bt, zDs, zD, eqCells, simprocAttr, Try.results15])
  have hv' : (V.2 != 0) = false := by simpa using hv2
  obtain ⟨i, n, hi, hn, hvn⟩ := hlt (by simpa using hv2)
  rw [hi] at hI
  have hiX := (List.getElem?_eq_some_iff.1 hn).1
  have g1 : (V.1.1 == n) = true := by rw [hvn]; simp
  have g2 : (V.1.2 == 1) = true := by rw [hvn]; rfl
  have hw := of12 n
  ((refine ggb2 (F := _∧_∧_) ⟨hdb, q1', hb1⟩ hCk hI ?_))
  ((repeat refine AW_seq ?_); (refine gdob1 (F := _∧_∧_) ⟨hdb, hb1, hnm⟩ hT ?_))
  ((repeat refine AW_seq ?_); (refine gdzb1 (F := _∧_∧_∧_∧_) ⟨hv', hiX, hn, g1, g2⟩ hw ?_))
  ((refine gga0 ?_))
  ((repeat refine AW_seq ?_); (refine wta ?_); simp (disch := omega) only [retQ, resD, oneD, rsv, rs, rsL, rsL_eq_map, List.map_map, bb, bt, zDs, zD, eqCells, simprocAttr, Try.results15])
end Go.Proofs.Ytifmgjieplmbnaa.T
