import Derived.Test.YtifmgjieplmbnaaML
set_option linter.all false
namespace Go.Proofs.Ytifmgjieplmbnaa.T
open Go Go.RowKit Lin
set_option linter.unusedSimpArgs false

/-! Chapter 12: the law of free motions. -/
theorem fz_frss (b g : Nat) (cs : List D) : ∀ L : List (List (Int × Int)), fzL b g cs (L.map frs) = L.map frs
  | [] => rfl
  | x :: L => by simp only [List.map_cons, fzL, fz, fz_frS, fz_frss b g cs L]
structure FA where
  S : List (Int × Int)
  ok : Bool
  j : Nat
  t : Nat
set_option maxHeartbeats 8000000 in
theorem law_frees (s : Sy) (h : List Int) (v : List (Int × Int)) : PRet Try.prog 17 [syD s, ints h, frs v] (bool true) := by
  refine PRet.intro 1 fun t => ACall.enter tab_ok Try.func17 rfl rfl Try.ntmps17 (by simp) ?_
  simp only [enterTM]
  have hRt := right12 s h
  cases hr : rightP s h
  · rw [hr] at hRt
    ((refine gga2 awake12 hRt ?_))
    ((repeat refine AW_seq ?_); (refine wta ?_); simp (disch := omega) only [retQ, resD, oneD, rsv, rs, rsL, rsL_eq_map, List.map_map, bb, bt, zDs, zD, eqCells, simprocAttr, Try.results17])
  rw [hr] at hRt
  have hvd := frC_div v
  by_cases hv20 : (20 : Int) < v.length
  · ((refine ggb2 (F := _∧_) ⟨hvd, hv20⟩ awake12 hRt ?_))
    ((repeat refine AW_seq ?_); (refine wta ?_); simp (disch := omega) only [retQ, resD, oneD, rsv, rs, rsL, rsL_eq_map, List.map_map, bb, bt, zDs, zD, eqCells, simprocAttr, Try.results17])
  obtain ⟨hs, hg⟩ := rightP_ok hr
  have hf := small_fits hs
  obtain ⟨hv, hz, hrg⟩ := givH_zero hg
  have ok := validS_ok hv
  have b1 := ok.b1
  have b6 := ok.b6
  have r6 := ok.r6
  have hdr := rpC_div s.rs
  have hSp := speeds_prog s hf h (by omega)
  have hFr := free_prog s hf
  obtain ⟨k1, k2, k3⟩ := free_facts hv hg
  have hflen := fun (x : List (Int × Int)) => free_len hv (x := x)
  have hfgo := fun (x : List (Int × Int)) => free_go hv (x := x)
  have hLl : (freeP s).1.length ≤ s.bs.length := by
    obtain ⟨tv, tw⟩ := ok.tr_valid
    have := (null_count tv).1
    unfold freeP
    rw [if_pos hv]
    omega
  have hxe : freeP s = ((freeP s).1, 0) := Prod.ext rfl k1
  rw [hxe] at hFr
  generalize (freeP s).1 = L at *
  generalize speedsP s h = X at *
  have hA := refAll v (by omega)
  have hz0 := zerosI s.rs.length
  have hCv := check12 s hf h (by omega) v (by omega)
  have hCn := fun (x : List (Int × Int)) (hx : x.length ≤ 1000000) => check12 s hf (List.replicate s.rs.length 0) (by simp; omega) x hx
  have hadd := fun {S Zv Zx Dv Dx} => free_add hv hg (v := v) (S := S) (Zv := Zv) (Zx := Zx) (Dv := Dv) (Dx := Dx)
  ((refine ggb3 (F := _∧_) ⟨hvd, hv20⟩ awake12 hRt hFr ?_))
  ((refine wka1 hSp ?_))
  ((refine wra ?_)); ((refine wea ?_); (try clear hKR KR))
  ((repeat refine AW_seq ?_))
  refine AW_mid (fun x : Nat => ⟨[(1, ints h), (2, frs v), (3, .ptr 0 (t + 1) 0), (7, frss L), (66, bool false)], [some ⟨25, t + 1, [bks s.bs, rps s.rs]⟩], x⟩) (fun _ => True) ?_ ?_
  · cases x1 : (X.2 == 21)
    · cases x2 : (X.2 == 0)
      · ((refine wqb (F := _∧_) ⟨x1, x2⟩ ?_))
        exact ⟨t + 1, trivial, by (simp (disch := omega) only [StLe, tmLe, hpLe_refl, hpLe, bl, bb, bt, zDs, zD, eqCells, simprocAttr])⟩
      · have hL0 := k3 (by simpa using x2)
        have y2 : ¬ (0 : Int) < (L.length : Int) := by omega
        ((refine wqb (F := _∧_∧_) ⟨x1, x2, y2⟩ ?_))
        exact ⟨t + 1, trivial, by (simp (disch := omega) only [StLe, tmLe, hpLe_refl, hpLe, bl, bb, bt, zDs, zD, eqCells, simprocAttr])⟩
    · have hX : X.2 = 21 := by simpa using x1
      have x2 : (X.2 == 0) = false := by rw [hX]; rfl
      have hL0 := k2 hX
      have y1 : ((L.length : Int) == 0) = false := by simpa using hL0
      ((refine wqb (F := _∧_∧_) ⟨x1, x2, y1⟩ ?_))
      exact ⟨t + 1, trivial, by (simp (disch := omega) only [StLe, tmLe, hpLe_refl, hpLe, bl, bb, bt, zDs, zD, eqCells, simprocAttr])⟩
  rintro t1 -
  have hfz : List.take s.rs.length ((List.replicate s.rs.length (0 : Int)).map int) = (List.replicate s.rs.length (0 : Int)).map int := List.take_of_length_le (by simp)
  have hzl : (List.replicate s.rs.length (0 : Int)).length = s.rs.length := by simp
  have hfl := fun (b g : Nat) (cs : List D) => fz_frss b g cs L
  ((refine wia ?_))
  ((refine wsa ?_))
  ((refine wqb (F := _∧_) ⟨hdr, hz0⟩ ?_))
  ((refine AW.freeze (1) (by first | rfl | (simp only [setH, List.getElem?_cons_zero, List.getElem?_cons_succ, fz_bk, fz_rp, fz_frS, hfl, hfz, hzl, List.length_map, Nat.le_refl]; done)) ?_); simp (disch := omega) only [fzT, fz, fzL, fzL_ints, fzL_mat, fzH, fzB, eq_self, bb, bt, zDs, zD, eqCells, simprocAttr, fz_bk, fz_rp, fz_frS, hfl, hfz, hzl, List.length_map, Nat.le_refl])
  ((refine gga0 ?_))
  ((repeat refine AW_seq ?_))
  refine AW_block ?_
  refine AW_loop_w (fun x : Nat × Nat => ⟨[(1, ints h), (2, frs v), (3, .ptr 0 (t + 1) 0), (11, ints (List.replicate s.rs.length 0)), (71, frss L), (72, int L.length), (73, int x.1)], [some ⟨25, t + 1, [bks s.bs, rps s.rs]⟩], x.2⟩) (fun x => L.length - x.1) (fun x => x.1 ≤ L.length) (0, t1 + 1) (Nat.zero_le _) (by (simp (disch := omega) only [StLe, tmLe, hpLe_refl, hpLe, bl, bb, bt, zDs, zD, eqCells, simprocAttr])) ?_
  rintro ⟨k, tt⟩ hk
  simp only at hk
  by_cases hlt : k < L.length
  rotate_left 1
  · have hke : k = L.length := by omega
    subst hke
    ((refine ggb0 @Int.lt_irrefl ?_))
    ((repeat refine AW_seq ?_); (refine wta ?_); simp (disch := omega) only [retQ, resD, oneD, rsv, rs, rsL, rsL_eq_map, List.map_map, bb, bt, zDs, zD, eqCells, simprocAttr, Try.results17])
  obtain ⟨x, hx⟩ : ∃ y, L[k]? = some y := ⟨_, List.getElem?_eq_getElem hlt⟩
  have hxm := List.mem_of_getElem? hx
  obtain ⟨hxl, Zx, Dx, hDx, hKx, hXv⟩ := hflen x hxm
  have hxd := frC_div x
  have hgo := hfgo x hxm
  have hCx := hCn x (by omega)
  generalize chkM s (List.replicate s.rs.length 0) x = C at *
  ((refine ggb0 (F := _∧_) ⟨@Int.ofNat_lt, hlt⟩ ?_))
  ((repeat refine AW_seq ?_))
  refine AW_block ?_
  ((refine ggb0 (F := _∧_) ⟨hlt, hx⟩ ?_))
  ((refine wka1 hCx ?_))
  ((refine wra ?_)); ((refine wea ?_); (try clear hKR KR))
  ((repeat refine AW_seq ?_))
  refine AW_mid (fun y : Nat => ⟨[(1, ints h), (2, frs v), (3, .ptr 0 (t + 1) 0), (11, ints (List.replicate s.rs.length 0)), (13, frs x), (71, frss L), (72, int L.length), (73, int k), (93, bool false)], [some ⟨25, t + 1, [bks s.bs, rps s.rs]⟩], y⟩) (fun _ => True) ?_ ?_
  · rcases hgo with e | rfl
    · have d1 : (C.2 != 5) = false := by rw [e]; rfl
      ((refine wqb d1 ?_))
      exact ⟨tt, trivial, by (simp (disch := omega) only [StLe, tmLe, hpLe_refl, hpLe, bl, bb, bt, zDs, zD, eqCells, simprocAttr])⟩
    · ((refine wqa ?_))
      exact ⟨tt, trivial, by (simp (disch := omega) only [StLe, tmLe, hpLe_refl, hpLe, bl, bb, bt, zDs, zD, eqCells, simprocAttr])⟩
  rintro t2 -
  clear hgo hCx
  ((refine wia ?_))
  ((refine wsa ?_))
  by_cases hvx : v.length = x.length
  rotate_left 1
  · have en : ((v.length : Int) != (x.length : Int)) = true := by simpa using fun e => hvx (by omega)
    ((refine ggb0 (F := _∧_∧_) ⟨hvd, hxd, en⟩ ?_))
    refine ⟨(k + 1, t2), hlt, by show L.length - (k + 1) < L.length - k; omega, ?_⟩
    (simp (disch := omega) only [StLe, tmLe, hpLe_refl, hpLe, bl, bb, bt, zDs, zD, eqCells, simprocAttr])
  have en : ((v.length : Int) != (x.length : Int)) = false := by simp [hvx]
  cases ha : allV v
  · rw [ha] at hA
    ((refine ggb1 (F := _∧_∧_) ⟨hvd, hxd, en⟩ hA ?_))
    refine ⟨(k + 1, t2), hlt, by show L.length - (k + 1) < L.length - k; omega, ?_⟩
    (simp (disch := omega) only [StLe, tmLe, hpLe_refl, hpLe, bl, bb, bt, zDs, zD, eqCells, simprocAttr])
  rw [ha] at hA
  obtain ⟨Zv, Dv, hDv, hVv⟩ := dens v ha
  have hCl := cloneFr v (by omega)
  ((refine ggb1 (F := _∧_∧_) ⟨hvd, hxd, en⟩ hA ?_))
  ((try with_reducible intro KR hKR); (first | refine awOps_nc fun KK hKK => ?_ | refine awOps_gc rfl fun KK hKK => ?_); simp (disch := omega) only [bb, bt, zDs, zD, eqCells, simprocAttr, goC, callO_fn, argsD, and_self])
  refine ACall.of_fresh hCl (by first | (simp only [List.map_cons, List.map_nil, List.append_nil, List.nil_append, List.cons_append, ufa, uf]; done) | rfl) ?_
  (simp (disch := omega) only [bb, bt, zDs, zD, eqCells, simprocAttr, afterC]; refine hKK _ ?_; clear hKK KK)
  ((refine wra ?_)); ((refine wea ?_); (try clear hKR KR))
  ((refine ggb0 hvd ?_))
  ((repeat refine AW_seq ?_))
  refine AW_block ?_
  refine AW_loop_w (fun y : FA => ⟨[(1, ints h), (2, frs v), (3, .ptr 0 (t + 1) 0), (11, ints (List.replicate s.rs.length 0)), (13, frs x), (16, .own 2 1 (t2 + 1) 0 v.length), (17, bool y.ok), (71, frss L), (72, int L.length), (73, int k), (107, int v.length), (108, int y.j)], [some ⟨25, t + 1, [bks s.bs, rps s.rs]⟩, some ⟨42, t2 + 1, frC y.S⟩], y.t⟩) (fun y => v.length - y.j) (fun y => y.j ≤ v.length ∧ y.S.length = v.length ∧ (y.ok = true → ∀ (i : Nat) (f : Int × Int), i < y.j → y.S[i]? = some f → Val f (Zv i * Dx + Zx i * Dv) (Dv * Dx))) ⟨v, true, 0, t2 + 1⟩ ⟨Nat.zero_le _, rfl, fun _ i f hi => absurd hi (Nat.not_lt_zero _)⟩ (by (simp (disch := omega) only [StLe, tmLe, hpLe_refl, hpLe, bl, bb, bt, zDs, zD, eqCells, simprocAttr])) ?_
  rintro ⟨S, okb, j, t3⟩ ⟨hj, hSl, hS⟩
  simp only at hj hSl hS
  have hSd := frC_div S
  have hSL := frC_len S
  by_cases hjv : j < v.length
  · obtain ⟨f, hfj⟩ : ∃ y, v[j]? = some y := ⟨_, List.getElem?_eq_getElem hjv⟩
    obtain ⟨g, hgj⟩ : ∃ y, x[j]? = some y := ⟨_, List.getElem?_eq_getElem (by omega)⟩
    have hrf := frC_read v j f hfj
    have hrg := frC_read x j g hgj
    have hjx : j < x.length := by omega
    have hAd := rAdd f g
    have hset := frC_set S j (addP f g).1.1 (addP f g).1.2 (by omega)
    have hjS : j < S.length := by omega
    have hnew : okb = true → (addP f g).2 = 0 → ∀ (i : Nat) (p : Int × Int), i < j + 1 → (S.set j (addP f g).1)[i]? = some p → Val p (Zv i * Dx + Zx i * Dv) (Dv * Dx) := fun ho hy i p hi hp => by
      by_cases e : i = j
      · subst e
        rw [List.getElem?_set_self hjS, Option.some.injEq] at hp
        subst hp
        have hfv := hVv i f hfj
        have hgv := hXv i g hgj
        rw [addP_ok hfv.v hgv.v] at hy ⊢
        exact hfv.add hgv hy
      · rw [List.getElem?_set_ne (Ne.symm e)] at hp
        exact hS ho i p (by omega) hp
    generalize addP f g = y at *
    generalize hS2 : S.set j y.1 = S2 at *
    have hS2l : S2.length = v.length := by rw [← hS2]; simpa using hSl
    ((refine ggb0 (F := _∧_) ⟨@Int.ofNat_lt, hjv⟩ ?_))
    ((repeat refine AW_seq ?_))
    refine AW_block ?_
    ((refine gga0 ?_))
    ((repeat refine AW_seq ?_); (refine gdob1 (F := _∧_∧_∧_∧_∧_) ⟨hvd, hxd, hjv, hjx, hrf, hrg⟩ hAd ?_))
    cases hy : (y.2 == 0)
    · cases okb
      · ((refine ggb0 (F := _∧_∧_∧_∧_) ⟨hjv, hSL, hSl, hset, hy⟩ ?_))
        refine ⟨⟨S2, false, j + 1, t3 + 1⟩, ⟨hjv, hS2l, fun e => by cases e⟩, by show v.length - (j + 1) < v.length - j; omega, ?_⟩
        (simp (disch := omega) only [StLe, tmLe, hpLe_refl, hpLe, bl, bb, bt, zDs, zD, eqCells, simprocAttr])
      · ((refine ggb0 (F := _∧_∧_∧_∧_) ⟨hjv, hSL, hSl, hset, hy⟩ ?_))
        refine ⟨⟨S2, false, j + 1, t3 + 1⟩, ⟨hjv, hS2l, fun e => by cases e⟩, by show v.length - (j + 1) < v.length - j; omega, ?_⟩
        (simp (disch := omega) only [StLe, tmLe, hpLe_refl, hpLe, bl, bb, bt, zDs, zD, eqCells, simprocAttr])
    · cases okb
      · ((refine ggb0 (F := _∧_∧_∧_∧_) ⟨hjv, hSL, hSl, hset, hy⟩ ?_))
        refine ⟨⟨S2, false, j + 1, t3 + 1⟩, ⟨hjv, hS2l, fun e => by cases e⟩, by show v.length - (j + 1) < v.length - j; omega, ?_⟩
        (simp (disch := omega) only [StLe, tmLe, hpLe_refl, hpLe, bl, bb, bt, zDs, zD, eqCells, simprocAttr])
      · ((refine ggb0 (F := _∧_∧_∧_∧_) ⟨hjv, hSL, hSl, hset, hy⟩ ?_))
        refine ⟨⟨S2, true, j + 1, t3 + 1⟩, ⟨hjv, hS2l, fun e => hnew e (by simpa using hy)⟩, by show v.length - (j + 1) < v.length - j; omega, ?_⟩
        (simp (disch := omega) only [StLe, tmLe, hpLe_refl, hpLe, bl, bb, bt, zDs, zD, eqCells, simprocAttr])
  have hje : j = v.length := by omega
  subst hje
  cases okb
  · ((refine ggb0 @Int.lt_irrefl ?_))
    refine ⟨(k + 1, t3), hlt, by show L.length - (k + 1) < L.length - k; omega, ?_⟩
    (simp (disch := omega) only [StLe, tmLe, hpLe_refl, hpLe, bl, bb, bt, zDs, zD, eqCells, simprocAttr])
  ((refine wqb @Int.lt_irrefl ?_))
  ((refine wia ?_))
  ((refine wxa ?_))
  have hS := hS rfl
  have hSv : ∀ (i : Nat) (f : Int × Int), S[i]? = some f → Val f (Zv i * Dx + Zx i * Dv) (Dv * Dx) := fun i f hi => hS i f (by have := (List.getElem?_eq_some_iff.1 hi).1; omega) hi
  have hCS := check12 s hf h (by omega) S (by omega)
  have had := hadd (by omega) (by omega) hDv hDx hKx hVv hSv
  generalize chkM s h v = A at *
  generalize chkM s h S = B at *
  have hfin2 : List.take (v.length * 2) (frC S) = frC S := List.take_of_length_le (by rw [hSL, hSl]; exact Nat.le_refl _)
  ((refine AW.freeze (1) (by first | rfl | (simp only [setH, List.getElem?_cons_zero, List.getElem?_cons_succ, fz_frS, fz_bk, fz_rp, hfl, hfin2, hSL, hSl, Nat.le_refl]; done)) ?_); simp (disch := omega) only [fzT, fz, fzL, fzL_ints, fzL_mat, fzH, fzB, eq_self, bb, bt, zDs, zD, eqCells, simprocAttr, fz_frS, fz_bk, fz_rp, hfl, hfin2, hSL, hSl, Nat.le_refl])
  cases e1 : (A.2 == 0)
  · cases e2 : (B.2 == 0) <;>
    · ((refine ggb2 (F := _∧_) ⟨e1, e2⟩ hCv hCS ?_))
      refine ⟨(k + 1, t3), hlt, by show L.length - (k + 1) < L.length - k; omega, ?_⟩
      (simp (disch := omega) only [StLe, tmLe, hpLe_refl, hpLe, bl, bb, bt, zDs, zD, eqCells, simprocAttr])
  cases e2 : (B.2 == 0)
  · ((refine ggb2 (F := _∧_) ⟨e1, e2⟩ hCv hCS ?_))
    refine ⟨(k + 1, t3), hlt, by show L.length - (k + 1) < L.length - k; omega, ?_⟩
    (simp (disch := omega) only [StLe, tmLe, hpLe_refl, hpLe, bl, bb, bt, zDs, zD, eqCells, simprocAttr])
  have had := had (by simpa using e1) (by simpa using e2)
  have e3 : (A.1 != B.1) = false := by rw [had]; simp
  ((refine ggb2 (F := _∧_∧_) ⟨e1, e2, e3⟩ hCv hCS ?_))
  refine ⟨(k + 1, t3), hlt, by show L.length - (k + 1) < L.length - k; omega, ?_⟩
  (simp (disch := omega) only [StLe, tmLe, hpLe_refl, hpLe, bl, bb, bt, zDs, zD, eqCells, simprocAttr])
end Go.Proofs.Ytifmgjieplmbnaa.T
