import Derived.Test.YtalhegbjlfkipaaGWX
set_option linter.all false
namespace Go.Proofs.Ytalhegbjlfkipaa.T
open Go Go.RowKit Gr
set_option linter.unusedSimpArgs false

/-! Graphs: the law over paths. -/
theorem path_no {E : List (Nat × Nat)} {a b : Nat} (h : ¬ Con E a b) : pathP E a b = ([], 12) := by
  unfold pathP
  rw [if_neg]
  rw [dist_con]; exact h
theorem path_yes {n : Nat} {E : List (Nat × Nat)} (ho : Ok n E) {a b : Nat} (ha : a < n) (h : Con E a b) : ∃ p, pathP E a b = (p, 0) ∧ IW E (· ∈ List.range E.length) a p b ∧ (p.length : Int) = dist E b a := by
  have hd := dist_con.2 h
  obtain ⟨d, e⟩ : ∃ d : Nat, dist E b a = d := ⟨(dist E b a).toNat, by omega⟩
  have hs := sub_all E
  refine ⟨wayW E (List.range E.length) b a, by unfold pathP; rw [if_pos hd], ?_⟩
  unfold wayW
  have hw := way_walk ho (l := List.range E.length) (b := b) d a (by rw [hs]; exact e) ha
  rw [hs] at hw ⊢
  rw [e, Int.toNat_natCast]
  exact ⟨hw.1, by rw [hw.2]⟩
theorem dist_symm (E : List (Nat × Nat)) (a b : Nat) : dist E b a = dist E a b := by
  have key : ∀ a b, 0 ≤ dist E b a → 0 ≤ dist E a b ∧ dist E a b ≤ dist E b a := fun a b h => by
    have := dist_le (dist_wk h).rev; omega
  have h1 := key a b
  have h2 := key b a
  have h3 := dist_neg E a b
  have h4 := dist_neg E b a
  omega
theorem dist_tri {E : List (Nat × Nat)} {a b c : Nat} (h1 : Con E a c) (h2 : Con E c b) : dist E b a ≤ dist E c a + dist E b c := by
  have k1 := dist_con.2 h1
  have k2 := dist_con.2 h2
  have := (dist_le ((dist_wk k1).app (dist_wk k2))).2
  omega
theorem right2 (n : Int) (l : List (Int × Int)) : PRet Try.prog 23 [int n, eds l] (bool ((decide (n ≤ 30) && decide (l.length ≤ 40)) && validG n l)) := by
  by_cases hl : l.length ≤ 1000000
  · exact right n l hl
  refine PRet.intro 1 fun t => ACall.enter tab_ok Try.func23 rfl rfl Try.ntmps23 (by simp) ?_
  simp only [enterTM]
  have c1 : decide ((l.length : Int) ≤ 40) = false := decide_eq_false (by omega)
  have c2 : decide (l.length ≤ 40) = false := decide_eq_false (by omega)
  rw [c2]
  cases e1 : decide (n ≤ 30) <;> ((((refine ggb0 (F := _∧_∧_) ⟨e1, c1, edC_div⟩ ?_))); (((repeat refine AW_seq ?_); (refine wta ?_); simp (disch := omega) only [retQ, resD, oneD, rsv, rs, rsL, rsL_eq_map, List.map_map, bb, bt, zDs, zD, eqCells, simprocAttr, Try.results23])); try rfl)
theorem paths1 (r : List Int) (a b : Int) (hr : r.length ≤ 1000000) : PRet Try.prog 25 [ints r, .rp [int a] 0, .rp [int b] 0] (bool (r.contains a && r.contains b)) := by
  refine PRet.intro 1 fun t => ACall.enter tab_ok Try.func25 rfl rfl Try.ntmps25 (by simp) ?_
  simp only [enterTM]
  have h1 := containsInts r a hr
  have h2 := containsInts r b hr
  generalize r.contains a = x at *
  generalize r.contains b = y at *
  cases x
  · ((refine gga1 h1 ?_))
    ((repeat refine AW_seq ?_); (refine wta ?_); simp (disch := omega) only [retQ, resD, oneD, rsv, rs, rsL, rsL_eq_map, List.map_map, bb, bt, zDs, zD, eqCells, simprocAttr, Try.results25])
  · ((refine gga2 h1 h2 ?_))
    ((repeat refine AW_seq ?_); (refine wta ?_); simp (disch := omega) only [retQ, resD, oneD, rsv, rs, rsL, rsL_eq_map, List.map_map, bb, bt, zDs, zD, eqCells, simprocAttr, Try.results25])
set_option maxHeartbeats 4000000 in
theorem law_paths (n : Int) (l : List (Int × Int)) (a b c : Int) : PRet Try.prog 5 [int n, eds l, int a, int b, int c] (bool true) := by
  refine PRet.intro 1 fun t => ACall.enter tab_ok Try.func5 rfl rfl Try.ntmps5 (by simp) ?_
  simp only [enterTM]
  have hA := awake06
  have hR := right2 n l
  cases hr : (decide (n ≤ 30) && decide (l.length ≤ 40)) && validG n l
  · rw [hr] at hR
    ((refine gga2 hA hR ?_))
    ((repeat refine AW_seq ?_); (refine wta ?_); simp (disch := omega) only [retQ, resD, oneD, rsv, rs, rsL, rsL_eq_map, List.map_map, bb, bt, zDs, zD, eqCells, simprocAttr, Try.results5])
  rw [hr] at hR
  simp only [Bool.and_eq_true, decide_eq_true_eq] at hr
  obtain ⟨⟨hn30, hl40⟩, hv⟩ := hr
  cases e1 : decide (a < 0)
  rotate_left 1
  · ((refine ggb2 e1 hA hR ?_))
    ((repeat refine AW_seq ?_); (refine wta ?_); simp (disch := omega) only [retQ, resD, oneD, rsv, rs, rsL, rsL_eq_map, List.map_map, bb, bt, zDs, zD, eqCells, simprocAttr, Try.results5])
  cases e2 : decide (n ≤ a)
  rotate_left 1
  · ((refine ggb2 (F := _∧_) ⟨e1, e2⟩ hA hR ?_))
    ((repeat refine AW_seq ?_); (refine wta ?_); simp (disch := omega) only [retQ, resD, oneD, rsv, rs, rsL, rsL_eq_map, List.map_map, bb, bt, zDs, zD, eqCells, simprocAttr, Try.results5])
  cases e3 : decide (b < 0)
  rotate_left 1
  · ((refine ggb2 (F := _∧_∧_) ⟨e1, e2, e3⟩ hA hR ?_))
    ((repeat refine AW_seq ?_); (refine wta ?_); simp (disch := omega) only [retQ, resD, oneD, rsv, rs, rsL, rsL_eq_map, List.map_map, bb, bt, zDs, zD, eqCells, simprocAttr, Try.results5])
  cases e4 : decide (n ≤ b)
  rotate_left 1
  · ((refine ggb2 (F := _∧_∧_∧_) ⟨e1, e2, e3, e4⟩ hA hR ?_))
    ((repeat refine AW_seq ?_); (refine wta ?_); simp (disch := omega) only [retQ, resD, oneD, rsv, rs, rsL, rsL_eq_map, List.map_map, bb, bt, zDs, zD, eqCells, simprocAttr, Try.results5])
  cases e5 : decide (c < 0)
  rotate_left 1
  · ((refine ggb2 (F := _∧_∧_∧_∧_) ⟨e1, e2, e3, e4, e5⟩ hA hR ?_))
    ((repeat refine AW_seq ?_); (refine wta ?_); simp (disch := omega) only [retQ, resD, oneD, rsv, rs, rsL, rsL_eq_map, List.map_map, bb, bt, zDs, zD, eqCells, simprocAttr, Try.results5])
  cases e6 : decide (n ≤ c)
  rotate_left 1
  · ((refine ggb2 (F := _∧_∧_∧_∧_∧_) ⟨e1, e2, e3, e4, e5, e6⟩ hA hR ?_))
    ((repeat refine AW_seq ?_); (refine wta ?_); simp (disch := omega) only [retQ, resD, oneD, rsv, rs, rsL, rsL_eq_map, List.map_map, bb, bt, zDs, zD, eqCells, simprocAttr, Try.results5])
  simp only [decide_eq_false_iff_not] at e1 e2 e3 e4 e5 e6
  obtain ⟨x, rfl⟩ : ∃ x : Nat, a = x := ⟨a.toNat, by omega⟩
  obtain ⟨y, rfl⟩ : ∃ y : Nat, b = y := ⟨b.toNat, by omega⟩
  obtain ⟨z, rfl⟩ : ∃ z : Nat, c = z := ⟨c.toNat, by omega⟩
  obtain ⟨m, E, rfl, rfl, ho, hm, hE⟩ := valid_nat hv
  have hx : x < m := by omega
  have hy : y < m := by omega
  have hz : z < m := by omega
  have h1 := pathG m E ho hv hm hE x y hx hy
  have h2 := pathG m E ho hv hm hE y x hy hx
  have h3 := partsG m E ho hv hm hE
  have hpl := parts_len m E
  have h4 := containsFuncRows ((partsP m E).map nl) 25 [.rp [int x] 0, .rp [int y] 0] (fun r => r.contains (x : Int) && r.contains (y : Int)) (map_len (by omega)) (fun r h => by
    obtain ⟨r', hr', rfl⟩ := List.mem_map.1 h
    have := parts_row hr'
    exact paths1 _ _ _ (by rw [nl_len]; omega))
  have hany : ((partsP m E).map nl).any (fun r => r.contains (x : Int) && r.contains (y : Int)) = decide (0 ≤ dist E y x) := by
    rw [← parts_mem hx hy, List.any_map]
    refine congrArg (fun f => List.any (partsP m E) f) (funext fun r => ?_)
    simp only [Function.comp_apply, contains_nl]
  rw [hany] at h4
  generalize (partsP m E).map nl = PP at *
  by_cases hc : Con E x y
  rotate_left 1
  · have hc2 : ¬ Con E y x := fun h => hc h.symm
    rw [path_no hc] at h1
    rw [path_no hc2] at h2
    have hd : decide (0 ≤ dist E y x) = false := by rw [decide_eq_false_iff_not, dist_con]; exact hc
    rw [hd] at h4
    ((refine wqa ?_))
    ((refine AW.freeze (0) (by first | rfl | (simp only [setH, List.getElem?_cons_zero, List.getElem?_cons_succ, fz_ed]; done)) ?_); simp (disch := omega) only [fzT, fz, fzL, fzL_ints, fzL_mat, fzH, fzB, eq_self, bb, bt, zDs, zD, eqCells, simprocAttr, fz_ed])
    ((refine AW.freeze (1) (by first | rfl | (simp only [setH, List.getElem?_cons_zero, List.getElem?_cons_succ, fz_ed]; done)) ?_); simp (disch := omega) only [fzT, fz, fzL, fzL_ints, fzL_mat, fzH, fzB, eq_self, bb, bt, zDs, zD, eqCells, simprocAttr, fz_ed])
    ((refine ggb6 (F := _∧_∧_∧_∧_∧_) ⟨e1, e2, e3, e4, e5, e6⟩ hA hR h1 h2 h3 h4 ?_))
    ((repeat refine AW_seq ?_); (refine wta ?_); simp (disch := omega) only [retQ, resD, oneD, rsv, rs, rsL, rsL_eq_map, List.map_map, bb, bt, zDs, zD, eqCells, simprocAttr, Try.results5])
    rfl
  obtain ⟨P, k1, k2, k3⟩ := path_yes ho hx hc
  obtain ⟨Q, q1, q2, q3⟩ := path_yes ho hy hc.symm
  have hPQ : Q.length = P.length := by rw [dist_symm E y x] at q3; omega
  have hP1000 : P.length ≤ 1000 := by
    have := way_small ho (q := List.range E.length) (a := x) (b := y) hx
    unfold pathP at k1
    rw [if_pos (dist_con.2 hc)] at k1
    rw [(Prod.mk.inj k1).1] at this
    omega
  rw [k1] at h1
  rw [q1] at h2
  have hPl := nl_len P
  have hQl := nl_len Q
  have hd : decide (0 ≤ dist E y x) = true := by rw [decide_eq_true_iff, dist_con]; exact hc
  rw [hd] at h4
  ((refine wqa ?_))
  ((refine AW.freeze (0) (by first | rfl | (simp only [setH, List.getElem?_cons_zero, List.getElem?_cons_succ, fz_ed]; done)) ?_); simp (disch := omega) only [fzT, fz, fzL, fzL_ints, fzL_mat, fzH, fzB, eq_self, bb, bt, zDs, zD, eqCells, simprocAttr, fz_ed])
  ((refine AW.freeze (1) (by first | rfl | (simp only [setH, List.getElem?_cons_zero, List.getElem?_cons_succ, fz_ed]; done)) ?_); simp (disch := omega) only [fzT, fz, fzL, fzL_ints, fzL_mat, fzH, fzB, eq_self, bb, bt, zDs, zD, eqCells, simprocAttr, fz_ed])
  have k : IW E (· ∈ List.range E.length) x P y ∧ (P.length : Int) = dist E y x ∧ P.length ≤ 1000 := ⟨k2, k3, hP1000⟩
  have hPQ2 : ((P.length : Int) != (Q.length : Int)) = false := by rw [hPQ]; simp
  clear k1 k2 k3 q1 q2 q3 hP1000 hd hPQ
  ((refine ggb6 (F := _∧_∧_∧_∧_∧_∧_∧_∧_) ⟨e1, e2, e3, e4, e5, e6, hPQ2, hPl, hQl⟩ hA hR h1 h2 h3 h4 ?_))
  ((repeat refine AW_seq ?_))
  refine AW_mid (fun w : Nat => ⟨[(0, int m), (1, eds (edN E)), (4, int z), (7, .rp [int x] 0), (8, .rp [int y] 0), (10, bool false), (11, ints (nl P)), (18, int y)], [none, none], w⟩) (fun _ => True) ?_ ?_
  · refine AW_block ?_
    refine AW_loop_w (fun w : (Nat × Nat) × Nat => ⟨[(0, int m), (1, eds (edN E)), (4, int z), (7, .rp [int x] 0), (8, .rp [int y] 0), (10, bool false), (11, ints (nl P)), (18, int w.1.2), (111, ints (nl P)), (112, int P.length), (113, int w.1.1)], [none, none], w.2⟩) (fun w => P.length - w.1.1)
      (fun w => w.1.1 ≤ P.length ∧ IW E (· ∈ List.range E.length) w.1.2 (P.drop w.1.1) y) ((0, x), t + 1 + 1) ⟨Nat.zero_le _, k.1⟩ (by (simp (disch := omega) only [StLe, tmLe, hpLe_refl, hpLe, bl, bb, bt, zDs, zD, eqCells, simprocAttr])) ?_
    rintro ⟨⟨j, at_⟩, tt⟩ ⟨hj, hw⟩
    simp only at hj hw
    by_cases hjt : j < P.length
    · obtain ⟨i, hi⟩ : ∃ w, P[j]? = some w := ⟨_, List.getElem?_eq_getElem hjt⟩
      have hdk : P.drop j = i :: P.drop (j + 1) := by
        obtain ⟨h1, h2⟩ := List.getElem?_eq_some_iff.1 hi
        rw [List.drop_eq_getElem_cons h1, h2]
      rw [hdk] at hw
      obtain ⟨v, he, hw2⟩ : ∃ v, oth E i at_ = some v ∧ IW E (· ∈ List.range E.length) v (P.drop (j + 1)) y := by
        cases hw with
        | cons _ e w => exact ⟨_, e, w⟩
      have hb := oth_lt ho he
      have hin := nl_get hi
      clear hw hdk
      obtain ⟨p, q, hpq, hcase⟩ : ∃ p q, E[i]? = some (p, q) ∧ ((p = at_ ∧ q = v) ∨ (p ≠ at_ ∧ p = v ∧ q = at_)) := by
        rcases oth_some he with h | h
        · exact ⟨_, _, h, .inl ⟨rfl, rfl⟩⟩
        · exact ⟨_, _, h, .inr ⟨fun e => hb.2.2 e.symm, rfl, rfl⟩⟩
      have hiE : i < E.length := (List.getElem?_eq_some_iff.1 hpq).1
      have hen := edN_get hpq
      have g0 := edC_0 hen
      have g1 := edC_1 hen
      have c1 : decide ((E.length : Int) ≤ i) = false := decide_eq_false (by omega)
      have c0 : decide ((i : Int) < 0) = false := decide_eq_false (by omega)
      have hr2 : i * 2 < E.length * 2 := by omega
      have hr3 : i * 2 + 2 ≤ E.length * 2 := by omega
      have hr4 : i * 2 + 1 < E.length * 2 := by omega
      have hs : (p : Int) + q - at_ = v := by omega
      have hdv : E.length * 2 / 2 = E.length := by omega
      clear he hi hpq hen
      ((refine ggb0 (F := _∧_) ⟨@Int.ofNat_lt, hjt⟩ ?_))
      ((repeat refine AW_seq ?_))
      refine AW_block ?_
      rcases hcase with ⟨f1, f2⟩ | ⟨f1, f2, f3⟩
      · have f3 : ((p : Int) != (at_ : Int)) = false := by rw [f1]; simp
        ((refine ggb0 (F := _∧_∧_∧_∧_∧_∧_∧_∧_∧_∧_∧_∧_∧_∧_) ⟨hjt, hin, hPl, hiE, c0, c1, hr2, hr3, hr4, hdv, edC_len, edN_len, g0, g1, f3⟩ ?_))
        ((repeat refine AW_seq ?_); (refine gdzb (F := _∧_∧_∧_∧_∧_∧_∧_∧_∧_∧_∧_∧_∧_∧_) ⟨hjt, hin, hPl, hiE, c0, c1, hr2, hr3, hr4, hdv, edC_len, edN_len, g0, g1, hs⟩ ?_))
        ((refine gga0 ?_))
        refine ⟨((j + 1, v), tt + 1), ⟨hjt, hw2⟩, by show P.length - (j + 1) < P.length - j; omega, ?_⟩
        (simp (disch := omega) only [StLe, tmLe, hpLe_refl, hpLe, bl, bb, bt, zDs, zD, eqCells, simprocAttr])
      · have f4 : ((p : Int) != (at_ : Int)) = true := by rw [bneN]; simpa using f1
        have f5 : ((q : Int) != (at_ : Int)) = false := by rw [f3]; simp
        ((refine ggb0 (F := _∧_∧_∧_∧_∧_∧_∧_∧_∧_∧_∧_∧_∧_∧_∧_) ⟨hjt, hin, hPl, hiE, c0, c1, hr2, hr3, hr4, hdv, edC_len, edN_len, g0, g1, f4, f5⟩ ?_))
        ((repeat refine AW_seq ?_); (refine gdzb (F := _∧_∧_∧_∧_∧_∧_∧_∧_∧_∧_∧_∧_∧_∧_) ⟨hjt, hin, hPl, hiE, c0, c1, hr2, hr3, hr4, hdv, edC_len, edN_len, g0, g1, hs⟩ ?_))
        ((refine gga0 ?_))
        refine ⟨((j + 1, v), tt + 1), ⟨hjt, hw2⟩, by show P.length - (j + 1) < P.length - j; omega, ?_⟩
        (simp (disch := omega) only [StLe, tmLe, hpLe_refl, hpLe, bl, bb, bt, zDs, zD, eqCells, simprocAttr])
    · have hje : j = P.length := by omega
      subst hje
      rw [List.drop_length] at hw
      have hay : at_ = y := by cases hw; rfl
      subst hay
      ((refine ggb0 @Int.lt_irrefl ?_))
      refine ⟨tt, trivial, ?_⟩
      (simp (disch := omega) only [StLe, tmLe, hpLe_refl, hpLe, bl, bb, bt, zDs, zD, eqCells, simprocAttr])
  rintro w -
  have f1 : ((y : Int) != (y : Int)) = false := by simp
  obtain ⟨_, k3, hP1000⟩ := k
  have h5 := pathG m E ho hv hm hE x z hx hz
  have h6 := pathG m E ho hv hm hE z y hz hy
  by_cases hxz : Con E x z
  · have hzy := hxz.symm.trans hc
    obtain ⟨R, r1, r2, r3⟩ := path_yes ho hx hxz
    obtain ⟨S, s1, s2, s3⟩ := path_yes ho hz hzy
    have htri := dist_tri hxz hzy
    rw [r1] at h5
    rw [s1] at h6
    have hRl := nl_len R
    have hSl := nl_len S
    have hle : (P.length : Int) ≤ (R.length : Int) + S.length := by omega
    have g1 : decide ((P.length : Int) ≤ (R.length : Int) + S.length) = true := decide_eq_true hle
    have hR1 : R.length ≤ 1000 := by
      have := way_small ho (q := List.range E.length) (a := x) (b := z) hx
      unfold pathP at r1
      rw [if_pos (dist_con.2 hxz)] at r1
      rw [(Prod.mk.inj r1).1] at this
      omega
    have hS1 : S.length ≤ 1000 := by
      have := way_small ho (q := List.range E.length) (a := z) (b := y) hz
      unfold pathP at s1
      rw [if_pos (dist_con.2 hzy)] at s1
      rw [(Prod.mk.inj s1).1] at this
      omega
    clear r1 r2 r3 s1 s2 s3 htri k3 hPQ2
    ((refine ggb2 (F := _∧_∧_∧_∧_) ⟨f1, g1, hPl, hRl, hSl⟩ h5 h6 ?_))
    ((repeat refine AW_seq ?_); (refine wta ?_); simp (disch := omega) only [retQ, resD, oneD, rsv, rs, rsL, rsL_eq_map, List.map_map, bb, bt, zDs, zD, eqCells, simprocAttr, Try.results5])
  · have hzy : ¬ Con E z y := fun h => hxz (hc.trans h.symm)
    rw [path_no hxz] at h5
    rw [path_no hzy] at h6
    clear k3 hPQ2
    ((refine ggb2 f1 h5 h6 ?_))
    ((repeat refine AW_seq ?_); (refine wta ?_); simp (disch := omega) only [retQ, resD, oneD, rsv, rs, rsL, rsL_eq_map, List.map_map, bb, bt, zDs, zD, eqCells, simprocAttr, Try.results5])
end Go.Proofs.Ytalhegbjlfkipaa.T
