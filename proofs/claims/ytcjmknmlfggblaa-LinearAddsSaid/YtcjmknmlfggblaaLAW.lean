import Derived.Test.YtcjmknmlfggblaaTB
import Derived.Test.YtcjmknmlfggblaaLAF
import Derived.Test.YtcjmknmlfggblaaWX
import Derived.Test.YtcjmknmlfggblaaWN
import Derived.Test.YtcjmknmlfggblaaWE
import Derived.Test.YtcjmknmlfggblaaWC
import Derived.Test.YtcjmknmlfggblaaWRC
import Derived.Test.YtcjmknmlfggblaaWPA
import Derived.Test.YtcjmknmlfggblaaWR
import Derived.Test.YtcjmknmlfggblaaWS
set_option linter.all false
namespace Go.Proofs.Ytcjmknmlfggblaa.T
open Go Go.RowKit Lin
set_option linter.unusedSimpArgs false
theorem fz_int (b g : Nat) (cs : List D) (l : List Int) : fzL b g cs (l.map int) = l.map int := by
  rw [fzL_map, List.map_map]; exact List.map_congr_left fun x _ => by simp only [Function.comp, fz]
theorem fz_mat (b g : Nat) (cs : List D) (l : List (List Int)) : fzL b g cs (l.map ints) = l.map ints := by
  rw [fzL_map, List.map_map]; exact List.map_congr_left fun x _ => by simp only [Function.comp, fz, fz_int]
theorem fz_fr (b g : Nat) (cs : List D) : ∀ l : List (Int × Int), fzL b g cs (frC l) = frC l
  | [] => by simp only [frC, List.flatMap_nil, fzL]
  | x :: l => by have := fz_fr b g cs l; simp only [frC, List.flatMap_cons, List.cons_append, List.nil_append, fzL, fz] at this ⊢; rw [this]

theorem copyP_empty (m : List (List Int)) : copyP m [] = m := by
  unfold copyP
  refine List.ext_getElem (by simp) fun i h1 h2 => ?_
  simp
/-- The cells of the sum, as far as they are filled. -/
def sumC (x y : List Int) (n k : Nat) : List Int := (List.zipWith (· + ·) x y).take k ++ List.replicate (n - k) 0
theorem sumC_len {x y : List Int} {n k : Nat} (hx : x.length = n) (hy : y.length = n) (h : k ≤ n) : (sumC x y n k).length = n := by simp [sumC]; omega
theorem sumC_zero (x y : List Int) (n : Nat) : (List.replicate n [int 0]).flatten = (sumC x y n 0).map int := by simp [sumC]
theorem sumC_set {x y : List Int} {k : Nat} {p q : Int} (hx : x[k]? = some p) (hy : y[k]? = some q) {n : Nat} (hn : k < n) : ((sumC x y n k).map int).set k (int (p + q)) = (sumC x y n (k + 1)).map int := by
  rw [← List.map_set]; congr 1; exact zipW_take hx hy hn
theorem sumC_end {x y : List Int} {n : Nat} (hx : x.length = n) (hy : y.length = n) : sumC x y n n = List.zipWith (· + ·) x y := by
  unfold sumC
  rw [List.take_of_length_le (by simp; omega)]; simp
set_option maxHeartbeats 2000000 in
theorem adds (m : List (List Int)) (right other : List Int) (i k : Int) (hi : 0 ≤ i ∧ i < 256) (hk : 0 ≤ k ∧ k < 256) : PRet Try.prog 3 [mat m, ints right, ints other, .v (.int .u8 i), .v (.int .u8 k)] (bool true) := by
  refine PRet.intro 1 fun t => ACall.enter tab_ok Try.func3 rfl rfl Try.ntmps3 (by simp) ?_
  simp only [enterTM]
  cases hlg : longP m
  rotate_left 1
  · ((refine ggb2 hlg awake (long m) ?_))
    ((repeat refine AW_seq ?_); (refine wta ?_); simp (disch := omega) only [retQ, resD, oneD, rsv, rs, rsL, rsL_eq_map, List.map_map, bb, bt, zDs, zD, eqCells, simprocAttr, Try.results3])
  by_cases hr20 : (20 : Int) < right.length
  · ((refine ggb2 (F := _∧_) ⟨hlg, hr20⟩ awake (long m) ?_))
    ((repeat refine AW_seq ?_); (refine wta ?_); simp (disch := omega) only [retQ, resD, oneD, rsv, rs, rsL, rsL_eq_map, List.map_map, bb, bt, zDs, zD, eqCells, simprocAttr, Try.results3])
  by_cases ho : other.length = right.length
  rotate_left 1
  · have eo : ((other.length : Int) != (right.length : Int)) = true := by simpa using fun h => ho (by omega)
    ((refine ggb2 (F := _∧_∧_) ⟨hlg, hr20, eo⟩ awake (long m) ?_))
    ((repeat refine AW_seq ?_); (refine wta ?_); simp (disch := omega) only [retQ, resD, oneD, rsv, rs, rsL, rsL_eq_map, List.map_map, bb, bt, zDs, zD, eqCells, simprocAttr, Try.results3])
  have eo : ((other.length : Int) != (right.length : Int)) = false := by simp [ho]
  obtain ⟨hm, hl⟩ := longP_false hlg
  have hm' : m.length ≤ 1000000 := by omega
  have hl' : ∀ r ∈ m, r.length ≤ 1000000 := fun r hr => by have := hl r hr; omega
  have hV := valid m hm' hl'
  cases hv : validP m
  · rw [hv] at hV
    ((refine ggb3 (F := _∧_∧_) ⟨hlg, hr20, eo⟩ awake (long m) hV ?_))
    ((repeat refine AW_seq ?_); (refine wta ?_); simp (disch := omega) only [retQ, resD, oneD, rsv, rs, rsL, rsL_eq_map, List.map_map, bb, bt, zDs, zD, eqCells, simprocAttr, Try.results3])
  rw [hv] at hV
  by_cases hr : right.length = m.length
  rotate_left 1
  · have er : ((right.length : Int) != (m.length : Int)) = true := by simpa using fun h => hr (by omega)
    ((refine ggb3 (F := _∧_∧_∧_) ⟨hlg, hr20, eo, er⟩ awake (long m) hV ?_))
    ((repeat refine AW_seq ?_); (refine wta ?_); simp (disch := omega) only [retQ, resD, oneD, rsv, rs, rsL, rsL_eq_map, List.map_map, bb, bt, zDs, zD, eqCells, simprocAttr, Try.results3])
  have er : ((right.length : Int) != (m.length : Int)) = false := by simp [hr]
  have hS := solve m right hm' hl' (by omega)
  have hO := solve m other hm' hl' (by omega)
  have hD := det m hm' hl'
  rw [hv] at hD
  simp only [if_true] at hD
  obtain ⟨h1, h2, h3⟩ := validP_iff.1 hv
  have hpos : 0 < m.length := by omega
  have hsums := sums (right := right) (other := other) hv hr (by omega)
  have hadds : ∀ a b, a < m.length → b < m.length → a ≠ b → withinP right 67108864 = true → validP (addRow m a b) = true → _ := fun a b ha hb hab hw hv' => solve_add (a := a) (b := b) hv hv' hr hw ha hb hab
  have hn20 : right.length ≤ 20 := by omega
  have hZ := solve m (List.zipWith (· + ·) right other) hm' hl' (by simp; omega)
  have hXl := solveP_le m right hv
  generalize hXe : solveP m right = X at *
  generalize solveP m other = Y at *
  generalize solveP m (List.zipWith (· + ·) right other) = Z at *
  ((refine ggb5 (F := _∧_∧_∧_) ⟨hlg, hr20, eo, er⟩ awake (long m) hV hS hO ?_))
  rw [sumC_zero right other]
  ((repeat refine AW_seq ?_))
  refine AW_block ?_
  refine AW_loop_w (fun x : Nat × Nat => ⟨[(0, mat m), (1, ints right), (2, ints other), (3, .v (.int .u8 i)), (4, .v (.int .u8 k)), (11, frs X.1), (12, int X.2), (13, frs Y.1), (14, int Y.2), (15, .own 1 0 (t + 1) 0 right.length), (76, int right.length), (77, int x.1)], [some ⟨3, t + 1, (sumC right other right.length x.1).map int⟩], x.2⟩) (fun x => right.length - x.1) (fun x => x.1 ≤ right.length ∧ ∀ j, j < x.1 → (∀ p, right[j]? = some p → -67108864 ≤ p ∧ p ≤ 67108864) ∧ ∀ q, other[j]? = some q → -67108864 ≤ q ∧ q ≤ 67108864) (0, t + 1) ⟨Nat.zero_le _, fun j hj => absurd hj (Nat.not_lt_zero _)⟩ (by (simp (disch := omega) only [StLe, tmLe, hpLe_refl, hpLe, bl, bb, bt, zDs, zD, eqCells, simprocAttr])) ?_
  rintro ⟨j, tt⟩ ⟨hj, hin⟩
  simp only at hj hin
  by_cases hjn : j < right.length
  · obtain ⟨p, hp⟩ : ∃ y, right[j]? = some y := ⟨_, List.getElem?_eq_getElem hjn⟩
    obtain ⟨q, hq⟩ : ∃ y, other[j]? = some y := ⟨_, List.getElem?_eq_getElem (by omega)⟩
    have hjo : j < other.length := by omega
    have hcl := sumC_len (x := right) (y := other) rfl ho hj
    have hset := sumC_set (n := right.length) hp hq hjn
    ((refine ggb0 (F := _∧_) ⟨@Int.ofNat_lt, hjn⟩ ?_))
    ((repeat refine AW_seq ?_))
    refine AW_block ?_
    by_cases c1 : p < -67108864
    · ((refine ggb0 (F := _∧_∧_) ⟨hjn, hp, c1⟩ ?_))
      ((repeat refine AW_seq ?_); (refine wta ?_); simp (disch := omega) only [retQ, resD, oneD, rsv, rs, rsL, rsL_eq_map, List.map_map, bb, bt, zDs, zD, eqCells, simprocAttr, Try.results3])
    by_cases c2 : 67108864 < p
    · ((refine ggb0 (F := _∧_∧_∧_) ⟨hjn, hp, c1, c2⟩ ?_))
      ((repeat refine AW_seq ?_); (refine wta ?_); simp (disch := omega) only [retQ, resD, oneD, rsv, rs, rsL, rsL_eq_map, List.map_map, bb, bt, zDs, zD, eqCells, simprocAttr, Try.results3])
    by_cases c3 : q < -67108864
    · ((refine ggb0 (F := _∧_∧_∧_∧_∧_∧_) ⟨hjn, hjo, hp, hq, c1, c2, c3⟩ ?_))
      ((repeat refine AW_seq ?_); (refine wta ?_); simp (disch := omega) only [retQ, resD, oneD, rsv, rs, rsL, rsL_eq_map, List.map_map, bb, bt, zDs, zD, eqCells, simprocAttr, Try.results3])
    by_cases c4 : 67108864 < q
    · ((refine ggb0 (F := _∧_∧_∧_∧_∧_∧_∧_) ⟨hjn, hjo, hp, hq, c1, c2, c3, c4⟩ ?_))
      ((repeat refine AW_seq ?_); (refine wta ?_); simp (disch := omega) only [retQ, resD, oneD, rsv, rs, rsL, rsL_eq_map, List.map_map, bb, bt, zDs, zD, eqCells, simprocAttr, Try.results3])
    ((refine ggb0 (F := _∧_∧_∧_∧_∧_∧_∧_) ⟨hjn, hjo, hp, hq, c1, c2, c3, c4⟩ ?_))
    ((repeat refine AW_seq ?_); (refine gdzb (F := _∧_∧_∧_∧_∧_) ⟨hcl, hjn, hjo, hp, hq, hset⟩ ?_))
    ((refine gga0 ?_))
    refine ⟨(j + 1, tt + 1), ⟨hjn, fun j' hj' => ?_⟩, by show right.length - (j + 1) < right.length - j; omega, ?_⟩
    · by_cases e : j' = j
      · subst e
        exact ⟨fun p' hp' => by rw [hp] at hp'; cases hp'; omega, fun q' hq' => by rw [hq] at hq'; cases hq'; omega⟩
      · exact hin j' (by omega)
    (simp (disch := omega) only [StLe, tmLe, hpLe_refl, hpLe, bl, bb, bt, zDs, zD, eqCells, simprocAttr])
  have hje : j = right.length := by omega
  subst hje
  have hw : withinP right 67108864 = true := withinP_of fun n hn => by
    obtain ⟨x, hx⟩ := List.mem_iff_getElem?.1 hn
    exact (hin x (List.getElem?_eq_some_iff.1 hx).1).1 n hx
  have hwo : withinP other 67108864 = true := withinP_of fun n hn => by
    obtain ⟨x, hx⟩ := List.mem_iff_getElem?.1 hn
    exact (hin x (by have := (List.getElem?_eq_some_iff.1 hx).1; omega)).2 n hx
  have hsums := hsums hw hwo
  rw [sumC_end rfl ho]
  ((refine wqb @Int.lt_irrefl ?_))
  ((refine wia ?_))
  ((refine wxa ?_))
  clear hin
  ((refine AW.freeze (0) (by first | rfl | (simp only [setH, List.getElem?_cons_zero, List.getElem?_cons_succ, fz_int, fz_mat, fz_fr]; done)) ?_); simp (disch := omega) only [fzT, fz, fzL, fzL_ints, fzL_mat, fzH, fzB, eq_self, bb, bt, zDs, zD, eqCells, simprocAttr, fz_int, fz_mat, fz_fr])
  have hzl : (List.zipWith (· + ·) right other).length = right.length := by simp; omega
  have hfin : List.take right.length ((List.zipWith (· + ·) right other).map int) = (List.zipWith (· + ·) right other).map int := List.take_of_length_le (by rw [List.length_map]; omega)
  rw [hfin]
  clear hfin
  generalize List.zipWith (· + ·) right other = S at *
  ((repeat refine AW_seq ?_))
  ((repeat refine AW_seq ?_); (refine AW_region_k tab_ok fun KR hKR => ?_)); ((refine wra ?_)); ((refine wka1 hZ ?_)); ((refine wra ?_)); ((refine wea ?_); (try clear hKR KR))
  ((repeat refine AW_seq ?_))
  refine AW_mid (fun t : Nat => ⟨[(0, mat m), (1, ints right), (3, .v (.int .u8 i)), (4, .v (.int .u8 k)), (11, frs X.1), (12, int X.2), (13, frs Y.1), (17, frs Z.1), (18, int Z.2), (130, bool (X.2 == 0 && Y.2 == 0))], [], t⟩) (fun _ => True) ?_ ?_
  · cases hx0 : (X.2 == 0)
    · ((refine ggb0 hx0 ?_))
      exact ⟨tt, trivial, by (simp (disch := omega) only [StLe, tmLe, hpLe_refl, hpLe, bl, bb, bt, zDs, zD, eqCells, simprocAttr, Bool.false_and])⟩
    cases hy0 : (Y.2 == 0)
    · ((refine ggb0 (F := _∧_) ⟨hx0, hy0⟩ ?_))
      exact ⟨tt, trivial, by (simp (disch := omega) only [StLe, tmLe, hpLe_refl, hpLe, bl, bb, bt, zDs, zD, eqCells, simprocAttr, Bool.and_false])⟩
    ((refine ggb0 (F := _∧_) ⟨hx0, hy0⟩ ?_))
    exact ⟨tt, trivial, by (simp (disch := omega) only [StLe, tmLe, hpLe_refl, hpLe, bl, bb, bt, zDs, zD, eqCells, simprocAttr, Bool.and_self])⟩
  rintro tt -
  ((repeat refine AW_seq ?_))
  refine AW_mid (fun t : Nat => ⟨[(0, mat m), (1, ints right), (3, .v (.int .u8 i)), (4, .v (.int .u8 k)), (11, frs X.1), (12, int X.2)], [], t⟩) (fun _ => True) ?_ ?_
  · cases hxy : (X.2 == 0 && Y.2 == 0)
    · ((refine gga0 ?_))
      exact ⟨tt, trivial, by (simp (disch := omega) only [StLe, tmLe, hpLe_refl, hpLe, bl, bb, bt, zDs, zD, eqCells, simprocAttr])⟩
    obtain ⟨hx0, hy0⟩ := Bool.and_eq_true_iff.1 hxy
    have f0 : frC [] = [] := rfl
    rcases hsums (by simpa using hx0) (by simpa using hy0) with hz2 | ⟨hz0, hzX, hzs⟩
    · subst hz2
      ((refine ggb0 (F := _∧_∧_) ⟨hx0, hy0, f0⟩ ?_))
      ((repeat refine AW_seq ?_))
      refine AW_block ?_
      refine AW_loop_w (fun x : Nat => ⟨[(0, mat m), (1, ints right), (3, .v (.int .u8 i)), (4, .v (.int .u8 k)), (11, frs X.1), (12, int X.2), (149, int 0), (150, int 0)], [], x⟩) (fun x => 0) (fun _ => True) tt trivial (by (simp (disch := omega) only [StLe, tmLe, hpLe_refl, hpLe, bl, bb, bt, zDs, zD, eqCells, simprocAttr])) ?_
      rintro tt2 -
      ((refine ggb0 @Int.lt_irrefl ?_))
      exact ⟨tt2, trivial, by (simp (disch := omega) only [StLe, tmLe, hpLe_refl, hpLe, bl, bb, bt, zDs, zD, eqCells, simprocAttr])⟩
    · have e0 : (Z.2 == 0) = true := by simp [hz0]
      have e1 : (Z.2 != 0) = false := by simp [hz0]
      have hfl := frC_len Z.1
      have hfx := frC_len X.1
      have hfl2 : (frC Z.1).length / 2 = Z.1.length := by omega
      have hfx2 : (frC X.1).length / 2 = X.1.length := by omega
      have e2 : ((Z.1.length : Int) != (X.1.length : Int)) = false := by simp [hzX]
      ((refine ggb0 (F := _∧_∧_∧_∧_∧_∧_) ⟨hx0, hy0, e0, e1, hfl2, hfx2, e2⟩ ?_))
      ((repeat refine AW_seq ?_))
      refine AW_block ?_
      refine AW_loop_w (fun x : Nat × Nat => ⟨[(0, mat m), (1, ints right), (3, .v (.int .u8 i)), (4, .v (.int .u8 k)), (11, frs X.1), (12, int X.2), (13, frs Y.1), (17, frs Z.1), (149, int Z.1.length), (150, int x.1)], [], x.2⟩) (fun x => Z.1.length - x.1) (fun x => x.1 ≤ Z.1.length) (0, tt) (Nat.zero_le _) (by (simp (disch := omega) only [StLe, tmLe, hpLe_refl, hpLe, bl, bb, bt, zDs, zD, eqCells, simprocAttr])) ?_
      rintro ⟨n, t2⟩ hn
      simp only at hn
      by_cases hnz : n < Z.1.length
      · obtain ⟨z, hz⟩ : ∃ z, Z.1[n]? = some z := ⟨_, List.getElem?_eq_getElem hnz⟩
        obtain ⟨x, y, hx, hy, vx, vy, hadd⟩ := hzs n z hz
        have hA := refAdd x y vx vy
        have hnx : n < X.1.length := by omega
        have hny : n < Y.1.length := (List.getElem?_eq_some_iff.1 hy).1
        have hfy := frC_len Y.1
        have hfy2 : (frC Y.1).length / 2 = Y.1.length := by omega
        have hrx := frC_read X.1 n x hx
        have hry := frC_read Y.1 n y hy
        have hrz := frC_read Z.1 n z hz
        generalize addR x y = s at *
        ((refine ggb0 (F := _∧_) ⟨@Int.ofNat_lt, hnz⟩ ?_))
        ((repeat refine AW_seq ?_))
        refine AW_block ?_
        ((refine gga0 ?_))
        ((repeat refine AW_seq ?_); (refine gdob1 (F := _∧_∧_∧_∧_∧_) ⟨hfx2, hfy2, hnx, hny, hrx, hry⟩ hA ?_))
        cases hs0 : (s.2 == 0)
        · ((repeat refine AW_seq ?_); (refine gdzb hs0 ?_))
          ((refine gga0 ?_))
          refine ⟨(n + 1, t2 + 1 + 1), hnz, by show Z.1.length - (n + 1) < Z.1.length - n; omega, ?_⟩
          (simp (disch := omega) only [StLe, tmLe, hpLe_refl, hpLe, bl, bb, bt, zDs, zD, eqCells, simprocAttr])
        · have hsz := hadd (by simpa using hs0)
          have hs1 : (s.1.1 == z.1) = true := by simp [hsz]
          have hs2 : (s.1.2 == z.2) = true := by simp [hsz]
          ((repeat refine AW_seq ?_); (refine gdzb (F := _∧_∧_∧_∧_∧_) ⟨hs0, hfl2, hnz, hrz, hs1, hs2⟩ ?_))
          ((refine gga0 ?_))
          refine ⟨(n + 1, t2 + 1 + 1), hnz, by show Z.1.length - (n + 1) < Z.1.length - n; omega, ?_⟩
          (simp (disch := omega) only [StLe, tmLe, hpLe_refl, hpLe, bl, bb, bt, zDs, zD, eqCells, simprocAttr])
      · have hne : n = Z.1.length := by omega
        subst hne
        ((refine ggb0 @Int.lt_irrefl ?_))
        exact ⟨t2, trivial, by (simp (disch := omega) only [StLe, tmLe, hpLe_refl, hpLe, bl, bb, bt, zDs, zD, eqCells, simprocAttr])⟩
  rintro t1 -
  clear hsums hZ hO hzl
  obtain ⟨ni, rfl⟩ : ∃ n : Nat, i = (n : Int) := ⟨i.toNat, by omega⟩
  obtain ⟨nk, rfl⟩ : ∃ n : Nat, k = (n : Int) := ⟨k.toNat, by omega⟩
  have ei : Int.tmod (ni : Int) (m.length : Int) = ((ni % m.length : Nat) : Int) := rfl
  have ek : Int.tmod (nk : Int) (m.length : Int) = ((nk % m.length : Nat) : Int) := rfl
  have hA : ni % m.length < m.length := Nat.mod_lt _ hpos
  have hB : nk % m.length < m.length := Nat.mod_lt _ hpos
  generalize ni % m.length = a at *
  generalize nk % m.length = b at *
  have hl0 : ¬ (m.length : Int) = 0 := by omega
  ((repeat refine AW_seq ?_); (refine gdzb (F := _∧_∧_) ⟨ei, ek, hl0⟩ ?_))
  by_cases hab : a = b
  · have eab : ((a : Int) == (b : Int)) = true := by simp [hab]
    ((refine ggb0 eab ?_))
    ((repeat refine AW_seq ?_); (refine wta ?_); simp (disch := omega) only [retQ, resD, oneD, rsv, rs, rsL, rsL_eq_map, List.map_map, bb, bt, zDs, zD, eqCells, simprocAttr, Try.results3])
  have eab : ((a : Int) == (b : Int)) = false := by simp; omega
  ((refine ggb0 eab ?_))
  ((try with_reducible intro KR hKR); (first | refine awOps_nc fun KK hKK => ?_ | refine awOps_gc rfl fun KK hKK => ?_); simp (disch := omega) only [bb, bt, zDs, zD, eqCells, simprocAttr, goC, callO_fn, argsD, and_self])
  refine copy_call (m := m) (right := []) (by omega) (fun r hr => ⟨fun e => by have := (h3 r hr).1; rw [e] at this; simp at this; omega, by have := (h3 r hr).1; omega⟩) (by simp) rfl fun ga cells R t2 hL hR2 ht1 => ?_
  rw [copyP_empty] at hL
  have hL : LayO 1 m (List.range m.length) cells R := hL
  (simp (disch := omega) only [bb, bt, zDs, zD, eqCells, simprocAttr, afterC]; refine hKK _ ?_; clear hKK KK)
  ((refine wra ?_)); ((refine wea ?_); (try clear hKR KR))
  obtain ⟨ra, hra⟩ : ∃ y, m[a]? = some y := ⟨_, List.getElem?_eq_getElem hA⟩
  obtain ⟨rb, hrb⟩ : ∃ y, m[b]? = some y := ⟨_, List.getElem?_eq_getElem hB⟩
  have hrow : ∀ {c : Nat} {r : List Int}, m[c]? = some r → Lin.row m c = r := fun {c r} h => by simp [Lin.row, h]
  have hadd0 : addRow m a b = m.set a (List.zipWith (· + ·) ra rb) := by unfold addRow; rw [hrow hra, hrow hrb]
  obtain ⟨wa, ba⟩ := h3 ra (List.mem_of_getElem? hra)
  obtain ⟨wb, bb'⟩ := h3 rb (List.mem_of_getElem? hrb)
  have hlc : cells.length = m.length := by simpa using hL.lc
  obtain ⟨g1, hca, hRa⟩ := hL.at_ a a ra (by simp [hA]) hra
  obtain ⟨g2, hcb, hRb⟩ := hL.at_ b b rb (by simp [hB]) hrb
  ((refine ggb0 (F := _∧_∧_∧_) ⟨hca, hRa, hA, hlc⟩ ?_))
  ((repeat refine AW_seq ?_))
  refine AW_block ?_
  let cur : Nat → List Int := fun j => (List.zipWith (· + ·) ra rb).take j ++ ra.drop j
  have hql : (List.zipWith (· + ·) ra rb).length = ra.length := by simp; omega
  have hcul : ∀ j, j ≤ ra.length → (cur j).length = ra.length := fun j hj => by simp only [cur, List.length_append, List.length_take, List.length_drop, hql]; omega
  refine AW_loop_w (fun x : Nat × Nat => ⟨[(0, mat m), (1, ints right), (11, frs X.1), (12, int X.2), (22, int a), (23, int b), (24, .own 1 0 ga 0 m.length), (195, int ra.length), (196, int x.1)], some ⟨24, ga, cells⟩ :: R.set a (some ⟨3, g1, (cur x.1).map int⟩), x.2⟩) (fun x => ra.length - x.1) (fun x => x.1 ≤ ra.length) (0, t2) (Nat.zero_le _) (by
    have e : R.set a (some ⟨3, g1, (cur 0).map int⟩) = R := by
      obtain ⟨a1, a2⟩ := List.getElem?_eq_some_iff.1 hRa
      simp only [cur, List.take_zero, List.nil_append, List.drop_zero]
      rw [← a2]; exact List.set_getElem_self _
    simp only [e]
    (simp (disch := omega) only [StLe, tmLe, hpLe_refl, hpLe, bl, bb, bt, zDs, zD, eqCells, simprocAttr])) ?_
  rintro ⟨j, t3⟩ hj
  simp only at hj
  have hcj := hcul j hj
  have hRs : (R.set a (some (⟨3, g1, (cur j).map int⟩ : Blk)))[a]? = some (some ⟨3, g1, (cur j).map int⟩) := by rw [List.getElem?_set_self (by omega)]
  have hRbs : (R.set a (some (⟨3, g1, (cur j).map int⟩ : Blk)))[b]? = some (some ⟨3, g2, rb.map int⟩) := by rw [List.getElem?_set_ne hab]; exact hRb
  by_cases hjw : j < ra.length
  · obtain ⟨p, hp⟩ : ∃ y, ra[j]? = some y := ⟨_, List.getElem?_eq_getElem hjw⟩
    obtain ⟨q, hq⟩ : ∃ y, rb[j]? = some y := ⟨_, List.getElem?_eq_getElem (by omega)⟩
    have hjb : j < rb.length := by omega
    have bp := ba p (List.mem_of_getElem? hp)
    have bq := bb' q (List.mem_of_getElem? hq)
    have hcp : (cur j)[j]? = some p := by
      simp only [cur]
      rw [List.getElem?_append_right (by simp; omega), List.length_take, hql, Nat.min_eq_left (by omega), Nat.sub_self, List.getElem?_drop]; exact hp
    have hcs : ((cur j).map int).set j (int (p + q)) = (cur (j + 1)).map int := by
      rw [← List.map_set]
      congr 1
      have hzj : (List.zipWith (· + ·) ra rb)[j]? = some (p + q) := by simp [List.getElem?_zipWith, hp, hq]
      simp only [cur]
      rw [List.take_add_one, hzj, show ra.drop j = p :: ra.drop (j + 1) by obtain ⟨a1, a2⟩ := List.getElem?_eq_some_iff.1 hp; rw [List.drop_eq_getElem_cons a1, a2]]
      rw [List.set_append_right _ _ (by simp; omega), List.length_take, hql, Nat.min_eq_left (by omega), Nat.sub_self]
      simp
    ((refine ggb0 (F := _∧_) ⟨@Int.ofNat_lt, hjw⟩ ?_))
    ((repeat refine AW_seq ?_))
    refine AW_block ?_
    ((refine gga0 ?_))
    ((repeat refine AW_seq ?_); (refine AW_drawn_k tab_ok follows_mixed 0 fun KR hKR => ?_); simp only [List.replicate_succ, List.replicate_zero, List.append_nil, List.nil_append, List.cons_append, List.length_cons, List.length_nil, Nat.reduceAdd])
    ((refine wdb (F := _∧_∧_∧_∧_∧_∧_∧_∧_∧_∧_∧_) ⟨hca, hcb, hRs, hRbs, hcp, hq, hjw, hjb, hA, hB, hcj, hlc⟩ ?_))
    ((refine awD_nil ?_); simp only [List.reverse_cons, List.reverse_nil, List.nil_append, List.cons_append]; (refine hKR _ _ (by exact anyB_map (clamp 1) (by kernel_rfl)) ?_); (try clear hKR KR); (repeat (with_reducible first | refine q1 ?_ | refine q2 ?_ | refine q3 ?_ | refine q4 ?_ | refine q5 ?_ | refine q6 ?_ | (refine q7 ?_ ?_; (focus (with_unfolding_all rfl))))))
    rw [List.set_set, hcs]
    ((refine gga0 ?_))
    refine ⟨(j + 1, t3 + 1), (by show j + 1 ≤ ra.length; omega), by show ra.length - (j + 1) < ra.length - j; omega, ?_⟩
    (simp (disch := omega) only [StLe, tmLe, hpLe_refl, hpLe, bl, bb, bt, zDs, zD, eqCells, simprocAttr])
  have hjw' : j = ra.length := by omega
  subst hjw'
  have hcw : cur ra.length = List.zipWith (· + ·) ra rb := by simp only [cur]; rw [List.take_of_length_le (by omega), List.drop_eq_nil_of_le (by omega), List.append_nil]
  ((refine wqb @Int.lt_irrefl ?_))
  ((refine wia ?_))
  ((refine wxa ?_))
  simp only [hcw]
  have hL2 := hL.set (by simp [hA]) hra hRa (r' := List.zipWith (· + ·) ra rb) hql
  rw [← hadd0] at hL2
  have hR3 : (R.set a (some (⟨3, g1, (List.zipWith (· + ·) ra rb).map int⟩ : Blk))).length = m.length := by rw [List.length_set]; exact hR2
  generalize R.set a (some (⟨3, g1, (List.zipWith (· + ·) ra rb).map int⟩ : Blk)) = R3 at *
  refine AW.less ⟨[(0, mat m), (1, ints right), (11, frs X.1), (12, int X.2), (22, int a), (23, int b), (24, .own 1 0 ga 0 m.length)], some ⟨24, ga, cells⟩ :: R3, t3⟩ (by (simp (disch := omega) only [StLe, tmLe, hpLe_refl, hpLe, bl, bb, bt, zDs, zD, eqCells, simprocAttr])) ?_
  refine AW.tail 2 [some ⟨24, ga, cells⟩] R3 rfl ?_
  have hval := hL2.value (m := 1) (H2 := R3) (by simp) (fun x hx => by simp) 1
  simp only [zT, zH, List.map_cons, List.map_nil, Option.map_some, zv_matX, zv_vX, zv_frs, zv_ints1, List.length_nil, List.length_cons, hval, Nat.zero_add]
  have hz : zv 1 R3 2 (.own 1 0 ga 0 m.length) = .own 1 0 ga 0 m.length := by simp [zv, zz]
  simp only [hz]
  clear hL2 hval hL hRa hRb hca hcb
  ((refine AW.freeze (0) (by first | rfl | (simp only [setH, List.getElem?_cons_zero, List.getElem?_cons_succ, fz_int, fz_mat, fz_fr]; done)) ?_); simp (disch := omega) only [fzT, fz, fzL, fzL_ints, fzL_mat, fzH, fzB, eq_self, bb, bt, zDs, zD, eqCells, simprocAttr, fz_int, fz_mat, fz_fr])
  have hal : (addRow m a b).length = m.length := by simp [addRow]
  have hfin : List.take m.length ((addRow m a b).map ints) = (addRow m a b).map ints := List.take_of_length_le (by simp [hal])
  rw [hfin]
  refine AW.less ⟨[(0, mat m), (1, ints right), (11, frs X.1), (12, int X.2), (22, int a), (23, int b), (24, mat (addRow m a b))], [], t3⟩ (by (simp (disch := omega) only [StLe, tmLe, hpLe_refl, hpLe, bl, bb, bt, zDs, zD, eqCells, simprocAttr])) ?_
  have hWl : ∀ r ∈ addRow m a b, r.length ≤ 1000000 := fun r hr => by
    rw [hadd0] at hr
    rcases List.mem_or_eq_of_mem_set hr with h | rfl
    · exact hl' r h
    · rw [hql]; omega
  have hVW := valid (addRow m a b) (by omega) hWl
  have hDW := det (addRow m a b) (by omega) hWl
  have hSW := solve (addRow m a b) (addNum right a b) (by omega) hWl (by simp [addNum]; omega)
  cases hvw : validP (addRow m a b)
  · rw [hvw] at hVW
    ((refine gga1 hVW ?_))
    ((repeat refine AW_seq ?_); (refine wta ?_); simp (disch := omega) only [retQ, resD, oneD, rsv, rs, rsL, rsL_eq_map, List.map_map, bb, bt, zDs, zD, eqCells, simprocAttr, Try.results3])
  obtain ⟨f1, f2, f3⟩ := add_facts hv hvw hA hB hab
  have hsa := hadds a b hA hB hab hw hvw
  rw [hvw] at hVW hDW
  simp only [if_true] at hDW
  have hdd : ∃ d e : Int, (if m.length = wid m then D.tup [int (detP m), int 0] else D.tup [int 0, int 19]) = D.tup [int d, int e] ∧ (if (addRow m a b).length = wid (addRow m a b) then D.tup [int (detP (addRow m a b)), int 0] else D.tup [int 0, int 19]) = D.tup [int d, int e] := by
    rw [f1, f2]
    by_cases hsq : m.length = wid m
    · rw [if_pos hsq, if_pos hsq, f3 hsq]; exact ⟨_, _, rfl, rfl⟩
    · rw [if_neg hsq, if_neg hsq]; exact ⟨_, _, rfl, rfl⟩
  obtain ⟨d, e, hd1, hd2⟩ := hdd
  rw [hd1] at hD
  rw [hd2] at hDW
  clear hd1 hd2
  obtain ⟨p, hp⟩ : ∃ y, right[a]? = some y := ⟨_, List.getElem?_eq_getElem (by omega)⟩
  obtain ⟨q, hq⟩ : ∃ y, right[b]? = some y := ⟨_, List.getElem?_eq_getElem (by omega)⟩
  have bp := withinP_spec hw p (List.mem_of_getElem? hp)
  have bq := withinP_spec hw q (List.mem_of_getElem? hq)
  have hpq : ((right.map int).set a (int (p + q))) = (addNum right a b).map int := by
    unfold addNum
    rw [← List.map_set]
    simp [Lin.at_, hp, hq]
  have hAr : a < right.length := by omega
  have hBr : b < right.length := by omega
  generalize addRow m a b = W at *
  have edd : (d != d) = false := by simp
  have eee : (e != e) = false := by simp
  have hC := cloneInts right (by omega)
  ((refine ggb3 (F := _∧_) ⟨edd, eee⟩ hVW hD hDW ?_))
  ((try with_reducible intro KR hKR); (first | refine awOps_nc fun KK hKK => ?_ | refine awOps_gc rfl fun KK hKK => ?_); simp (disch := omega) only [bb, bt, zDs, zD, eqCells, simprocAttr, goC, callO_fn, argsD, and_self])
  refine ACall.of_fresh hC (by first | (simp only [List.map_cons, List.map_nil, List.append_nil, List.nil_append, List.cons_append, ufa, uf]; done) | rfl) ?_
  (simp (disch := omega) only [bb, bt, zDs, zD, eqCells, simprocAttr, afterC]; refine hKK _ ?_; clear hKK KK)
  ((refine wra ?_)); ((refine wea ?_); (try clear hKR KR))
  ((repeat refine AW_seq ?_); (refine gdzb (F := _∧_∧_∧_∧_) ⟨hAr, hBr, hp, hq, hpq⟩ ?_))
  ((repeat refine AW_seq ?_))
  ((refine AW.freeze (0) (by first | rfl | (simp only [setH, List.getElem?_cons_zero, List.getElem?_cons_succ, fz_int, fz_mat, fz_fr]; done)) ?_); simp (disch := omega) only [fzT, fz, fzL, fzL_ints, fzL_mat, fzH, fzB, eq_self, bb, bt, zDs, zD, eqCells, simprocAttr, fz_int, fz_mat, fz_fr])
  have hanl : (addNum right a b).length = right.length := by simp [addNum]
  have hfin2 : List.take right.length ((addNum right a b).map int) = (addNum right a b).map int := List.take_of_length_le (by simp [hanl])
  rw [hfin2]
  generalize addNum right a b = rr at *
  have hXl : X.1.length ≤ 1000000 := by rw [← hXe]; have := solveP_le m right hv; omega
  have hE := equalFr X.1 X.1 hXl hXl
  rw [beq_self_eq_true] at hE
  rcases hsa with hsa | hsa
  · rw [hsa] at hSW
    ((refine gga1 hSW ?_))
    ((repeat refine AW_seq ?_); (refine wta ?_); simp (disch := omega) only [retQ, resD, oneD, rsv, rs, rsL, rsL_eq_map, List.map_map, bb, bt, zDs, zD, eqCells, simprocAttr, Try.results3])
  · rw [hsa] at hSW
    have exx : (X.2 == X.2) = true := by simp
    cases hx2 : (X.2 == 2)
    · ((refine ggb2 (F := _∧_) ⟨hx2, exx⟩ hSW hE ?_))
      ((repeat refine AW_seq ?_); (refine wta ?_); simp (disch := omega) only [retQ, resD, oneD, rsv, rs, rsL, rsL_eq_map, List.map_map, bb, bt, zDs, zD, eqCells, simprocAttr, Try.results3])
    · ((refine ggb2 hx2 hSW hE ?_))
      ((repeat refine AW_seq ?_); (refine wta ?_); simp (disch := omega) only [retQ, resD, oneD, rsv, rs, rsL, rsL_eq_map, List.map_map, bb, bt, zDs, zD, eqCells, simprocAttr, Try.results3])
end Go.Proofs.Ytcjmknmlfggblaa.T
