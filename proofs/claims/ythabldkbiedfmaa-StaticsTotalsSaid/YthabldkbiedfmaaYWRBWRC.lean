import Derived.Test.YthabldkbiedfmaaTB
import Derived.Test.YthabldkbiedfmaaYWQWRA
set_option linter.all false
namespace Go.Proofs.Ythabldkbiedfmaa.T
open Go Go.RowKit Lin
set_option linter.unusedSimpArgs false

def mulP (a b : Int × Int) : (Int × Int) × Int := if vfrac a.1 a.2 = true ∧ vfrac b.1 b.2 = true then mulR a b else ((0, 0), 1)
def addP (a b : Int × Int) : (Int × Int) × Int := if vfrac a.1 a.2 = true ∧ vfrac b.1 b.2 = true then addR a b else ((0, 0), 1)
theorem signP_big {s : Bool} {n d : Nat} (h : 18446744073709551616 ≤ n ∨ 18446744073709551616 ≤ d) : signP s n d = ((0, 0), 5) := by
  unfold signP; rw [if_pos (by omega)]
theorem signP_pos (s : Bool) (n d : Nat) : signP (decide (0 < n) && s) n d = signP s n d := by
  by_cases h : n = 0
  · subst h; exact signP_zero _ _ _
  · have : decide (0 < n) = true := by simp; omega
    rw [this, Bool.true_and]
theorem refTimes (a b : Int × Int) (ha : vfrac a.1 a.2 = true) (hb : vfrac b.1 b.2 = true) : PRet Try.prog 161 [frD a, frD b] (fe (mulR a b)) := by
  obtain ⟨a1, a2, a3, a4, a5⟩ := fr_bounds ha
  obtain ⟨b1, b2, b3, b4, b5⟩ := fr_bounds hb
  obtain ⟨n, d⟩ := a
  obtain ⟨u, v⟩ := b
  simp only at *
  have s1 := refSize n (by omega)
  have s2 := refSize u (by omega)
  have s3 := refSize d (by omega)
  have s4 := refSize v (by omega)
  have m1 := refMul n.natAbs u.natAbs (by omega)
  have m2 := refMul d.natAbs v.natAbs (by omega)
  have c1 : n.natAbs * u.natAbs ≤ 1152921504606846976 * 1152921504606846976 := Nat.mul_le_mul (by omega) (by omega)
  have c2 : d.natAbs * v.natAbs ≤ 1152921504606846976 * 1152921504606846976 := Nat.mul_le_mul (by omega) (by omega)
  have hm := made (n.natAbs * u.natAbs) (decide (n < 0) != decide (u < 0)) (d.natAbs * v.natAbs) (by omega) (by omega)
  have e : mulR (n, d) (u, v) = madeP (n.natAbs * u.natAbs) (decide (n < 0) != decide (u < 0)) (d.natAbs * v.natAbs) := rfl
  rw [e]
  generalize madeP (n.natAbs * u.natAbs) (decide (n < 0) != decide (u < 0)) (d.natAbs * v.natAbs) = r at *
  refine PRet.intro 2 fun t => ACall.enter tab_ok Try.func161 rfl rfl Try.ntmps161 (by simp) ?_
  simp only [enterTM]
  ((refine gga0 ?_))
  ((repeat refine AW_seq ?_); (refine gdza7 s1 s2 s3 s4 m1 m2 hm ?_))
  ((repeat refine AW_seq ?_); (refine wta ?_); simp (disch := omega) only [retQ, resD, oneD, rsv, rs, rsL, rsL_eq_map, List.map_map, bb, bt, zDs, zD, eqCells, simprocAttr, Try.results161])
set_option maxHeartbeats 1000000 in
theorem rMul (a b : Int × Int) : PRet Try.prog 56 [frD a, frD b] (fe (mulP a b)) := by
  obtain ⟨n, d⟩ := a
  obtain ⟨u, v⟩ := b
  have va := rValid n d
  have vb := rValid u v
  refine PRet.intro 2 fun t => ACall.enter tab_ok Try.func56 rfl rfl Try.ntmps56 (by simp) ?_
  simp only [enterTM, mulP]
  cases ha : vfrac n d
  · rw [ha] at va
    ((refine gga1 va ?_))
    ((repeat refine AW_seq ?_); (refine wta ?_); simp (disch := omega) only [retQ, resD, oneD, rsv, rs, rsL, rsL_eq_map, List.map_map, bb, bt, zDs, zD, eqCells, simprocAttr, Try.results56])
  cases hb : vfrac u v
  · rw [ha] at va
    rw [hb] at vb
    ((refine gga2 va vb ?_))
    ((repeat refine AW_seq ?_); (refine wta ?_); simp (disch := omega) only [retQ, resD, oneD, rsv, rs, rsL, rsL_eq_map, List.map_map, bb, bt, zDs, zD, eqCells, simprocAttr, Try.results56])
  rw [ha] at va
  rw [hb] at vb
  obtain ⟨a1, a2, a3, a4, a5⟩ := fr_bounds ha
  obtain ⟨b1, b2, b3, b4, b5⟩ := fr_bounds hb
  rw [if_pos ⟨rfl, rfl⟩]
  obtain ⟨D, rfl⟩ : ∃ D : Nat, d = (D : Int) := ⟨d.toNat, by omega⟩
  obtain ⟨V, rfl⟩ : ∃ V : Nat, v = (V : Int) := ⟨v.toNat, by omega⟩
  simp only [Int.natAbs_natCast] at a5 b5
  have hD : 0 < D := by omega
  have hV : 0 < V := by omega
  obtain ⟨l1, l2, l3⟩ := mul_low hD hV a5 b5
  have e : mulR (n, (D : Int)) (u, (V : Int)) = signP (decide (n < 0) != decide (u < 0)) (n.natAbs / Nat.gcd n.natAbs V * (u.natAbs / Nat.gcd u.natAbs D)) (D / Nat.gcd u.natAbs D * (V / Nat.gcd n.natAbs V)) := by
    unfold mulR
    simp only [Int.natAbs_natCast]
    exact made_low l3 (Nat.mul_pos hD hV) l1 l2
  rw [e]
  have s1 := rSize n (by omega)
  have s2 := rSize u (by omega)
  have g1 := rGcd n.natAbs V (by omega)
  have g2 := rGcd u.natAbs D (by omega)
  have hg : 0 < Nat.gcd n.natAbs V := Nat.gcd_pos_of_pos_right _ hV
  have hh : 0 < Nat.gcd u.natAbs D := Nat.gcd_pos_of_pos_right _ hD
  have ql1 : n.natAbs / Nat.gcd n.natAbs V ≤ n.natAbs := Nat.div_le_self _ _
  have ql2 : u.natAbs / Nat.gcd u.natAbs D ≤ u.natAbs := Nat.div_le_self _ _
  have ql3 : D / Nat.gcd u.natAbs D ≤ D := Nat.div_le_self _ _
  have ql4 : V / Nat.gcd n.natAbs V ≤ V := Nat.div_le_self _ _
  have t1 : ((n.natAbs : Nat) : Int).tdiv (Nat.gcd n.natAbs V : Nat) = ((n.natAbs / Nat.gcd n.natAbs V : Nat) : Int) := rfl
  have t2 : ((u.natAbs : Nat) : Int).tdiv (Nat.gcd u.natAbs D : Nat) = ((u.natAbs / Nat.gcd u.natAbs D : Nat) : Int) := rfl
  have t3 : ((D : Nat) : Int).tdiv (Nat.gcd u.natAbs D : Nat) = ((D / Nat.gcd u.natAbs D : Nat) : Int) := rfl
  have t4 : ((V : Nat) : Int).tdiv (Nat.gcd n.natAbs V : Nat) = ((V / Nat.gcd n.natAbs V : Nat) : Int) := rfl
  generalize n.natAbs / Nat.gcd n.natAbs V = n1 at *
  generalize u.natAbs / Nat.gcd u.natAbs D = u1 at *
  generalize D / Nat.gcd u.natAbs D = d1 at *
  generalize V / Nat.gcd n.natAbs V = v1 at *
  generalize Nat.gcd n.natAbs V = g at *
  generalize Nat.gcd u.natAbs D = h at *
  have hg0 : ¬ (g : Int) = 0 := by omega
  have hh0 : ¬ (h : Int) = 0 := by omega
  have p1 := wideProduct n1 u1 (by omega) (by omega)
  have p2 := wideProduct d1 v1 (by omega) (by omega)
  have c1 : n1 * u1 ≤ 1152921504606846976 * 1152921504606846976 := Nat.mul_le_mul (by omega) (by omega)
  have c2 : d1 * v1 ≤ 1152921504606846976 * 1152921504606846976 := Nat.mul_le_mul (by omega) (by omega)
  generalize n1 * u1 = num at *
  generalize d1 * v1 = den at *
  have un := uhl (z := num) (by omega)
  have ud := uhl (z := den) (by omega)
  ((refine gga2 va vb ?_))
  ((repeat refine AW_seq ?_); (refine gdza4 s1 s2 g1 g2 ?_))
  ((repeat refine AW_seq ?_); (refine gdtb4 (F := _∧_∧_∧_∧_∧_) ⟨t1, t2, t3, t4, hg0, hh0⟩ s1 s2 p1 p2 ?_))
  by_cases k1 : 0 < uh num
  · ((refine ggb0 k1 ?_))
    ((repeat refine AW_seq ?_); (refine wta ?_); simp (disch := omega) only [retQ, resD, oneD, rsv, rs, rsL, rsL_eq_map, List.map_map, bb, bt, zDs, zD, eqCells, simprocAttr, Try.results56])
    rw [signP_big (by omega)]
  by_cases k2 : 0 < uh den
  · ((refine ggb0 (F := _∧_) ⟨k1, k2⟩ ?_))
    ((repeat refine AW_seq ?_); (refine wta ?_); simp (disch := omega) only [retQ, resD, oneD, rsv, rs, rsL, rsL_eq_map, List.map_map, bb, bt, zDs, zD, eqCells, simprocAttr, Try.results56])
    rw [signP_big (by omega)]
  have z1 : ul num = num := by omega
  have z2 : ul den = den := by omega
  have hs := signed (decide (0 < num) && (decide (n < 0) != decide (u < 0))) num den (by omega)
  rw [signP_pos] at hs
  by_cases k3 : (0 : Int) < num
  · have k4 : decide (0 < num) = true := by simp; omega
    rw [k4, Bool.true_and] at hs
    ((refine ggb1 (F := _∧_∧_∧_∧_) ⟨k1, k2, z1, z2, k3⟩ hs ?_))
    ((repeat refine AW_seq ?_); (refine wta ?_); simp (disch := omega) only [retQ, resD, oneD, rsv, rs, rsL, rsL_eq_map, List.map_map, bb, bt, zDs, zD, eqCells, simprocAttr, Try.results56])
  · have k4 : decide (0 < num) = false := by simp; omega
    rw [k4, Bool.false_and] at hs
    ((refine ggb1 (F := _∧_∧_∧_∧_) ⟨k1, k2, z1, z2, k3⟩ hs ?_))
    ((repeat refine AW_seq ?_); (refine wta ?_); simp (disch := omega) only [retQ, resD, oneD, rsv, rs, rsL, rsL_eq_map, List.map_map, bb, bt, zDs, zD, eqCells, simprocAttr, Try.results56])
end Go.Proofs.Ythabldkbiedfmaa.T

namespace Go.Proofs.Ythabldkbiedfmaa.T
open Go Go.RowKit Lin
set_option linter.unusedSimpArgs false

set_option maxHeartbeats 1000000 in
theorem refAdd (a b : Int × Int) (ha : vfrac a.1 a.2 = true) (hb : vfrac b.1 b.2 = true) : PRet Try.prog 99 [frD a, frD b] (fe (addR a b)) := by
  obtain ⟨a1, a2, a3, a4, a5⟩ := fr_bounds ha
  obtain ⟨b1, b2, b3, b4, b5⟩ := fr_bounds hb
  obtain ⟨n, d⟩ := a
  obtain ⟨u, v⟩ := b
  simp only at *
  have s1 := refSize n (by omega)
  have s2 := refSize u (by omega)
  have s3 := refSize d (by omega)
  have s4 := refSize v (by omega)
  have m1 := refMul n.natAbs v.natAbs (by omega)
  have m2 := refMul u.natAbs d.natAbs (by omega)
  have m3 := refMul d.natAbs v.natAbs (by omega)
  have c1 : n.natAbs * v.natAbs ≤ 1152921504606846976 * 1152921504606846976 := Nat.mul_le_mul (by omega) (by omega)
  have c2 : u.natAbs * d.natAbs ≤ 1152921504606846976 * 1152921504606846976 := Nat.mul_le_mul (by omega) (by omega)
  have c3 : d.natAbs * v.natAbs ≤ 1152921504606846976 * 1152921504606846976 := Nat.mul_le_mul (by omega) (by omega)
  unfold addR
  simp only
  generalize n.natAbs * v.natAbs = x at *
  generalize u.natAbs * d.natAbs = y at *
  generalize d.natAbs * v.natAbs = z at *
  refine PRet.intro 2 fun t => ACall.enter tab_ok Try.func99 rfl rfl Try.ntmps99 (by simp) ?_
  simp only [enterTM]
  ((refine gga0 ?_))
  ((repeat refine AW_seq ?_); (refine gdoa3 s1 s4 m1 ?_))
  ((repeat refine AW_seq ?_); (refine gdoa3 s2 s3 m2 ?_))
  ((repeat refine AW_seq ?_); (refine gdoa3 s3 s4 m3 ?_))
  by_cases hsg : decide (n < 0) = decide (u < 0)
  · have e : (decide (n < 0) == decide (u < 0)) = true := by rw [hsg]; simp
    rw [if_pos hsg]
    have hp := refPlus x y (by omega)
    have hm := made (x + y) (decide (n < 0)) z (by omega) (by omega)
    generalize madeP (x + y) (decide (n < 0)) z = r at *
    ((refine ggb0 e ?_))
    ((repeat refine AW_seq ?_); (refine gdza2 hp hm ?_))
    ((repeat refine AW_seq ?_); (refine wta ?_); simp (disch := omega) only [retQ, resD, oneD, rsv, rs, rsL, rsL_eq_map, List.map_map, bb, bt, zDs, zD, eqCells, simprocAttr, Try.results99])
  · have e : (decide (n < 0) == decide (u < 0)) = false := by simpa using hsg
    rw [if_neg hsg]
    have hl := refLess x y (by omega)
    by_cases hlt : x < y
    · rw [decide_eq_true hlt] at hl
      rw [if_pos hlt]
      have hp := refMinus y x (by omega)
      have hm := made (y - x) (decide (u < 0)) z (by omega) (by omega)
      generalize madeP (y - x) (decide (u < 0)) z = r at *
      ((refine ggb1 e hl ?_))
      ((repeat refine AW_seq ?_); (refine gdza2 hp hm ?_))
      ((repeat refine AW_seq ?_); (refine wta ?_); simp (disch := omega) only [retQ, resD, oneD, rsv, rs, rsL, rsL_eq_map, List.map_map, bb, bt, zDs, zD, eqCells, simprocAttr, Try.results99])
    · rw [decide_eq_false hlt] at hl
      rw [if_neg hlt]
      have hp := refMinus x y (by omega)
      have hm := made (x - y) (decide (n < 0)) z (by omega) (by omega)
      generalize madeP (x - y) (decide (n < 0)) z = r at *
      ((refine ggb1 e hl ?_))
      ((repeat refine AW_seq ?_); (refine gdza2 hp hm ?_))
      ((repeat refine AW_seq ?_); (refine wta ?_); simp (disch := omega) only [retQ, resD, oneD, rsv, rs, rsL, rsL_eq_map, List.map_map, bb, bt, zDs, zD, eqCells, simprocAttr, Try.results99])
theorem madeP_zero (s : Bool) {d : Nat} (hd : 0 < d) : madeP 0 s d = ((0, 1), 0) := by
  unfold madeP
  rw [if_neg (by omega), Nat.gcd_zero_left, Nat.zero_div, Nat.div_self hd]
  unfold signP
  rw [if_neg (by omega)]
  cases s <;> rfl
theorem sum_facts {N U D V : Nat} (hD : 0 < D) (hV : 0 < V) : let g := Nat.gcd D V
    N * V + U * D = g * (N * (V / g) + U * (D / g)) ∧ (N * V < U * D ↔ N * (V / g) < U * (D / g)) ∧ U * D - N * V = g * (U * (D / g) - N * (V / g)) ∧ N * V - U * D = g * (N * (V / g) - U * (D / g)) := by
  intro g
  have hg : 0 < g := Nat.gcd_pos_of_pos_right _ hV
  have v1 : V / g * g = V := Nat.div_mul_cancel (Nat.gcd_dvd_right D V)
  have d1 : D / g * g = D := Nat.div_mul_cancel (Nat.gcd_dvd_left D V)
  have x : N * V = g * (N * (V / g)) := by conv => lhs; rw [← v1]
                                           ac_rfl
  have y : U * D = g * (U * (D / g)) := by conv => lhs; rw [← d1]
                                           ac_rfl
  refine ⟨by rw [x, y, Nat.mul_add], ?_, by rw [x, y, Nat.mul_sub], by rw [x, y, Nat.mul_sub]⟩
  rw [x, y]
  exact Nat.mul_lt_mul_left hg
set_option maxHeartbeats 2000000 in
theorem rAdd (a b : Int × Int) : PRet Try.prog 38 [frD a, frD b] (fe (addP a b)) := by
  obtain ⟨n, d⟩ := a
  obtain ⟨u, v⟩ := b
  have va := rValid n d
  have vb := rValid u v
  refine PRet.intro 2 fun t => ACall.enter tab_ok Try.func38 rfl rfl Try.ntmps38 (by simp) ?_
  simp only [enterTM, addP]
  cases ha : vfrac n d
  · rw [ha] at va
    ((refine gga1 va ?_))
    ((repeat refine AW_seq ?_); (refine wta ?_); simp (disch := omega) only [retQ, resD, oneD, rsv, rs, rsL, rsL_eq_map, List.map_map, bb, bt, zDs, zD, eqCells, simprocAttr, Try.results38])
  cases hb : vfrac u v
  · rw [ha] at va
    rw [hb] at vb
    ((refine gga2 va vb ?_))
    ((repeat refine AW_seq ?_); (refine wta ?_); simp (disch := omega) only [retQ, resD, oneD, rsv, rs, rsL, rsL_eq_map, List.map_map, bb, bt, zDs, zD, eqCells, simprocAttr, Try.results38])
  rw [ha] at va
  rw [hb] at vb
  obtain ⟨a1, a2, a3, a4, a5⟩ := fr_bounds ha
  obtain ⟨b1, b2, b3, b4, b5⟩ := fr_bounds hb
  rw [if_pos ⟨rfl, rfl⟩]
  obtain ⟨D, rfl⟩ : ∃ D : Nat, d = (D : Int) := ⟨d.toNat, by omega⟩
  obtain ⟨V, rfl⟩ : ∃ V : Nat, v = (V : Int) := ⟨v.toNat, by omega⟩
  simp only [Int.natAbs_natCast] at a5 b5
  have hD : 0 < D := by omega
  have hV : 0 < V := by omega
  have hsum := fun S hS => sum_coprime (S := S) hV a5 b5 hS
  obtain ⟨f1, f2, f3, f4⟩ := sum_facts (N := n.natAbs) (U := u.natAbs) hD hV
  have low : ∀ S, Nat.Coprime S (D / Nat.gcd D V) → Nat.Coprime S (V / Nat.gcd D V) → 0 < Nat.gcd (Nat.gcd D V) (S % Nat.gcd D V) ∧ Nat.gcd (Nat.gcd D V) (S % Nat.gcd D V) ≤ Nat.gcd D V ∧ Nat.Coprime (S / Nat.gcd (Nat.gcd D V) (S % Nat.gcd D V)) (D / Nat.gcd D V * (V / Nat.gcd (Nat.gcd D V) (S % Nat.gcd D V))) ∧ (S / Nat.gcd (Nat.gcd D V) (S % Nat.gcd D V)) * (D * V) = (Nat.gcd D V * S) * (D / Nat.gcd D V * (V / Nat.gcd (Nat.gcd D V) (S % Nat.gcd D V))) ∧ 0 < D / Nat.gcd D V * (V / Nat.gcd (Nat.gcd D V) (S % Nat.gcd D V)) := fun S h1 h2 => add_low (S := S) hD hV h1 h2
  have hadd : addR (n, (D : Int)) (u, (V : Int)) = if decide (n < 0) = decide (u < 0) then madeP (Nat.gcd D V * (n.natAbs * (V / Nat.gcd D V) + u.natAbs * (D / Nat.gcd D V))) (decide (n < 0)) (D * V)
      else if n.natAbs * (V / Nat.gcd D V) < u.natAbs * (D / Nat.gcd D V) then madeP (Nat.gcd D V * (u.natAbs * (D / Nat.gcd D V) - n.natAbs * (V / Nat.gcd D V))) (decide (u < 0)) (D * V)
      else madeP (Nat.gcd D V * (n.natAbs * (V / Nat.gcd D V) - u.natAbs * (D / Nat.gcd D V))) (decide (n < 0)) (D * V) := by
    unfold addR
    simp only [Int.natAbs_natCast, f1, f2, f3, f4]
  have s1 := rSize n (by omega)
  have s2 := rSize u (by omega)
  have g1 := rGcd D V (by omega)
  have hg : 0 < Nat.gcd D V := Nat.gcd_pos_of_pos_right _ hV
  have hgD : Nat.gcd D V ≤ D := Nat.gcd_le_left _ hD
  have ql3 : D / Nat.gcd D V ≤ D := Nat.div_le_self _ _
  have ql4 : V / Nat.gcd D V ≤ V := Nat.div_le_self _ _
  have t3 : ((D : Nat) : Int).tdiv (Nat.gcd D V : Nat) = ((D / Nat.gcd D V : Nat) : Int) := rfl
  have t4 : ((V : Nat) : Int).tdiv (Nat.gcd D V : Nat) = ((V / Nat.gcd D V : Nat) : Int) := rfl
  clear f1 f2 f3 f4
  generalize addR (n, (D : Int)) (u, (V : Int)) = res at *
  generalize D / Nat.gcd D V = d1 at *
  generalize V / Nat.gcd D V = v1 at *
  generalize Nat.gcd D V = g at *
  have hg0 : ¬ (g : Int) = 0 := by omega
  have p1 := wideProduct n.natAbs v1 (by omega) (by omega)
  have p2 := wideProduct u.natAbs d1 (by omega) (by omega)
  have c1 : n.natAbs * v1 ≤ 1152921504606846976 * 1152921504606846976 := Nat.mul_le_mul (by omega) (by omega)
  have c2 : u.natAbs * d1 ≤ 1152921504606846976 * 1152921504606846976 := Nat.mul_le_mul (by omega) (by omega)
  generalize n.natAbs * v1 = x at *
  generalize u.natAbs * d1 = y at *
  ((refine gga3 va vb g1 ?_))
  ((repeat refine AW_seq ?_); (refine gdtb4 (F := _∧_∧_) ⟨t3, t4, hg0⟩ s1 s2 p1 p2 ?_))
  ((refine gga0 ?_))
  ((repeat refine AW_seq ?_))
  refine AW_mid (fun s : Bool × Nat × Nat => ⟨[(2, .ptr 0 (t + 1) 0), (3, .ptr 1 (t + 1 + 1) 0), (4, .ptr 2 (t + 1 + 1 + 1) 0), (6, word g), (9, bool s.1), (10, .ptr 5 (t + 1 + 1 + 1 + 1 + 1) 0)],
    [some ⟨33, t + 1, [int n, int D]⟩, some ⟨33, t + 1 + 1, [int u, int V]⟩, some ⟨33, t + 1 + 1 + 1, [int 0, int 0]⟩, none, none, some ⟨143, t + 1 + 1 + 1 + 1 + 1, [word (uh s.2.1), word (ul s.2.1)]⟩], s.2.2⟩)
    (fun s => s.2.1 ≤ x + y ∧ Nat.Coprime s.2.1 d1 ∧ Nat.Coprime s.2.1 v1 ∧ res = madeP (g * s.2.1) s.1 (D * V)) ?_ ?_
  · refine AW_block ?_
    by_cases hsg : decide (n < 0) = decide (u < 0)
    · have e : (decide (n < 0) == decide (u < 0)) = true := by rw [hsg]; simp
      rw [if_pos hsg] at hadd
      have hp := widePlus x y (by omega)
      obtain ⟨k1, k2⟩ := hsum (x + y) (.inl rfl)
      ((refine ggb1 e hp ?_))
      exact ⟨(decide (n < 0), x + y, t + 1 + 1 + 1 + 1 + 1), ⟨Nat.le_refl _, k1, k2, hadd⟩, by (simp (disch := omega) only [StLe, tmLe, hpLe_refl, hpLe, bl, bb, bt, zDs, zD, eqCells, simprocAttr])⟩
    · have e : (decide (n < 0) == decide (u < 0)) = false := by simpa using hsg
      rw [if_neg hsg] at hadd
      have hl := wideLess x y (by omega) (by omega)
      by_cases hlt : x < y
      · rw [decide_eq_true hlt] at hl
        rw [if_pos hlt] at hadd
        have hp := wideMinus y x (by omega) (by omega)
        obtain ⟨k1, k2⟩ := hsum (y - x) (.inr (.inl (by omega)))
        have hng : (!decide (n < 0)) = decide (u < 0) := by
          cases h1 : decide (n < 0) <;> cases h2 : decide (u < 0) <;> simp_all
        ((refine ggb2 (F := _∧_) ⟨e, hng⟩ hl hp ?_))
        exact ⟨(decide (u < 0), y - x, t + 1 + 1 + 1 + 1 + 1), ⟨by show y - x ≤ x + y; omega, k1, k2, hadd⟩, by (simp (disch := omega) only [StLe, tmLe, hpLe_refl, hpLe, bl, bb, bt, zDs, zD, eqCells, simprocAttr])⟩
      · rw [decide_eq_false hlt] at hl
        rw [if_neg hlt] at hadd
        have hp := wideMinus x y (by omega) (by omega)
        obtain ⟨k1, k2⟩ := hsum (x - y) (.inr (.inr (by omega)))
        ((refine ggb2 e hl hp ?_))
        exact ⟨(decide (n < 0), x - y, t + 1 + 1 + 1 + 1 + 1), ⟨by show x - y ≤ x + y; omega, k1, k2, hadd⟩, by (simp (disch := omega) only [StLe, tmLe, hpLe_refl, hpLe, bl, bb, bt, zDs, zD, eqCells, simprocAttr])⟩
  rintro ⟨neg, S, t2⟩ ⟨k1, k2, k3, hr⟩
  simp only at k1 k2 k3 hr
  rw [hr]
  clear hadd hr hsum
  have uS := uhl (z := S) (by omega)
  have hDV : 0 < D * V := Nat.mul_pos hD hV
  by_cases hS : S = 0
  · subst hS
    have e : ((uh 0 == 0) && (ul 0 == 0)) = true := rfl
    rw [Nat.mul_zero, madeP_zero _ hDV]
    ((refine ggb0 e ?_))
    ((repeat refine AW_seq ?_); (refine wta ?_); simp (disch := omega) only [retQ, resD, oneD, rsv, rs, rsL, rsL_eq_map, List.map_map, bb, bt, zDs, zD, eqCells, simprocAttr, Try.results38])
  have e : ((uh S == 0) && (ul S == 0)) = false := by
    by_cases h1 : uh S = 0
    · have h2 : ¬ ul S = 0 := by omega
      simp [h1, h2]
    · simp [h1]
  obtain ⟨l0, lg, l1, l2, l3⟩ := low S k2 k3
  rw [made_low l3 hDV l1 l2]
  have o1 := wideOver S g (by omega) hg (by omega)
  have hrem : S % g < g := Nat.mod_lt _ hg
  have g2 := rGcd g (S % g) (by omega)
  have o2 := wideOver S (Nat.gcd g (S % g)) (by omega) l0 (by omega)
  have t5 : ((V : Nat) : Int).tdiv (Nat.gcd g (S % g) : Nat) = ((V / Nat.gcd g (S % g) : Nat) : Int) := rfl
  have ql5 : V / Nat.gcd g (S % g) ≤ V := Nat.div_le_self _ _
  have ql6 : S / Nat.gcd g (S % g) ≤ S := Nat.div_le_self _ _
  clear l1 l2
  generalize S % Nat.gcd g (S % g) = r2 at *
  generalize V / Nat.gcd g (S % g) = v2 at *
  generalize S / Nat.gcd g (S % g) = num at *
  generalize Nat.gcd g (S % g) = c at *
  have hc0 : ¬ (c : Int) = 0 := by omega
  have p3 := wideProduct d1 v2 (by omega) (by omega)
  have c3 : d1 * v2 ≤ 1152921504606846976 * 1152921504606846976 := Nat.mul_le_mul (by omega) (by omega)
  generalize d1 * v2 = den at *
  have un := uhl (z := num) (by omega)
  have ud := uhl (z := den) (by omega)
  ((refine ggb3 e o1 g2 o2 ?_))
  ((repeat refine AW_seq ?_); (refine gdob1 (F := _∧_∧_∧_) ⟨t3, t5, hg0, hc0⟩ p3 ?_))
  by_cases h1 : 0 < uh num
  · ((refine ggb0 h1 ?_))
    ((repeat refine AW_seq ?_); (refine wta ?_); simp (disch := omega) only [retQ, resD, oneD, rsv, rs, rsL, rsL_eq_map, List.map_map, bb, bt, zDs, zD, eqCells, simprocAttr, Try.results38])
    rw [signP_big (by omega)]
  by_cases h2 : 0 < uh den
  · ((refine ggb0 (F := _∧_) ⟨h1, h2⟩ ?_))
    ((repeat refine AW_seq ?_); (refine wta ?_); simp (disch := omega) only [retQ, resD, oneD, rsv, rs, rsL, rsL_eq_map, List.map_map, bb, bt, zDs, zD, eqCells, simprocAttr, Try.results38])
    rw [signP_big (by omega)]
  have z1 : ul num = num := by omega
  have z2 : ul den = den := by omega
  have hs := signed neg num den (by omega)
  ((refine ggb1 (F := _∧_∧_∧_) ⟨h1, h2, z1, z2⟩ hs ?_))
  ((repeat refine AW_seq ?_); (refine wta ?_); simp (disch := omega) only [retQ, resD, oneD, rsv, rs, rsL, rsL_eq_map, List.map_map, bb, bt, zDs, zD, eqCells, simprocAttr, Try.results38])
end Go.Proofs.Ythabldkbiedfmaa.T

