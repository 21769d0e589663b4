import Derived.Test.YtcjmknmlfggblaaTB
import Derived.Test.YtcjmknmlfggblaaWRA
set_option linter.all false
namespace Go.Proofs.Ytcjmknmlfggblaa.T
open Go Go.RowKit Lin
set_option linter.unusedSimpArgs false

def mulP (a b : Int × Int) : (Int × Int) × Int := if vfrac a.1 a.2 = true ∧ vfrac b.1 b.2 = true then mulR a b else ((0, 0), 1)
def addP (a b : Int × Int) : (Int × Int) × Int := if vfrac a.1 a.2 = true ∧ vfrac b.1 b.2 = true then addR a b else ((0, 0), 1)
theorem signP_big {s : Bool} {n d : Nat} (h : 18446744073709551616 ≤ n ∨ 18446744073709551616 ≤ d) : signP s n d = ((0, 0), 5) := by
  unfold signP; rw [if_pos (by omega)]
theorem signP_pos (s : Bool) (n d : Nat) : signP (decide (0 < n) && s) n d = signP s n d := by
  by_cases h : n = 0
  · subst h; exact signP_zero _ _ _
  · have : decide (0 < n) = true := by simp; omega
    rw [this, Bool.true_and]
theorem refTimes (a b : Int × Int) (ha : vfrac a.1 a.2 = true) (hb : vfrac b.1 b.2 = true) : PRet Try.prog 66 [frD a, frD b] (fe (mulR a b)) := by
  obtain ⟨a1, a2, a3, a4, a5⟩ := fr_bounds ha
  obtain ⟨b1, b2, b3, b4, b5⟩ := fr_bounds hb
  obtain ⟨n, d⟩ := a
  obtain ⟨u, v⟩ := b
  simp only at *
  have s1 := refSize n (by omega)
  have s2 := refSize u (by omega)
  have s3 := refSize d (by omega)
  have s4 := refSize v (by omega)
  have m1 := refMul n.natAbs u.natAbs (by omega)
  have m2 := refMul d.natAbs v.natAbs (by omega)
  have c1 : n.natAbs * u.natAbs ≤ 1152921504606846976 * 1152921504606846976 := Nat.mul_le_mul (by omega) (by omega)
  have c2 : d.natAbs * v.natAbs ≤ 1152921504606846976 * 1152921504606846976 := Nat.mul_le_mul (by omega) (by omega)
  have hm := made (n.natAbs * u.natAbs) (decide (n < 0) != decide (u < 0)) (d.natAbs * v.natAbs) (by omega) (by omega)
  have e : mulR (n, d) (u, v) = madeP (n.natAbs * u.natAbs) (decide (n < 0) != decide (u < 0)) (d.natAbs * v.natAbs) := rfl
  rw [e]
  generalize madeP (n.natAbs * u.natAbs) (decide (n < 0) != decide (u < 0)) (d.natAbs * v.natAbs) = r at *
  refine PRet.intro 2 fun t => ACall.enter tab_ok Try.func66 rfl rfl Try.ntmps66 (by simp) ?_
  simp only [enterTM]
  ((refine gga0 ?_))
  ((repeat refine AW_seq ?_); (refine gdza7 s1 s2 s3 s4 m1 m2 hm ?_))
  ((repeat refine AW_seq ?_); (refine wta ?_); simp (disch := omega) only [retQ, resD, oneD, rsv, rs, rsL, rsL_eq_map, List.map_map, bb, bt, zDs, zD, eqCells, simprocAttr, Try.results66])
set_option maxHeartbeats 1000000 in
theorem rMul (a b : Int × Int) : PRet Try.prog 63 [frD a, frD b] (fe (mulP a b)) := by
  obtain ⟨n, d⟩ := a
  obtain ⟨u, v⟩ := b
  have va := rValid n d
  have vb := rValid u v
  refine PRet.intro 2 fun t => ACall.enter tab_ok Try.func63 rfl rfl Try.ntmps63 (by simp) ?_
  simp only [enterTM, mulP]
  cases ha : vfrac n d
  · rw [ha] at va
    ((refine gga1 va ?_))
    ((repeat refine AW_seq ?_); (refine wta ?_); simp (disch := omega) only [retQ, resD, oneD, rsv, rs, rsL, rsL_eq_map, List.map_map, bb, bt, zDs, zD, eqCells, simprocAttr, Try.results63])
  cases hb : vfrac u v
  · rw [ha] at va
    rw [hb] at vb
    ((refine gga2 va vb ?_))
    ((repeat refine AW_seq ?_); (refine wta ?_); simp (disch := omega) only [retQ, resD, oneD, rsv, rs, rsL, rsL_eq_map, List.map_map, bb, bt, zDs, zD, eqCells, simprocAttr, Try.results63])
  rw [ha] at va
  rw [hb] at vb
  obtain ⟨a1, a2, a3, a4, a5⟩ := fr_bounds ha
  obtain ⟨b1, b2, b3, b4, b5⟩ := fr_bounds hb
  rw [if_pos ⟨rfl, rfl⟩]
  obtain ⟨D, rfl⟩ : ∃ D : Nat, d = (D : Int) := ⟨d.toNat, by omega⟩
  obtain ⟨V, rfl⟩ : ∃ V : Nat, v = (V : Int) := ⟨v.toNat, by omega⟩
  simp only [Int.natAbs_natCast] at a5 b5
  have hD : 0 < D := by omega
  have hV : 0 < V := by omega
  obtain ⟨l1, l2, l3⟩ := mul_low hD hV a5 b5
  have e : mulR (n, (D : Int)) (u, (V : Int)) = signP (decide (n < 0) != decide (u < 0)) (n.natAbs / Nat.gcd n.natAbs V * (u.natAbs / Nat.gcd u.natAbs D)) (D / Nat.gcd u.natAbs D * (V / Nat.gcd n.natAbs V)) := by
    unfold mulR
    simp only [Int.natAbs_natCast]
    exact made_low l3 (Nat.mul_pos hD hV) l1 l2
  rw [e]
  have s1 := rSize n (by omega)
  have s2 := rSize u (by omega)
  have g1 := rGcd n.natAbs V (by omega)
  have g2 := rGcd u.natAbs D (by omega)
  have hg : 0 < Nat.gcd n.natAbs V := Nat.gcd_pos_of_pos_right _ hV
  have hh : 0 < Nat.gcd u.natAbs D := Nat.gcd_pos_of_pos_right _ hD
  have ql1 : n.natAbs / Nat.gcd n.natAbs V ≤ n.natAbs := Nat.div_le_self _ _
  have ql2 : u.natAbs / Nat.gcd u.natAbs D ≤ u.natAbs := Nat.div_le_self _ _
  have ql3 : D / Nat.gcd u.natAbs D ≤ D := Nat.div_le_self _ _
  have ql4 : V / Nat.gcd n.natAbs V ≤ V := Nat.div_le_self _ _
  have t1 : ((n.natAbs : Nat) : Int).tdiv (Nat.gcd n.natAbs V : Nat) = ((n.natAbs / Nat.gcd n.natAbs V : Nat) : Int) := rfl
  have t2 : ((u.natAbs : Nat) : Int).tdiv (Nat.gcd u.natAbs D : Nat) = ((u.natAbs / Nat.gcd u.natAbs D : Nat) : Int) := rfl
  have t3 : ((D : Nat) : Int).tdiv (Nat.gcd u.natAbs D : Nat) = ((D / Nat.gcd u.natAbs D : Nat) : Int) := rfl
  have t4 : ((V : Nat) : Int).tdiv (Nat.gcd n.natAbs V : Nat) = ((V / Nat.gcd n.natAbs V : Nat) : Int) := rfl
  generalize n.natAbs / Nat.gcd n.natAbs V = n1 at *
  generalize u.natAbs / Nat.gcd u.natAbs D = u1 at *
  generalize D / Nat.gcd u.natAbs D = d1 at *
  generalize V / Nat.gcd n.natAbs V = v1 at *
  generalize Nat.gcd n.natAbs V = g at *
  generalize Nat.gcd u.natAbs D = h at *
  have hg0 : ¬ (g : Int) = 0 := by omega
  have hh0 : ¬ (h : Int) = 0 := by omega
  have p1 := wideProduct n1 u1 (by omega) (by omega)
  have p2 := wideProduct d1 v1 (by omega) (by omega)
  have c1 : n1 * u1 ≤ 1152921504606846976 * 1152921504606846976 := Nat.mul_le_mul (by omega) (by omega)
  have c2 : d1 * v1 ≤ 1152921504606846976 * 1152921504606846976 := Nat.mul_le_mul (by omega) (by omega)
  generalize n1 * u1 = num at *
  generalize d1 * v1 = den at *
  have un := uhl (z := num) (by omega)
  have ud := uhl (z := den) (by omega)
  ((refine gga2 va vb ?_))
  ((repeat refine AW_seq ?_); (refine gdza4 s1 s2 g1 g2 ?_))
  ((repeat refine AW_seq ?_); (refine gdtb4 (F := _∧_∧_∧_∧_∧_) ⟨t1, t2, t3, t4, hg0, hh0⟩ s1 s2 p1 p2 ?_))
  by_cases k1 : 0 < uh num
  · ((refine ggb0 k1 ?_))
    ((repeat refine AW_seq ?_); (refine wta ?_); simp (disch := omega) only [retQ, resD, oneD, rsv, rs, rsL, rsL_eq_map, List.map_map, bb, bt, zDs, zD, eqCells, simprocAttr, Try.results63])
    rw [signP_big (by omega)]
  by_cases k2 : 0 < uh den
  · ((refine ggb0 (F := _∧_) ⟨k1, k2⟩ ?_))
    ((repeat refine AW_seq ?_); (refine wta ?_); simp (disch := omega) only [retQ, resD, oneD, rsv, rs, rsL, rsL_eq_map, List.map_map, bb, bt, zDs, zD, eqCells, simprocAttr, Try.results63])
    rw [signP_big (by omega)]
  have z1 : ul num = num := by omega
  have z2 : ul den = den := by omega
  have hs := signed (decide (0 < num) && (decide (n < 0) != decide (u < 0))) num den (by omega)
  rw [signP_pos] at hs
  by_cases k3 : (0 : Int) < num
  · have k4 : decide (0 < num) = true := by simp; omega
    rw [k4, Bool.true_and] at hs
    ((refine ggb1 (F := _∧_∧_∧_∧_) ⟨k1, k2, z1, z2, k3⟩ hs ?_))
    ((repeat refine AW_seq ?_); (refine wta ?_); simp (disch := omega) only [retQ, resD, oneD, rsv, rs, rsL, rsL_eq_map, List.map_map, bb, bt, zDs, zD, eqCells, simprocAttr, Try.results63])
  · have k4 : decide (0 < num) = false := by simp; omega
    rw [k4, Bool.false_and] at hs
    ((refine ggb1 (F := _∧_∧_∧_∧_) ⟨k1, k2, z1, z2, k3⟩ hs ?_))
    ((repeat refine AW_seq ?_); (refine wta ?_); simp (disch := omega) only [retQ, resD, oneD, rsv, rs, rsL, rsL_eq_map, List.map_map, bb, bt, zDs, zD, eqCells, simprocAttr, Try.results63])
end Go.Proofs.Ytcjmknmlfggblaa.T
