import Derived.Test.YtcjmknmlfggblaaTB
import Derived.Test.YtcjmknmlfggblaaWRP
import Derived.Test.YtcjmknmlfggblaaWK
set_option linter.all false
namespace Go.Proofs.Ytcjmknmlfggblaa.T
open Go Go.RowKit Lin
set_option linter.unusedSimpArgs false

/-! The words of two words (ratio.wide). -/
theorem wideProduct (a b : Nat) (ha : a < 18446744073709551616) (hb : b < 18446744073709551616) : PRet Try.prog 81 [word a, word b] (uD (a * b)) := by
  have h := mul64 a b (by omega)
  have e1 : (a : Int) * (b : Int) / 18446744073709551616 = uh (a * b) := by unfold uh; rw [← Int.natCast_mul]; rfl
  have e2 : (a : Int) * (b : Int) % 18446744073709551616 = ul (a * b) := by unfold ul; rw [← Int.natCast_mul]; rfl
  rw [e1, e2] at h
  refine PRet.intro 2 fun t => ACall.enter tab_ok Try.func81 rfl rfl Try.ntmps81 (by simp) ?_
  simp only [enterTM]
  ((refine gga1 h ?_))
  ((repeat refine AW_seq ?_); (refine wta ?_); simp (disch := omega) only [retQ, resD, oneD, rsv, rs, rsL, rsL_eq_map, List.map_map, bb, bt, zDs, zD, eqCells, simprocAttr, Try.results81])
theorem widePlus (a b : Nat) (hab : a + b < 340282366920938463463374607431768211456) : PRet Try.prog 82 [uD a, uD b] (uD (a + b)) := by
  have ua := uhl (z := a) (by omega)
  have ub := uhl (z := b) (by omega)
  have us := uhl (z := a + b) hab
  have h1 := add64 (ul a) (ul b) 0 (by omega)
  have e1 : (ul a + ul b + 0) % 18446744073709551616 = ul (a + b) := by omega
  rw [e1] at h1
  have hc : 0 ≤ (ul a + ul b + 0) / 18446744073709551616 ∧ (ul a + ul b + 0) / 18446744073709551616 ≤ 1 := by omega
  have e2 : (uh a + uh b + (ul a + ul b + 0) / 18446744073709551616) % 18446744073709551616 = uh (a + b) := by omega
  generalize (ul a + ul b + 0) / 18446744073709551616 = c at *
  have h2 := add64 (uh a) (uh b) c (by omega)
  rw [e2] at h2
  refine PRet.intro 2 fun t => ACall.enter tab_ok Try.func82 rfl rfl Try.ntmps82 (by simp) ?_
  simp only [enterTM]
  ((refine gga2 h1 h2 ?_))
  ((repeat refine AW_seq ?_); (refine wta ?_); simp (disch := omega) only [retQ, resD, oneD, rsv, rs, rsL, rsL_eq_map, List.map_map, bb, bt, zDs, zD, eqCells, simprocAttr, Try.results82])
theorem wideMinus (a b : Nat) (hab : b ≤ a) (ha : a < 340282366920938463463374607431768211456) : PRet Try.prog 84 [uD a, uD b] (uD (a - b)) := by
  have ua := uhl (z := a) (by omega)
  have ub := uhl (z := b) (by omega)
  have us := uhl (z := a - b) (by omega)
  have h1 := sub64 (ul a) (ul b) 0 (by omega)
  have e1 : (ul a - ul b - 0) % 18446744073709551616 = ul (a - b) := by omega
  rw [e1] at h1
  have hc := bor_01 (ul a) (ul b + 0)
  have e2 : (uh a - uh b - bor (ul a) (ul b + 0)) % 18446744073709551616 = uh (a - b) := by omega
  generalize bor (ul a) (ul b + 0) = c at *
  have h2 := sub64 (uh a) (uh b) c (by omega)
  rw [e2] at h2
  refine PRet.intro 2 fun t => ACall.enter tab_ok Try.func84 rfl rfl Try.ntmps84 (by simp) ?_
  simp only [enterTM]
  ((refine gga2 h1 h2 ?_))
  ((repeat refine AW_seq ?_); (refine wta ?_); simp (disch := omega) only [retQ, resD, oneD, rsv, rs, rsL, rsL_eq_map, List.map_map, bb, bt, zDs, zD, eqCells, simprocAttr, Try.results84])
theorem wideLess (a b : Nat) (ha : a < 340282366920938463463374607431768211456) (hb : b < 340282366920938463463374607431768211456) : PRet Try.prog 83 [uD a, uD b] (bool (decide (a < b))) := by
  have ua := uhl ha
  have ub := uhl hb
  refine PRet.intro 2 fun t => ACall.enter tab_ok Try.func83 rfl rfl Try.ntmps83 (by simp) ?_
  simp only [enterTM]
  by_cases k1 : uh a < uh b
  · ((refine ggb0 k1 ?_))
    ((repeat refine AW_seq ?_); (refine wta ?_); simp (disch := omega) only [retQ, resD, oneD, rsv, rs, rsL, rsL_eq_map, List.map_map, bb, bt, zDs, zD, eqCells, simprocAttr, Try.results83])
    rw [decide_eq_true (by omega)]
  by_cases k2 : uh a = uh b
  · have e2 : (uh a == uh b) = true := by simp [k2]
    by_cases k3 : ul a < ul b
    · ((refine ggb0 (F := _∧_∧_) ⟨k1, e2, k3⟩ ?_))
      ((repeat refine AW_seq ?_); (refine wta ?_); simp (disch := omega) only [retQ, resD, oneD, rsv, rs, rsL, rsL_eq_map, List.map_map, bb, bt, zDs, zD, eqCells, simprocAttr, Try.results83])
      rw [decide_eq_true (by omega)]
    · ((refine ggb0 (F := _∧_∧_) ⟨k1, e2, k3⟩ ?_))
      ((repeat refine AW_seq ?_); (refine wta ?_); simp (disch := omega) only [retQ, resD, oneD, rsv, rs, rsL, rsL_eq_map, List.map_map, bb, bt, zDs, zD, eqCells, simprocAttr, Try.results83])
      rw [decide_eq_false (by omega)]
  · have e2 : (uh a == uh b) = false := by simp [k2]
    ((refine ggb0 (F := _∧_) ⟨k1, e2⟩ ?_))
    ((repeat refine AW_seq ?_); (refine wta ?_); simp (disch := omega) only [retQ, resD, oneD, rsv, rs, rsL, rsL_eq_map, List.map_map, bb, bt, zDs, zD, eqCells, simprocAttr, Try.results83])
    rw [decide_eq_false (by omega)]
theorem over_abs {B H L b : Nat} (hb : 0 < b) (hL : L < B) : (H * B + L) / b = H / b * B + (H % b * B + L) / b ∧ (H * B + L) % b = (H % b * B + L) % b ∧ (H % b * B + L) / b < B := by
  have hm := Nat.mod_lt H hb
  have hdm := Nat.div_add_mod H b
  have e : H * B + L = b * (H / b * B) + (H % b * B + L) := by
    conv => lhs; rw [← hdm]
    rw [Nat.add_mul, Nat.mul_assoc, Nat.add_assoc]
  refine ⟨by rw [e, Nat.mul_add_div hb], by rw [e, Nat.mul_add_mod], Nat.div_lt_of_lt_mul ?_⟩
  have h1 : (H % b + 1) * B ≤ b * B := Nat.mul_le_mul_right _ hm
  rw [Nat.add_mul, Nat.one_mul] at h1
  omega
theorem over_nat {a b : Nat} (hb : 0 < b) :
    (((uh a).tmod b) * 18446744073709551616 + ul a) / (b : Int) = ul (a / b) ∧ (((uh a).tmod b) * 18446744073709551616 + ul a) % (b : Int) = ((a % b : Nat) : Int) ∧ (uh a).tdiv b = uh (a / b) := by
  have m1 : (uh a).tmod b = ((a / 18446744073709551616 % b : Nat) : Int) := rfl
  have m2 : (uh a).tdiv b = ((a / 18446744073709551616 / b : Nat) : Int) := rfl
  rw [m1, m2]
  unfold ul uh
  have ham : a / 18446744073709551616 * 18446744073709551616 + a % 18446744073709551616 = a := Nat.div_add_mod' a _
  have hlo := Nat.mod_lt a (show 18446744073709551616 > 0 by decide)
  obtain ⟨k1, k2, k3⟩ := over_abs (H := a / 18446744073709551616) (b := b) hb hlo
  rw [ham] at k1 k2
  generalize hB : 18446744073709551616 = B at *
  have c1 : ((a / B % b : Nat) : Int) * (18446744073709551616 : Int) + ((a % B : Nat) : Int) = ((a / B % b * B + a % B : Nat) : Int) := by
    rw [Int.natCast_add, Int.natCast_mul, ← hB]; rfl
  rw [c1, ← Int.natCast_ediv, ← Int.natCast_emod, k1, k2]
  have hB0 : 0 < B := by omega
  refine ⟨?_, rfl, ?_⟩
  · congr 1
    rw [Nat.mul_comm (a / B / b) B, Nat.mul_add_mod, Nat.mod_eq_of_lt k3]
  · congr 1
    rw [Nat.mul_comm (a / B / b) B, Nat.mul_add_div hB0, Nat.div_eq_of_lt k3]; rfl
theorem wideOver (a b : Nat) (ha : a < 340282366920938463463374607431768211456) (hb : 0 < b) (hbl : b < 18446744073709551616) : PRet Try.prog 85 [uD a, word b] (.tup [uD (a / b), word (a % b : Nat)]) := by
  obtain ⟨e1, e2, e3⟩ := over_nat (a := a) hb
  have ua := uhl ha
  have hm : 0 ≤ (uh a).tmod b ∧ (uh a).tmod b < b := by
    have m1 : (uh a).tmod b = ((a / 18446744073709551616 % b : Nat) : Int) := rfl
    rw [m1]
    have := Nat.mod_lt (a / 18446744073709551616) hb
    omega
  have h := div64 ((uh a).tmod b) (ul a) b (by omega)
  rw [e1, e2] at h
  have hle : a / b ≤ a := Nat.div_le_self _ _
  have us := uhl (z := a / b) (by omega)
  generalize hr : (uh a).tmod b = r at h hm e1 e2
  have hb0 : ¬ (b : Int) = 0 := by omega
  refine PRet.intro 2 fun t => ACall.enter tab_ok Try.func85 rfl rfl Try.ntmps85 (by simp) ?_
  simp only [enterTM]
  ((refine gga0 ?_))
  ((repeat refine AW_seq ?_); (refine gdzb1 (F := _∧_) ⟨hb0, hr⟩ h ?_))
  ((refine ggb0 (F := _∧_) ⟨e3, hb0⟩ ?_))
  ((repeat refine AW_seq ?_); (refine wta ?_); simp (disch := omega) only [retQ, resD, oneD, rsv, rs, rsL, rsL_eq_map, List.map_map, bb, bt, zDs, zD, eqCells, simprocAttr, Try.results85])
end Go.Proofs.Ytcjmknmlfggblaa.T
