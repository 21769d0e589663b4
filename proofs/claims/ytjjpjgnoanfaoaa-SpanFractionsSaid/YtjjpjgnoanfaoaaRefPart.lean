/- The reference's Part over this seat's program. -/
import Derived.Test.YtjjpjgnoanfaoaaPartPlain
import Derived.Test.YtjjpjgnoanfaoaaRefJ
set_option linter.all false
namespace Go.Proofs.Ytjjpjgnoanfaoaa
open Go.RowKit

theorem ref_DivN (P D : Nat) (hP : P < 340282366920938463463374607431768211456) (hD : 0 < D) (hD2 : D < 18446744073709551616) (w : World) :
    Calls Try.prog 170 #[.agg #[.int .u64 (uh P), .int .u64 (ul P)], .agg #[.int .u64 0, .int .u64 (D : Int)]] w fun e w' =>
      e = .returned (.tuple #[.agg #[.int .u64 (uh (P / D)), .int .u64 (ul (P / D))], .agg #[.int .u64 0, .int .u64 ((P % D : Nat) : Int)]]) ∧ Below w.heap.size w w' := by
  have hr : P % D < D := Nat.mod_lt _ hD
  by_cases hz : uh P = 0
  · have hs : P < 18446744073709551616 := by unfold uh at hz; omega
    have hq : P / D < 18446744073709551616 := Nat.lt_of_le_of_lt (Nat.div_le_self _ _) hs
    have e := ref_Div_small (al := (P : Int)) (bl := (D : Int)) (by omega) (by omega) (by omega) (by omega) w
    rw [uh_small hq, ul_small hq, hz, ul_small hs]
    rw [← Int.natCast_ediv, ← Int.natCast_emod] at e
    exact e
  · have e := ref_Div_big (IsU.split hP) (IsU.small hD2) hD (Or.inl (by simpa using hz)) w
    rwa [uh_small (Nat.lt_trans hr hD2), ul_small (Nat.lt_trans hr hD2)] at e

theorem part_front (n num : Int) (n1 : -1152921504606846976 ≤ n) (n2 : n ≤ 1152921504606846976) (m1 : -1152921504606846976 ≤ num) (m2 : num ≤ 1152921504606846976) :
    n.natAbs * num.natAbs < 340282366920938463463374607431768211456 := by
  have h1 : n.natAbs ≤ 1152921504606846976 := by omega
  have h2 : num.natAbs ≤ 1152921504606846976 := by omega
  have := Nat.mul_le_mul h1 h2
  omega

/-- What Part answers, of the quotient, the rest, the sign. -/
def partF (Q R : Nat) (b up : Bool) : Int × Bool :=
  if 1152921504606846976 < Q + (if (decide (R ≠ 0) && (b != up)) = true then 1 else 0) then (0, false) else
  if b = true then (-((Q + (if (decide (R ≠ 0) && (b != up)) = true then 1 else 0) : Nat) : Int), true) else (((Q + (if (decide (R ≠ 0) && (b != up)) = true then 1 else 0) : Nat) : Int), true)
theorem partF_eq {n num den : Int} {up : Bool} {Q R : Nat} (hQ : n.natAbs * num.natAbs / den.natAbs = Q) (hR : n.natAbs * num.natAbs % den.natAbs = R) {b1 b2 b3 : Bool} (h1 : decide (n < 0) = b1) (h2 : decide (num < 0) = b2) (h3 : decide (den < 0) = b3) :
    partS n num den up = partF Q R (!(!b1 == b2) == b3) up := by
  subst h1 h2 h3
  unfold partS partQ partF
  rw [hQ, hR]
  rfl
theorem part_big {Q R : Nat} {b up : Bool} {v : Int} {ok : Bool} (H : Hid (partF Q R b up = (v, ok))) (k : Nat) (hk : (if (decide (R ≠ 0) && (b != up)) = true then 1 else 0) = k) (h : 1152921504606846976 < Q + k) : v = 0 ∧ ok = false := by
  have hh := H.out
  unfold partF at hh; rw [hk, if_pos h] at hh; cases hh; exact ⟨rfl, rfl⟩
theorem part_neg {Q R : Nat} {b up : Bool} {v : Int} {ok : Bool} (H : Hid (partF Q R b up = (v, ok))) (k : Nat) (hb : b = true) (hk : (if (decide (R ≠ 0) && (b != up)) = true then 1 else 0) = k) (h : Q + k ≤ 1152921504606846976) {x : Int} (hx : x = ((Q + k : Nat) : Int)) : v = -x ∧ ok = true := by
  have hh := H.out
  unfold partF at hh; rw [hk, if_neg (by omega), if_pos hb, ← hx] at hh; cases hh; exact ⟨rfl, rfl⟩
theorem part_pos {Q R : Nat} {b up : Bool} {v : Int} {ok : Bool} (H : Hid (partF Q R b up = (v, ok))) (k : Nat) (hb : b = false) (hk : (if (decide (R ≠ 0) && (b != up)) = true then 1 else 0) = k) (h : Q + k ≤ 1152921504606846976) {x : Int} (hx : x = ((Q + k : Nat) : Int)) : v = x ∧ ok = true := by
  have hh := H.out
  unfold partF at hh; rw [hk, if_neg (by omega), if_neg (by simp [hb]), ← hx] at hh; cases hh; exact ⟨rfl, rfl⟩

theorem ret2_eq {v a : Int} {ok c : Bool} (h : v = a ∧ ok = c) : Ending.returned (.tuple #[.int .i64 a, .bool c]) = .returned (.tuple #[.int .i64 v, .bool ok]) := by rw [h.1, h.2]

end Go.Proofs.Ytjjpjgnoanfaoaa
