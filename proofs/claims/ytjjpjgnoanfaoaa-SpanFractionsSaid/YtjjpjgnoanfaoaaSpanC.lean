/- Package span's quotients of products over this seat's program: size, scaled. -/
import Derived.Test.YtjjpjgnoanfaoaaSpanA
import Derived.Test.YtjjpjgnoanfaoaaDiv
set_option linter.all false
namespace Go.Proofs.Ytjjpjgnoanfaoaa
open Go.RowKit

theorem span_size (n : Int) (h1 : -1152921504606846976 ≤ n) (h2 : n ≤ 1152921504606846976) (w : World) : Calls Try.prog 174 #[.int .i64 n] w fun e w' => e = .returned (.int .u64 (max n (-n))) ∧ w = w' := by
  have m1 : 0 ≤ max n (-n) := by omega
  have m2 : max n (-n) ≤ 1152921504606846976 := by omega
  go_enter Try.func174, Try.ntmps174
  go_wp2
  go_ret
  exact ⟨rfl, rfl⟩

/-- Long division of a product by a number. -/
theorem prod_div (P y : Int) (h0 : 0 ≤ P) (h1 : P / 18446744073709551616 < y) (h2 : y < 18446744073709551616) (w : World) :
    Calls Try.prog 148 #[.int .u64 (P / 18446744073709551616), .int .u64 (P % 18446744073709551616), .int .u64 y] w fun e w' => e = .returned (.tuple #[.int .u64 (P / y), .int .u64 (P % y)]) ∧ ∃ n, w' = w.drewN n := by
  refine (bits_Div64 _ _ y (by omega) h1 h2 (by omega) (by omega) w).mono ?_
  rintro e w' ⟨rfl, h⟩
  have e1 : P / 18446744073709551616 * 18446744073709551616 + P % 18446744073709551616 = P := by omega
  exact ⟨by rw [e1], h⟩

/-- Whether the quotient of a product is negative. -/
def sgnS (a b c : Int) : Bool := (!(!decide (a < 0) == decide (b < 0)) == decide (c < 0))
def scaledS (a b c : Int) : Int × Int × Bool :=
  if 1152921504606846976 < max a (-a) * max b (-b) / max c (-c) then (0, 0, false) else
  if sgnS a b c = true then
    (if 0 < max a (-a) * max b (-b) % max c (-c) then
      (-(max a (-a) * max b (-b) / max c (-c) + 1), -(max a (-a) * max b (-b) / max c (-c)), wib (-(max a (-a) * max b (-b) / max c (-c) + 1)) && wib (-(max a (-a) * max b (-b) / max c (-c))))
    else (-(max a (-a) * max b (-b) / max c (-c)), -(max a (-a) * max b (-b) / max c (-c)), wib (-(max a (-a) * max b (-b) / max c (-c))) && wib (-(max a (-a) * max b (-b) / max c (-c)))))
  else
    (if 0 < max a (-a) * max b (-b) % max c (-c) then
      (max a (-a) * max b (-b) / max c (-c), max a (-a) * max b (-b) / max c (-c) + 1, wib (max a (-a) * max b (-b) / max c (-c)) && wib (max a (-a) * max b (-b) / max c (-c) + 1))
    else (max a (-a) * max b (-b) / max c (-c), max a (-a) * max b (-b) / max c (-c), wib (max a (-a) * max b (-b) / max c (-c)) && wib (max a (-a) * max b (-b) / max c (-c))))

set_option maxHeartbeats 400000 in
theorem span_scaled (a b c : Int) (a1 : -1152921504606846976 ≤ a) (a2 : a ≤ 1152921504606846976) (b1 : -1152921504606846976 ≤ b) (b2 : b ≤ 1152921504606846976) (c1 : -1152921504606846976 ≤ c) (c2 : c ≤ 1152921504606846976) (c0 : c ≠ 0) (w : World) :
    Calls Try.prog 138 #[.int .i64 a, .int .i64 b, .int .i64 c] w fun e w' => e = .returned (.tuple #[.int .i64 (scaledS a b c).1, .int .i64 (scaledS a b c).2.1, .bool (scaledS a b c).2.2]) ∧ ∃ n, w' = w.drewN n := by
  have A1 : 0 ≤ max a (-a) := by omega
  have A2 : max a (-a) ≤ 1152921504606846976 := by omega
  have B1 : 0 ≤ max b (-b) := by omega
  have B2 : max b (-b) ≤ 1152921504606846976 := by omega
  have C1 : 1 ≤ max c (-c) := by omega
  have C2 : max c (-c) ≤ 1152921504606846976 := by omega
  have P0 : 0 ≤ max a (-a) * max b (-b) := Int.mul_nonneg A1 B1
  generalize hP : max a (-a) * max b (-b) = P at *
  have HP := Lib.hid hP
  clear hP
  by_cases t : max c (-c) ≤ P / 18446744073709551616
  · have e : scaledS a b c = (0, 0, false) := by
      have : 1152921504606846976 < P / max c (-c) := by
        rw [Int.lt_iff_add_one_le, Int.le_ediv_iff_mul_le (by omega)]
        have : (1152921504606846976 + 1) * max c (-c) ≤ (1152921504606846976 + 1) * (P / 18446744073709551616) := Int.mul_le_mul_of_nonneg_left t (by omega)
        omega
      rw [scaledS, HP.out, if_pos this]
    rw [e]
    clear e
    go_enter Try.func138, Try.ntmps138
    go_wp2_with (first | (go_at_call 174; refine (span_size _ (by omega) (by omega) _).mono ?_; rintro e w' ⟨rfl, rfl⟩) | (go_at_call 140; refine (bits_Mul64 _ _ (by omega) (by omega) (by omega) (by omega) _).mono ?_; rw [HP.out]; rintro e w' ⟨rfl, rfl⟩))
    go_ret3
    exact ⟨rfl, 0, rfl⟩
  · have Q0 : 0 ≤ P / max c (-c) := Int.ediv_nonneg P0 (by omega)
    have R0 : 0 ≤ P % max c (-c) := Int.emod_nonneg _ (by omega)
    have R1 : P % max c (-c) < max c (-c) := Int.emod_lt_of_pos _ (by omega)
    by_cases u : 1152921504606846976 < P / max c (-c)
    · have e : scaledS a b c = (0, 0, false) := by rw [scaledS, HP.out, if_pos u]
      rw [e]
      clear e
      have Q1 : P / max c (-c) ≤ 18446744073709551615 := by
        have : P / max c (-c) < 18446744073709551616 := by
          rw [Int.ediv_lt_iff_lt_mul (by omega)]
          omega
        omega
      go_enter Try.func138, Try.ntmps138
      go_wp2_with (first | (go_at_call 174; refine (span_size _ (by omega) (by omega) _).mono ?_; rintro e w' ⟨rfl, rfl⟩) | (go_at_call 140; refine (bits_Mul64 _ _ (by omega) (by omega) (by omega) (by omega) _).mono ?_; rw [HP.out]; rintro e w' ⟨rfl, rfl⟩) | (go_at_call 148; refine (prod_div P _ P0 (by omega) (by omega) _).mono ?_; rintro e w' ⟨rfl, n, rfl⟩))
      go_ret3
      exact ⟨rfl, _, rfl⟩
    · have e : scaledS a b c = if sgnS a b c = true then
          (if 0 < P % max c (-c) then (-(P / max c (-c) + 1), -(P / max c (-c)), wib (-(P / max c (-c) + 1)) && wib (-(P / max c (-c)))) else (-(P / max c (-c)), -(P / max c (-c)), wib (-(P / max c (-c))) && wib (-(P / max c (-c)))))
        else (if 0 < P % max c (-c) then (P / max c (-c), P / max c (-c) + 1, wib (P / max c (-c)) && wib (P / max c (-c) + 1)) else (P / max c (-c), P / max c (-c), wib (P / max c (-c)) && wib (P / max c (-c)))) := by
        rw [scaledS, HP.out, if_neg u]
      rw [e]
      clear e
      cases hs : sgnS a b c <;> by_cases v : 0 < P % max c (-c)
      all_goals
        first | rw [if_pos rfl] | rw [if_neg (by decide)]
        first | rw [if_pos v] | rw [if_neg v]
        unfold sgnS at hs
        go_enter Try.func138, Try.ntmps138
        go_wp2_with (first | (go_at_call 174; refine (span_size _ (by omega) (by omega) _).mono ?_; rintro e w' ⟨rfl, rfl⟩) | (go_at_call 84; refine (span_within _ _).mono ?_; rintro e w' ⟨rfl, rfl⟩) | (go_at_call 140; refine (bits_Mul64 _ _ (by omega) (by omega) (by omega) (by omega) _).mono ?_; rw [HP.out]; rintro e w' ⟨rfl, rfl⟩) | (go_at_call 148; refine (prod_div P _ P0 (by omega) (by omega) _).mono ?_; rintro e w' ⟨rfl, n, rfl⟩))
        all_goals (go_ret3; exact ⟨by simp [*], _, rfl⟩)
end Go.Proofs.Ytjjpjgnoanfaoaa
