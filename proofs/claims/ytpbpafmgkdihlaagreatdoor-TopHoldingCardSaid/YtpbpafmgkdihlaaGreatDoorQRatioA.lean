import Derived.Test.YtpbpafmgkdihlaaGreatDoorQBase
set_option linter.all false
namespace Go.Proofs.YtpbpafmgkdihlaaGreatDoor
open Go.RowKit
theorem Ybt {P : Program} {f : FuncId} {args : Array Value} {w : World} {n : Nat} {v : Value}
    (h : Calls P f args (w.drewN n) fun e w' => e = .returned v ∧ w.drewN n = w') : Calls P f args (w.drewN n) fun e w'' => e = .returned v ∧ ∃ m, w'' = w.drewN m :=
  h.mono fun _ _ ⟨he, hm⟩ => ⟨he, n, hm.symm⟩
theorem Y8e (n : Int) (h1 : -9223372036854775808 ≤ n) (h2 : n ≤ 9223372036854775807) (w : World) : Calls Tryz.prog 42 #[.int .i64 n] w fun e w' => e = .returned (.int .u64 (max n (-n))) ∧ w = w' := by
 by_cases h : n < 0
 ·have e : max n (-n) = -n := by omega
  have e2 : IntKind.u64.wrap n = n + 18446744073709551616 := by rw [IntKind.wrap_u64]; omega
  have e3 : IntKind.u64.wrap (-(n + 18446744073709551616)) = -n := by rw [IntKind.wrap_u64]; omega
  rw [e]
  go_enter Tryz.func42, Tryz.ntmps42
  go_wp2_with fail
  go_ret
  exact ⟨rfl, rfl⟩
 ·have e : max n (-n) = n := by omega
  rw [e]
  clear e
  go_enter Tryz.func42, Tryz.ntmps42
  go_wp2
  go_ret
  exact ⟨rfl, rfl⟩
set_option maxHeartbeats 400000 in
theorem Yfg (a b : Nat) (ha : a < 18446744073709551616) (hb : b < 18446744073709551616) (w : World) : Calls Tryz.prog 41 #[.int .u64 a, .int .u64 b] w fun e w' => e = .returned (.int .u64 (Nat.gcd a b : Nat)) ∧ ∃ n, w' = w.drewN n := by
 have Ha := Lib.hid ha; have Hb := Lib.hid hb
 clear ha hb
 go_enter Tryz.func41, Tryz.ntmps41
 go_wp2
 go_loopw [0, 1] (fun p q wr => ∃ (x y n : Nat), p = .int .u64 (x : Int) ∧ q = .int .u64 (y : Int) ∧ Hid (Nat.gcd x y = Nat.gcd a b) ∧ Hid (x < 18446744073709551616) ∧ Hid (y < 18446744073709551616) ∧ wr = w.drewN n) (fun _ q _ => (intOf q).toNat)
 case atStart => exact ⟨a, b, 0, rfl, rfl, Lib.hid rfl, Ha, Hb, rfl⟩
 case round =>
  obtain ⟨x, y, n, rfl, rfl, G, Hx, Hy, rfl⟩ := hrel
  have bx : (0 : Int) ≤ (x : Int) ∧ (x : Int) ≤ 18446744073709551615 := by have := Hx.out; omega
  have by' : (0 : Int) ≤ (y : Int) ∧ (y : Int) ≤ 18446744073709551615 := by have := Hy.out; omega
  by_cases z : y = 0
  ·subst z
   have e : x = Nat.gcd a b := by have := G.out; rwa [Nat.gcd_zero_right] at this
   have E := Lib.hid e
   clear e
   go_wp2
   go_ret
   exact ⟨congrArg (fun t : Nat => Ending.returned (.int .u64 (t : Int))) E.out, _, rfl⟩
  ·have z1 : ((y : Int) != 0) = true := by simpa using z
   have z2 : ((y : Int) == 0) = false := by simpa using z
   have z3 : (1 : Int) ≤ (y : Int) := by omega
   have m1 := Nat.mod_lt x (show 0 < y by omega)
   have g : Nat.gcd y (x % y) = Nat.gcd a b := by rw [← G.out, Nat.gcd_comm x y, Nat.gcd_rec y x, Nat.gcd_comm (x % y) y]
   have Hg := Lib.hid g; have Hm := Lib.hid m1
   clear g m1 z
   go_wp2_with fail
   go_quiet (fail)
   refine ⟨⟨_, _, _, _, _, _, _, _, ⟨y, x % y, n + nq, rfl, ?_, Hg, Hy, Lib.hid (Nat.lt_trans Hm.out Hy.out), ?_⟩, rfl⟩, ?_⟩
   ·rw [Int.natCast_emod]
   ·rw [World.drewN_drewN]
   ·
    have := Hm.out
    simp only [Array.getD, intOf]
    simp
    omega
def Y09 (n d : Int) : Bool := decide (1 ≤ d) && decide (d ≤ 1152921504606846976) && decide (-1152921504606846976 ≤ n) && decide (n ≤ 1152921504606846976) && decide (Nat.gcd n.natAbs d.natAbs = 1)
theorem Ywu (n : Int) : max n (-n) = (n.natAbs : Int) := by omega
theorem Ybs (n d : Int) (h1 : -9223372036854775808 ≤ n) (h2 : n ≤ 9223372036854775807) (h3 : 0 ≤ d) (h4 : d ≤ 18446744073709551615) (w : World) :
    Calls Tryz.prog 41 #[.int .u64 (max n (-n)), .int .u64 d] w fun e w' => e = .returned (.int .u64 ((Nat.gcd n.natAbs d.natAbs : Nat) : Int)) ∧ ∃ n, w' = w.drewN n := by
  have h := Yfg n.natAbs d.natAbs (by omega) (by omega) w
  rw [Ywu n]
  rwa [show ((d.natAbs : Nat) : Int) = d by omega] at h
set_option maxHeartbeats 400000 in
theorem Yhf (n d : Int) (w : World) : Calls Tryz.prog 39 #[.agg #[.int .i64 n, .int .i64 d]] w fun e w' => e = .returned (.bool (Y09 n d)) ∧ Below w.heap.size w w' := by
 by_cases h1 : 1 ≤ d
 ·by_cases h2 : d ≤ 1152921504606846976
  ·by_cases h3 : -1152921504606846976 ≤ n
   ·by_cases h4 : n ≤ 1152921504606846976
    ·have e : Y09 n d = decide (Nat.gcd n.natAbs d.natAbs = 1) := by simp [Y09, h1, h2, h3, h4]
     have u : IntKind.u64.wrap d = d := IntWalk.u64_in d (by omega)
     by_cases g : Nat.gcd n.natAbs d.natAbs = 1
     ·have g1 : (((Nat.gcd n.natAbs d.natAbs : Nat) : Int) == 1) = true := by rw [g]; rfl
      have e2 : Y09 n d = true := by rw [e, decide_eq_true g]
      rw [e2]
      clear e e2 g
      go_enter Tryz.func39, Tryz.ntmps39
      go_wp2_with fail
      go_quiet (first | (go_at_call 42; exact Ybt (Y8e n (by omega) (by omega) _)) | (go_at_call 41; exact Calls.quiet_of (Ybs n d (by omega) (by omega) (by omega) (by omega) _)))
      go_wp2
      go_ret
      exact ⟨rfl, blw⟩
     ·have g1 : (((Nat.gcd n.natAbs d.natAbs : Nat) : Int) == 1) = false := by simpa using fun h => g (by exact_mod_cast h)
      have e2 : Y09 n d = false := by rw [e, decide_eq_false g]
      rw [e2]
      clear e e2 g
      go_enter Tryz.func39, Tryz.ntmps39
      go_wp2_with fail
      go_quiet (first | (go_at_call 42; exact Ybt (Y8e n (by omega) (by omega) _)) | (go_at_call 41; exact Calls.quiet_of (Ybs n d (by omega) (by omega) (by omega) (by omega) _)))
      go_wp2
      go_ret
      exact ⟨rfl, blw⟩
    ·have d4 : decide (n ≤ 1152921504606846976) = false := by simpa using h4
     have e : Y09 n d = false := by rw [Y09, d4]; simp only [Bool.and_false, Bool.false_and]
     rw [e]
     clear e
     go_enter Tryz.func39, Tryz.ntmps39
     go_wp2_with fail
     go_quiet (fail)
     go_wp2
     go_ret
     exact ⟨rfl, blw⟩
   ·have d3 : decide (-1152921504606846976 ≤ n) = false := by simpa using h3
    have e : Y09 n d = false := by rw [Y09, d3]; simp only [Bool.and_false, Bool.false_and]
    rw [e]
    clear e
    go_enter Tryz.func39, Tryz.ntmps39
    go_wp2_with fail
    go_quiet (fail)
    go_wp2
    go_ret
    exact ⟨rfl, blw⟩
  ·have d2 : decide (d ≤ 1152921504606846976) = false := by simpa using h2
   have e : Y09 n d = false := by rw [Y09, d2]; simp only [Bool.and_false, Bool.false_and]
   rw [e]
   clear e
   go_enter Tryz.func39, Tryz.ntmps39
   go_wp2_with fail
   go_quiet (fail)
   go_wp2
   go_ret
   exact ⟨rfl, blw⟩
 ·have d1 : decide (1 ≤ d) = false := by simpa using h1
  have e : Y09 n d = false := by rw [Y09, d1]; simp only [Bool.false_and]
  rw [e]
  clear e
  go_enter Tryz.func39, Tryz.ntmps39
  go_wp2_with fail
  go_quiet (fail)
  go_wp2
  go_ret
  exact ⟨rfl, blw⟩
end Go.Proofs.YtpbpafmgkdihlaaGreatDoor
