import Derived.Test.YtpbpafmgkdihlaaGreatDoorQDivCore
set_option linter.all false
namespace Go.Proofs.YtpbpafmgkdihlaaGreatDoor
open Go.RowKit
theorem Yzb (a b k : Nat) (h : b < 2 ^ k) : (a * 2 ^ k) ||| b = a * 2 ^ k + b := by
 rw [← Nat.shiftLeft_eq, Nat.shiftLeft_add_eq_or_of_lt h]
theorem Yhr (y : Nat) (h0 : 0 < y) (h2 : y < 18446744073709551616) : ∃ s, Lib.bitLen y + s = 64 ∧ 9223372036854775808 ≤ y * 2 ^ s ∧ y * 2 ^ s < 18446744073709551616 := by
 obtain ⟨a, b, c⟩ := Lib.bitLenAux_bounds 64 y h2 (by omega)
 have hL : Lib.bitLenAux 64 y ≤ 64 := Lib.bitLen_le y 64 (Nat.le_refl _) h2
 refine ⟨64 - Lib.bitLen y, ?_, ?_, ?_⟩
 ·unfold Lib.bitLen; omega
 ·unfold Lib.bitLen
  generalize Lib.bitLenAux 64 y = L at a b c hL
  have e : 2 ^ (L - 1) * 2 ^ (64 - L) = 9223372036854775808 := by rw [← Nat.pow_add, show L - 1 + (64 - L) = 63 by omega]
  rw [← e]
  exact Nat.mul_le_mul_right _ b
 ·unfold Lib.bitLen
  generalize Lib.bitLenAux 64 y = L at a b c hL
  have e : 2 ^ L * 2 ^ (64 - L) = 18446744073709551616 := by rw [← Nat.pow_add, show L + (64 - L) = 64 by omega]
  rw [← e]
  exact Nat.mul_lt_mul_of_pos_right c (Nat.pow_pos (by omega))
theorem Ycm (u3 u1 q1 Y v : Nat) (hY : Y < 18446744073709551616) (hY0 : 0 < Y) (h1 : q1 = (u3 * 4294967296 + u1) / Y) (hv : v = (u3 * 4294967296 + u1) % Y) :
    IntKind.u64.wrap (IntKind.u64.wrap (IntKind.u64.wrap ((u3 : Int) * 4294967296) + (u1 : Int)) - IntKind.u64.wrap ((q1 : Int) * (Y : Int))) = (v : Int) := by
  have e := Nat.div_add_mod' (u3 * 4294967296 + u1) Y
  have b : v < Y := by rw [hv]; exact Nat.mod_lt _ hY0
  rw [← h1, ← hv] at e
  rw [← Int.natCast_mul]
  generalize q1 * Y = P at e ⊢
  simp only [IntKind.wrap_u64]
  omega
theorem Yqr (hi lo y : Nat) (h0 : 1 ≤ hi) (h1 : hi < y) (h2 : y < 18446744073709551616) (h3 : lo < 18446744073709551616) (w : World) :
    Calls Tryz.prog 169 #[.int .u64 hi, .int .u64 lo, .int .u64 y] w fun e w' => e = .returned (.tuple #[.int .u64 (((hi * 18446744073709551616 + lo) / y : Nat) : Int), .int .u64 (((hi * 18446744073709551616 + lo) % y : Nat) : Int)]) ∧ w = w' := by
  obtain ⟨s, hs, n1, n2⟩ := Yhr y (by omega) h2
  have hp : 0 < 2 ^ s := Nat.pow_pos (by omega)
  have s64 : s ≤ 64 := by omega
  have epp : 2 ^ (64 - s) * 2 ^ s = 18446744073709551616 := by rw [← Nat.pow_add, show 64 - s + s = 64 by omega]
  have hpq : 0 < 2 ^ (64 - s) := Nat.pow_pos (by omega)
  obtain ⟨Y, hY⟩ : ∃ Y, Y = y * 2 ^ s := ⟨_, rfl⟩
  obtain ⟨L, hL⟩ : ∃ L, L = lo * 2 ^ s % 18446744073709551616 := ⟨_, rfl⟩
  obtain ⟨c, hc⟩ : ∃ c, c = lo * 2 ^ s / 18446744073709551616 := ⟨_, rfl⟩
  have bc : c < 2 ^ s := by
    rw [hc, Nat.div_lt_iff_lt_mul (by omega), Nat.mul_comm (2 ^ s)]
    exact Nat.mul_lt_mul_of_pos_right h3 hp
  have cdiv : lo / 2 ^ (64 - s) = c := by rw [hc, ← epp, Nat.mul_div_mul_right _ _ hp]
  have hhi : hi * 2 ^ s + 2 ^ s ≤ Y := by
    have : (hi + 1) * 2 ^ s ≤ y * 2 ^ s := Nat.mul_le_mul_right _ h1
    rw [Nat.add_mul, Nat.one_mul] at this
    omega
  have total : (hi * 2 ^ s + c) * 18446744073709551616 + L = (hi * 18446744073709551616 + lo) * 2 ^ s := by
    have a2 : (hi * 18446744073709551616 + lo) * 2 ^ s = hi * 2 ^ s * 18446744073709551616 + lo * 2 ^ s := by
      rw [Nat.add_mul, Nat.mul_right_comm]
    rw [a2]
    omega
  have yb : Y / 4294967296 * 4294967296 + Y % 4294967296 = Y := Nat.div_add_mod' Y _
  have lb : L / 4294967296 * 4294967296 + L % 4294967296 = L := Nat.div_add_mod' L _
  have bL : L < 18446744073709551616 := by omega
  have t1 := Knuth.whole Y (hi * 2 ^ s + c) (L / 4294967296) (L % 4294967296) (by omega)
  have t2 : ((hi * 2 ^ s + c) * 4294967296 + L / 4294967296) * 4294967296 + L % 4294967296 = (hi * 18446744073709551616 + lo) * 2 ^ s := by rw [← total, Knuth.glue]
  rw [t2] at t1
  have t3 := Knuth.scaled (hi * 18446744073709551616 + lo) y (2 ^ s) hp
  rw [← hY] at t3
  obtain ⟨v, hv⟩ : ∃ v, v = ((hi * 2 ^ s + c) * 4294967296 + L / 4294967296) % Y := ⟨_, rfl⟩
  have bv : v < Y := by rw [hv]; exact Nat.mod_lt _ (by omega)
  have lt1 := Knuth.quot_lt (Y / 4294967296) (Y % 4294967296) (hi * 2 ^ s + c) (L / 4294967296) (by omega) (by omega)
  have lt0 := Knuth.quot_lt (Y / 4294967296) (Y % 4294967296) v (L % 4294967296) (by omega) (by omega)
  rw [yb] at lt1 lt0
  have core := Ym7 hi lo y s Y (Y / 4294967296) (Y % 4294967296) L (L / 4294967296) (L % 4294967296) (hi * 2 ^ s + c)
    (((hi * 2 ^ s + c) * 4294967296 + L / 4294967296) / Y) v ((v * 4294967296 + L % 4294967296) / Y) ((v * 4294967296 + L % 4294967296) % Y)
    ((hi * 18446744073709551616 + lo) / y) h0 h1 h2 w (by simpa using hs)
    (by rw [IntKind.wrap_u64]; have e : (y : Int) * 2 ^ s = ((y * 2 ^ s : Nat) : Int) := by simp
        rw [e, ← hY]; omega)
    (by omega) (Mul64.maskN Y (by omega)) (by omega)
    (by rw [IntKind.wrap_u64]; have e : (lo : Int) * 2 ^ s = ((lo * 2 ^ s : Nat) : Int) := by simp
        rw [e, hL]; omega)
    (by omega) (Mul64.maskN L bL)
    (by rw [IntKind.wrap_u64]
        have e : (hi : Int) * 2 ^ s = ((hi * 2 ^ s : Nat) : Int) := by simp
        have e2 : (lo : Int) / 2 ^ (64 - s) = ((lo / 2 ^ (64 - s) : Nat) : Int) := by simp
        rw [e, e2, cdiv]
        have e3 : ((hi * 2 ^ s : Nat) : Int) % 18446744073709551616 = ((hi * 2 ^ s : Nat) : Int) := by omega
        rw [e3, bits_or_u64_nat _ _ (by omega) (by omega), Yzb _ _ _ bc])
    (by omega) (by omega) (by omega) (by omega) (by omega) (by omega) (by omega) (by omega)
    (Lib.hid (by rw [yb])) (Lib.hid (by rw [yb]))
    (Ycm _ _ _ Y v (by omega) (by omega) rfl hv) (Ycm _ _ _ Y _ (by omega) (by omega) rfl rfl) lt1 lt0
    (by rw [← t3.1, ← t1.1, ← hv]; simp)
  refine core.mono ?_
  rintro e w' ⟨rfl, rfl⟩
  refine ⟨?_, rfl⟩
  congr 4
  rw [← t3.2, ← t1.2, ← hv]
  simp
set_option maxHeartbeats 400000 in
theorem Yii (lo y : Int) (h1 : 1 ≤ y) (h2 : y < 18446744073709551616) (h3 : 0 ≤ lo) (h4 : lo < 18446744073709551616) (w : World) :
    Calls Tryz.prog 169 #[.int .u64 0, .int .u64 lo, .int .u64 y] w fun e w' => e = .returned (.tuple #[.int .u64 (lo / y), .int .u64 (lo % y)]) ∧ ∃ n, w' = w.drewN n := by
  have y0 : (y == 0) = false := by simp; omega
  go_enter Tryz.func169, Tryz.ntmps169
  go_wp2
  go_quiet (fail)
  go_wp2
  go_ret2
  exact ⟨rfl, _, rfl⟩
theorem Yml (hi lo y : Int) (h0 : 0 ≤ hi) (h1 : hi < y) (h2 : y < 18446744073709551616) (h3 : 0 ≤ lo) (h4 : lo < 18446744073709551616) (w : World) :
    Calls Tryz.prog 169 #[.int .u64 hi, .int .u64 lo, .int .u64 y] w fun e w' => e = .returned (.tuple #[.int .u64 ((hi * 18446744073709551616 + lo) / y), .int .u64 ((hi * 18446744073709551616 + lo) % y)]) ∧ ∃ n, w' = w.drewN n := by
  by_cases z : hi = 0
  · subst z
    refine (Yii lo y (by omega) h2 h3 h4 w).mono ?_
    rintro e w' ⟨rfl, h⟩
    refine ⟨by simp, h⟩
  · obtain ⟨hi, rfl⟩ := Int.eq_ofNat_of_zero_le h0
    obtain ⟨lo, rfl⟩ := Int.eq_ofNat_of_zero_le h3
    obtain ⟨y, rfl⟩ := Int.eq_ofNat_of_zero_le (show 0 ≤ y by omega)
    refine (Yqr hi lo y (by omega) (by omega) (by omega) (by omega) w).mono ?_
    rintro e w' ⟨rfl, rfl⟩
    exact ⟨by simp, 0, rfl⟩
end Go.Proofs.YtpbpafmgkdihlaaGreatDoor
