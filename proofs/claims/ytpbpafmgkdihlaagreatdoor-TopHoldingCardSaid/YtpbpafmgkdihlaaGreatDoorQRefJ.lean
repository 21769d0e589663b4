import Derived.Test.YtpbpafmgkdihlaaGreatDoorQBase
import Derived.Deep.LoopGhost
import Derived.Deep.DeepCutAuto
import Derived.Deep.CutBlock
import Derived.Laws.StructEq
import Derived.WalkSmall
set_option linter.all false
section
namespace Go.Proofs.YtpbpafmgkdihlaaGreatDoor
open Go.RowKit
def uh (n : Nat) : Int := ((n / 18446744073709551616 : Nat) : Int)
def ul (n : Nat) : Int := ((n % 18446744073709551616 : Nat) : Int)
def IsU (n : Nat) (h l : Int) : Prop := 0 ≤ h ∧ h ≤ 18446744073709551615 ∧ 0 ≤ l ∧ l ≤ 18446744073709551615 ∧ (n : Int) = h * 18446744073709551616 + l
theorem IsU.split {n : Nat} (h : n < 340282366920938463463374607431768211456) : IsU n (uh n) (ul n) := by
 unfold IsU uh ul; omega
theorem IsU.small {n : Nat} (h : n < 18446744073709551616) : IsU n 0 (n : Int) := by
 unfold IsU; omega
theorem IsU.hi {n : Nat} {h l : Int} (k : IsU n h l) : h = uh n := by
 unfold IsU at k; unfold uh; omega
theorem IsU.lo {n : Nat} {h l : Int} (k : IsU n h l) : l = ul n := by
 unfold IsU at k; unfold ul; omega
theorem IsU.lt {n : Nat} {h l : Int} (k : IsU n h l) : n < 340282366920938463463374607431768211456 := by
 unfold IsU at k; omega
theorem Ys2 {n : Nat} (h : n < 18446744073709551616) : uh n = 0 := by unfold uh; omega
theorem Ys1 {n : Nat} (h : n < 18446744073709551616) : ul n = (n : Int) := by unfold ul; omega
theorem Ydb (n : Int) (h1 : -9223372036854775808 ≤ n) (h2 : n ≤ 9223372036854775807) (w : World) : Calls Tryz.prog 37 #[.int .i64 n] w fun e w' => e = .returned (.int .u64 (n.natAbs : Nat)) ∧ w = w' := by
 by_cases h : n < 0
 ·have e : ((n.natAbs : Nat) : Int) = -n := by omega
  have e2 : IntKind.u64.wrap n = n + 18446744073709551616 := by rw [IntKind.wrap_u64]; omega
  have e3 : IntKind.u64.wrap (-(n + 18446744073709551616)) = -n := by rw [IntKind.wrap_u64]; omega
  rw [e]
  clear e
  go_enter Tryz.func37, Tryz.ntmps37
  go_wp2_with fail
  go_ret
  exact ⟨rfl, rfl⟩
 ·have e : ((n.natAbs : Nat) : Int) = n := by omega
  rw [e]
  clear e
  go_enter Tryz.func37, Tryz.ntmps37
  go_wp2
  go_ret
  exact ⟨rfl, rfl⟩
theorem Ydc {A B : Nat} {ah al bh bl : Int} (hA : IsU A ah al) (hB : IsU B bh bl) (w : World) : Calls Tryz.prog 38 #[.agg #[.int .u64 ah, .int .u64 al], .agg #[.int .u64 bh, .int .u64 bl]] w fun e w' =>
    e = .returned (.bool (decide (A < B))) ∧ Below w.heap.size w w' := by
  obtain ⟨a1, a2, a3, a4, a5⟩ := hA; obtain ⟨b1, b2, b3, b4, b5⟩ := hB
  by_cases h : ah < bh
  · have e : decide (A < B) = true := decide_eq_true (by omega)
    rw [e]
    clear e a5 b5
    go_enter Tryz.func38, Tryz.ntmps38
    go_wp2
    go_ret
    exact ⟨rfl, blw⟩
  · by_cases h2 : ah = bh
    · subst h2
      by_cases h3 : al < bl
      · have e : decide (A < B) = true := decide_eq_true (by omega)
        rw [e]
        clear e a5 b5
        go_enter Tryz.func38, Tryz.ntmps38
        go_wp2
        go_ret
        exact ⟨rfl, blw⟩
      · have e : decide (A < B) = false := decide_eq_false (by omega)
        rw [e]
        clear e a5 b5
        go_enter Tryz.func38, Tryz.ntmps38
        go_wp2
        go_ret
        exact ⟨rfl, blw⟩
    · have e : decide (A < B) = false := decide_eq_false (by omega)
      have h4 : (ah == bh) = false := by simpa using h2
      rw [e]
      clear e a5 b5 h2
      go_enter Tryz.func38, Tryz.ntmps38
      go_wp2
      go_ret
      exact ⟨rfl, blw⟩
theorem Ysk {A B : Nat} {ah al bh bl : Int} (hA : IsU A ah al) (hB : IsU B bh bl) (hs : A + B < 340282366920938463463374607431768211456) (w : World) :
    Calls Tryz.prog 182 #[.agg #[.int .u64 ah, .int .u64 al], .agg #[.int .u64 bh, .int .u64 bl]] w fun e w' =>
    e = .returned (.agg #[.int .u64 (uh (A + B)), .int .u64 (ul (A + B))]) ∧ Below w.heap.size w w' := by
  obtain ⟨a1, a2, a3, a4, a5⟩ := hA; obtain ⟨b1, b2, b3, b4, b5⟩ := hB
  by_cases c : al + bl ≤ 18446744073709551615
  · have k : IsU (A + B) (ah + bh) (al + bl) := ⟨by omega, by omega, by omega, by omega, by omega⟩
    rw [← k.hi, ← k.lo]
    have c2 : ah + bh ≤ 18446744073709551615 := by omega
    clear k a5 b5 hs
    go_enter Tryz.func182, Tryz.ntmps182
    go_wp2
    refine bodyPost_ret (by simp only [results, Tryz.results182]; go_simp; try rfl) rfl ?_
    exact ⟨rfl, blw⟩
  · have k : IsU (A + B) (ah + bh + 1) (al + bl - 18446744073709551616) := ⟨by omega, by omega, by omega, by omega, by omega⟩
    rw [← k.hi, ← k.lo]
    have c2 : ah + bh + 1 ≤ 18446744073709551615 := by omega
    have e : IntKind.u64.wrap (al + bl) = al + bl - 18446744073709551616 := by rw [IntKind.wrap_u64]; omega
    clear k a5 b5 hs
    go_enter Tryz.func182, Tryz.ntmps182
    go_wp2
    refine bodyPost_ret (by simp only [results, Tryz.results182]; go_simp; try rfl) rfl ?_
    exact ⟨rfl, blw⟩
theorem Yfd {A B C : Nat} {ah al bh bl : Int} (hA : IsU A ah al) (hB : IsU B bh bl) (hC : ((A : Int) - (B : Int)) % 340282366920938463463374607431768211456 = (C : Int)) (w : World) :
    Calls Tryz.prog 181 #[.agg #[.int .u64 ah, .int .u64 al], .agg #[.int .u64 bh, .int .u64 bl]] w fun e w' =>
    e = .returned (.agg #[.int .u64 (uh C), .int .u64 (ul C)]) ∧ Below w.heap.size w w' := by
  obtain ⟨a1, a2, a3, a4, a5⟩ := hA; obtain ⟨b1, b2, b3, b4, b5⟩ := hB
  by_cases c : al < bl
  · have k : IsU C (IntKind.u64.wrap (IntKind.u64.wrap (ah - bh) - 1)) (IntKind.u64.wrap (al - bl)) := by
      simp only [IsU, IntKind.wrap_u64]; omega
    rw [← k.hi, ← k.lo]
    clear k a5 b5 hC
    go_enter Tryz.func181, Tryz.ntmps181
    go_wp2_with fail
    refine bodyPost_ret (by simp only [results, Tryz.results181]; go_simp; try rfl) rfl ?_
    exact ⟨rfl, blw⟩
  · have k : IsU C (IntKind.u64.wrap (ah - bh)) (al - bl) := by
      simp only [IsU, IntKind.wrap_u64]; omega
    rw [← k.hi, ← k.lo]
    clear k a5 b5 hC
    go_enter Tryz.func181, Tryz.ntmps181
    go_wp2_with fail
    refine bodyPost_ret (by simp only [results, Tryz.results181]; go_simp; try rfl) rfl ?_
    exact ⟨rfl, blw⟩
theorem Y9c {A : Nat} {ah al : Int} (hA : IsU A ah al) (w : World) : Calls Tryz.prog 180 #[.agg #[.int .u64 ah, .int .u64 al]] w fun e w' =>
    e = .returned (.agg #[.int .u64 (uh (A / 2)), .int .u64 (ul (A / 2))]) ∧ Below w.heap.size w w' := by
  obtain ⟨a1, a2, a3, a4, a5⟩ := hA
  have k : IsU (A / 2) (ah / 2) (al / 2 + IntKind.u64.wrap (ah * 9223372036854775808)) := by
    simp only [IsU, IntKind.wrap_u64]; omega
  rw [← k.hi, ← k.lo]
  obtain ⟨k1, k2, k3, k4, k5⟩ := k
  clear a5 k5
  go_enter Tryz.func180, Tryz.ntmps180
  go_wp2_with fail
  refine bodyPost_ret (by simp only [results, Tryz.results180]; go_simp; try rfl) rfl ?_
  exact ⟨rfl, blw⟩
theorem mul_low (x y : Nat) (hx : x < 18446744073709551616) (hy : y < 18446744073709551616) :
    ((x % 4294967296 * (y / 4294967296) + (x / 4294967296 * (y % 4294967296) + x % 4294967296 * (y % 4294967296) / 4294967296) % 4294967296) * 4294967296) % 18446744073709551616 + x % 4294967296 * (y % 4294967296) % 4294967296 = x * y % 18446744073709551616 := by
  have e : x * y = (x / 4294967296) * (y / 4294967296) * (4294967296 * 4294967296) + ((x / 4294967296) * (y % 4294967296) + (x % 4294967296) * (y / 4294967296)) * 4294967296 + (x % 4294967296) * (y % 4294967296) := by
    rw [← Lib.split_mul, Nat.div_add_mod' x 4294967296, Nat.div_add_mod' y 4294967296]
  have ha := Lib.half_mul_le (a := x / 4294967296) (b := y / 4294967296) (by omega) (by omega)
  have hb := Lib.half_mul_le (a := x / 4294967296) (b := y % 4294967296) (by omega) (by omega)
  have hc := Lib.half_mul_le (a := x % 4294967296) (b := y / 4294967296) (by omega) (by omega)
  have hd := Lib.half_mul_le (a := x % 4294967296) (b := y % 4294967296) (by omega) (by omega)
  rw [e]
  clear e
  generalize (x / 4294967296) * (y / 4294967296) = a at *
  generalize (x / 4294967296) * (y % 4294967296) = b at *
  generalize (x % 4294967296) * (y / 4294967296) = c at *
  generalize (x % 4294967296) * (y % 4294967296) = d at *
  omega
set_option maxHeartbeats 1000000 in
theorem Ywj (x y : Nat) (hx : x < 18446744073709551616) (hy : y < 18446744073709551616) (w : World) :
    Calls Tryz.prog 36 #[.int .u64 x, .int .u64 y] w fun e w' => e = .returned (.agg #[.int .u64 (uh (x * y)), .int .u64 (ul (x * y))]) ∧ Below w.heap.size w w' := by
  obtain ⟨bd, bt, bw, hhi⟩ := Lib.mul64_hi x y hx hy
  have hlo := mul_low x y hx hy
  have ba := Lib.half_mul_le (a := x / 4294967296) (b := y / 4294967296) (by omega) (by omega)
  have bb := Lib.half_mul_le (a := x / 4294967296) (b := y % 4294967296) (by omega) (by omega)
  have bc := Lib.half_mul_le (a := x % 4294967296) (b := y / 4294967296) (by omega) (by omega)
  have ba' : x / 4294967296 * (y / 4294967296) < 18446744073709551616 := by omega
  have bb' : x / 4294967296 * (y % 4294967296) < 18446744073709551616 := by omega
  have bc' : x % 4294967296 * (y / 4294967296) < 18446744073709551616 := by omega
  have bw' : x % 4294967296 * (y / 4294967296) + (x / 4294967296 * (y % 4294967296) + x % 4294967296 * (y % 4294967296) / 4294967296) % 4294967296 < 18446744073709551616 := by omega
  rw [Nat.add_comm ((x / 4294967296 * (y % 4294967296) + x % 4294967296 * (y % 4294967296) / 4294967296) % 4294967296)] at hhi
  have b1 : x / 4294967296 * (y / 4294967296) + (x / 4294967296 * (y % 4294967296) + x % 4294967296 * (y % 4294967296) / 4294967296) / 4294967296 < 18446744073709551616 := by omega
  have b2 : x / 4294967296 * (y / 4294967296) + (x / 4294967296 * (y % 4294967296) + x % 4294967296 * (y % 4294967296) / 4294967296) / 4294967296 + (x % 4294967296 * (y / 4294967296) + (x / 4294967296 * (y % 4294967296) + x % 4294967296 * (y % 4294967296) / 4294967296) % 4294967296) / 4294967296 < 18446744073709551616 := by omega
  have mulL : ∀ a : Nat, (a : Int) * 4294967296 = ((a * 4294967296 : Nat) : Int) := fun a => by omega
  have b3 : ((x % 4294967296 * (y / 4294967296) + (x / 4294967296 * (y % 4294967296) + x % 4294967296 * (y % 4294967296) / 4294967296) % 4294967296) * 4294967296) % 18446744073709551616 + x % 4294967296 * (y % 4294967296) % 4294967296 < 18446744073709551616 := by
    rw [hlo]; exact Nat.mod_lt _ (by decide)
  have HL := Lib.hid hlo; have HH := Lib.hid hhi; have ML := Lib.hid mulL
  clear hlo hhi mulL
  go_enter Tryz.func36, Tryz.ntmps36
  go_wp2
  simp only [Mul64.maskN x hx, Mul64.maskN y hy, Mul64.divN, Mul64.mulN, Mul64.addN, Mul64.wrapN _ bd, Mul64.wrapN _ bb', Mul64.wrapN _ bt, Mul64.maskN _ bt, Mul64.wrapN _ bc', Mul64.wrapN _ bw', Mul64.wrapN _ ba', Mul64.maskN _ bd, Mul64.wrapN _ b1, Mul64.wrapN _ b2, ML.out, Mul64.wrapM ((x % 4294967296 * (y / 4294967296) + (x / 4294967296 * (y % 4294967296) + x % 4294967296 * (y % 4294967296) / 4294967296) % 4294967296) * 4294967296), Mul64.wrapN _ b3]
  rw [HL.out, HH.out]
  refine bodyPost_ret (by simp only [results, Tryz.results36]; go_simp; try rfl) rfl ?_
  exact ⟨rfl, blw⟩
end Go.Proofs.YtpbpafmgkdihlaaGreatDoor
end
section
namespace Go.Proofs.YtpbpafmgkdihlaaGreatDoor
open Go.RowKit
def Y29 (w : World) (b : Nat) (k : IntKind) (x y : Int) : Prop :=
 w.cell? ⟨b, 0, none⟩ = some (.int k x) ∧ w.cell? ⟨b, 1, none⟩ = some (.int k y) ∧ w.frozen? ⟨b, 0, none⟩ = false ∧ w.frozen? ⟨b, 1, none⟩ = false
end Go.Proofs.YtpbpafmgkdihlaaGreatDoor
end
section
namespace Go.Proofs.YtpbpafmgkdihlaaGreatDoor
open Go.RowKit
theorem Ylx {X Y : Nat} (hx : X % 2 = 0) (hy : Y % 2 = 0) : Nat.gcd X Y = 2 * Nat.gcd (X / 2) (Y / 2) := by
 rw [← Nat.gcd_mul_left]
 congr 1 <;> omega
theorem Yg9 {X Y : Nat} (hx : X % 2 = 0) (ho : Nat.gcd X Y % 2 = 1) : Nat.gcd (X / 2) Y = Nat.gcd X Y := by
 have e : X = 2 * (X / 2) := by omega
 apply Nat.dvd_antisymm
 ·apply Nat.dvd_gcd
  ·exact Nat.dvd_trans (Nat.gcd_dvd_left _ _) ⟨2, by omega⟩
  ·exact Nat.gcd_dvd_right _ _
 ·apply Nat.dvd_gcd
  ·have c : Nat.Coprime (Nat.gcd X Y) 2 := by
    rw [Nat.coprime_comm]
    unfold Nat.Coprime
    rw [Nat.gcd_rec, ho]; rfl
   have d : Nat.gcd X Y ∣ 2 * (X / 2) := e ▸ Nat.gcd_dvd_left X Y
   exact c.dvd_of_dvd_mul_left d
  ·exact Nat.gcd_dvd_right _ _
theorem Ylw {X Y : Nat} (hy : Y % 2 = 0) (ho : Nat.gcd X Y % 2 = 1) : Nat.gcd X (Y / 2) = Nat.gcd X Y := by
 rw [Nat.gcd_comm X (Y / 2), Nat.gcd_comm X Y]
 exact Yg9 hy (by rw [Nat.gcd_comm]; exact ho)
theorem Yjx {X Y : Nat} (h : Y ≤ X) : Nat.gcd (X - Y) Y = Nat.gcd X Y := by
 conv => rhs; rw [show X = X - Y + Y by omega]
 rw [Nat.gcd_add_self_left]
theorem Ycf {X Y : Nat} (h : X % 2 = 1 ∨ Y % 2 = 1) : Nat.gcd X Y % 2 = 1 := by
 rcases Nat.mod_two_eq_zero_or_one (Nat.gcd X Y) with e | e
 ·have d : 2 ∣ Nat.gcd X Y := ⟨Nat.gcd X Y / 2, by omega⟩
  have d1 := Nat.dvd_trans d (Nat.gcd_dvd_left X Y)
  have d2 := Nat.dvd_trans d (Nat.gcd_dvd_right X Y)
  omega
 ·exact e
theorem Yoj {A X k : Nat} (h : A = X * 2 ^ k) (hx : 0 < X) (hA : A < 340282366920938463463374607431768211456) : k < 128 := by
 rcases Nat.lt_or_ge k 128 with h1 | h1
 ·exact h1
 ·have h2 : 2 ^ 128 ≤ 2 ^ k := Nat.pow_le_pow_right (by omega) h1
  have h3 : 1 * 2 ^ k ≤ X * 2 ^ k := Nat.mul_le_mul_right _ hx
  have h4 : (2 : Nat) ^ 128 = 340282366920938463463374607431768211456 := by decide
  omega
theorem IsU.odd {n : Nat} {h l : Int} (k : IsU n h l) : ((n % 2 : Nat) : Int) = l % 2 := by
 unfold IsU at k; omega
theorem IsU.bit {n : Nat} {h l : Int} (k : IsU n h l) : bits BinOp.and IntKind.u64 l 1 = ((n % 2 : Nat) : Int) := by
 rw [k.odd]; exact and_one_u64 l k.2.2.1 k.2.2.2.1
theorem IsU.pos {n : Nat} {h l : Int} (k : IsU n h l) (hn : 0 < n) : (h == 0) = false ∨ ((h == 0) = true ∧ (l == 0) = false) := by
 unfold IsU at k
 by_cases e : h = 0
 ·right; exact ⟨by simpa using e, by simp; omega⟩
 ·left; simpa using e
theorem IsU.half {n : Nat} {h l : Int} (k : IsU n h l) : IsU (n / 2) (uh (n / 2)) (ul (n / 2)) := IsU.split (by have := k.lt; omega)
set_option maxRecDepth 100000 in
set_option maxHeartbeats 4000000 in
theorem Yo9 {A B : Nat} {ah al bh bl : Int} (hA : IsU A ah al) (hB : IsU B bh bl) (hA0 : 0 < A) (hB0 : 0 < B) (w : World) :
    Calls Tryz.prog 160 #[.agg #[.int .u64 ah, .int .u64 al], .agg #[.int .u64 bh, .int .u64 bl]] w fun e w' =>
      e = .returned (.agg #[.int .u64 (uh (Nat.gcd A B)), .int .u64 (ul (Nat.gcd A B))]) ∧ Below w.heap.size w w' := by
  have hz := hA.pos hA0
  obtain ⟨a1, a2, a3, a4, a5⟩ := hA; obtain ⟨b1, b2, b3, b4, b5⟩ := hB
  have KA : Hid (IsU A ah al) := Lib.hid ⟨a1, a2, a3, a4, a5⟩
  have KB : Hid (IsU B bh bl) := Lib.hid ⟨b1, b2, b3, b4, b5⟩
  have HA0 := Lib.hid hA0; have HB0 := Lib.hid hB0
  clear a5 b5 hA0 hB0
  have HZ := Lib.hid hz
  clear hz
  go_enter Tryz.func160, Tryz.ntmps160
  go_upto_region 1 with fail
  go_cut [8] (fun s wx => s = .bool false ∧ Hid (IsU A ah al) ∧ Hid (IsU B bh bl) ∧ Below w.heap.size w wx ∧ w.heap.size + 3 ≤ wx.heap.size ∧ Hid (Y29 wx w.heap.size .u64 ah al) ∧ Hid (Y29 wx (w.heap.size + 1) .u64 bh bl) ∧ Hid (Y29 wx (w.heap.size + 1 + 1) .u64 0 0))
  case first =>
    rcases HZ.out with h1 | ⟨h1, h2⟩
    all_goals
      go_wp2_with fail
      go_meet
      refine ⟨rfl, KA, KB, blw, by go_size, ?_, ?_, ?_⟩
      all_goals (refine Lib.hid ⟨?_, ?_, ?_, ?_⟩ <;> exact gsx)
  case rest =>
    obtain ⟨rfl, -, -, hB, hz, C0, C1, C2⟩ := hcut
    obtain ⟨c00, c01, f00, f01⟩ := C0.out; obtain ⟨c10, c11, f10, f11⟩ := C1.out; obtain ⟨c20, c21, f20, f21⟩ := C2.out
    clear C0 C1 C2
    obtain ⟨hs1, hs2, hs3⟩ := kf3 hz
    go_upto_block 0 with fail
    go_cut [5] (fun t wx => ∃ (k X Y : Nat) (xh xl yh yl : Int), t = .int .i64 (k : Int) ∧ Hid (k < 128) ∧ Hid (Nat.gcd A B = 2 ^ k * Nat.gcd X Y) ∧ Hid (Nat.gcd X Y % 2 = 1) ∧ Hid (0 < Y) ∧ Hid (IsU X xh xl) ∧ Hid (IsU Y yh yl) ∧ Below w.heap.size w wx ∧ w.heap.size + 3 ≤ wx.heap.size ∧ Hid (Y29 wx w.heap.size .u64 xh xl) ∧ Hid (Y29 wx (w.heap.size + 1) .u64 yh yl) ∧ Hid (Y29 wx (w.heap.size + 1 + 1) .u64 0 0))
    case first =>
      go_wp2_with fail
      go_loopg [5] A (fun n t wr => ∃ (k X Y : Nat) (xh xl yh yl : Int), n = X ∧ t = .int .i64 (k : Int) ∧ Hid (A = X * 2 ^ k) ∧ Hid (Nat.gcd A B = 2 ^ k * Nat.gcd X Y) ∧ Hid (0 < X) ∧ Hid (0 < Y) ∧ Hid (IsU X xh xl) ∧ Hid (IsU Y yh yl) ∧ Below w.heap.size w wr ∧ w.heap.size + 3 ≤ wr.heap.size ∧ Hid (Y29 wr w.heap.size .u64 xh xl) ∧ Hid (Y29 wr (w.heap.size + 1) .u64 yh yl) ∧ Hid (Y29 wr (w.heap.size + 1 + 1) .u64 0 0))
      case atStart =>
        exact ⟨0, A, B, ah, al, bh, bl, rfl, rfl, Lib.hid (by simp), Lib.hid (by simp), HA0, HB0, KA, KB, hB, hz, Lib.hid ⟨c00, c01, f00, f01⟩, Lib.hid ⟨c10, c11, f10, f11⟩, Lib.hid ⟨c20, c21, f20, f21⟩⟩
      case round =>
        clear c00 c01 f00 f01 c10 c11 f10 f11 c20 c21 f20 f21 hB hz hs1 hs2 hs3
        obtain ⟨k, X, Y, xh, xl, yh, yl, rfl, rfl, HK, HG, HX0, HY0, KX, KY, hB, hz, C0, C1, C2⟩ := hrel
        obtain ⟨c00, c01, f00, f01⟩ := C0.out; obtain ⟨c10, c11, f10, f11⟩ := C1.out; obtain ⟨c20, c21, f20, f21⟩ := C2.out
        clear C0 C1 C2
        obtain ⟨x1, x2, x3, x4, -⟩ := KX.out; obtain ⟨y1, y2, y3, y4, -⟩ := KY.out
        obtain ⟨hs1, hs2, hs3⟩ := kf3 hz
        have hk : k < 128 := Yoj HK.out HX0.out KA.out.lt
        have ex := KX.out.bit; have ey := KY.out.bit
        by_cases p : gk % 2 = 0
        · rw [p] at ex
          by_cases q : Y % 2 = 0
          · rw [q] at ey
            have HP := Lib.hid p; have HQ := Lib.hid q
            have HW : Hid (IntKind.i64.wrap ((k : Int) + 1) = (k : Int) + 1) := Lib.hid (by rw [IntKind.wrap_i64]; omega)
            clear p q
            go_wp2_with fail
            go_region_with (go_at_call 180; (first | with_reducible refine (Y9c KX.out _).mono ?_ | with_reducible refine (Y9c KY.out _).mono ?_); rintro e w1 ⟨rfl, hb1⟩; have hB1 : Below w.heap.size w w1 := Below.trans blw (hb1.mono (by go_size)); have hz_w1 := hb1.size; (repeat (first | rw [World.size_alloc] at hz_w1 | rw [World.size_setCell] at hz_w1 | rw [World.size_drew] at hz_w1 | rw [World.heap_drewN] at hz_w1)); obtain ⟨hd, hg⟩ := Yb7 hb1; clear hb1; have c00 : w1.cell? ⟨w.heap.size, 0, none⟩ = some (.int .u64 xh) := (hd _ _ (by go_size)).trans (by first | exact c00 | exact gsx); have c01 : w1.cell? ⟨w.heap.size, 1, none⟩ = some (.int .u64 xl) := (hd _ _ (by go_size)).trans (by first | exact c01 | exact gsx); have c10 : w1.cell? ⟨w.heap.size + 1, 0, none⟩ = some (.int .u64 yh) := (hd _ _ (by go_size)).trans (by first | exact c10 | exact gsx); have c11 : w1.cell? ⟨w.heap.size + 1, 1, none⟩ = some (.int .u64 yl) := (hd _ _ (by go_size)).trans (by first | exact c11 | exact gsx); have c20 : w1.cell? ⟨w.heap.size + 1 + 1, 0, none⟩ = some (.int .u64 0) := (hd _ _ (by go_size)).trans (by first | exact c20 | exact gsx); have c21 : w1.cell? ⟨w.heap.size + 1 + 1, 1, none⟩ = some (.int .u64 0) := (hd _ _ (by go_size)).trans (by first | exact c21 | exact gsx); have f00 : w1.frozen? ⟨w.heap.size, 0, none⟩ = false := (hg _ _ (by go_size)).trans (by first | exact f00 | exact gsx); have f01 : w1.frozen? ⟨w.heap.size, 1, none⟩ = false := (hg _ _ (by go_size)).trans (by first | exact f01 | exact gsx); have f10 : w1.frozen? ⟨w.heap.size + 1, 0, none⟩ = false := (hg _ _ (by go_size)).trans (by first | exact f10 | exact gsx); have f11 : w1.frozen? ⟨w.heap.size + 1, 1, none⟩ = false := (hg _ _ (by go_size)).trans (by first | exact f11 | exact gsx); have f20 : w1.frozen? ⟨w.heap.size + 1 + 1, 0, none⟩ = false := (hg _ _ (by go_size)).trans (by first | exact f20 | exact gsx); have f21 : w1.frozen? ⟨w.heap.size + 1 + 1, 1, none⟩ = false := (hg _ _ (by go_size)).trans (by first | exact f21 | exact gsx); clear hd hg)
            all_goals
              go_wp2_with fail
              go_roundg (gk / 2)
              case measure => have := HX0.out; omega
              case rel =>
                have h1 := HK.out; have h2 := HG.out; have h3 := HX0.out; have h4 := HY0.out; have h5 := HP.out; have h6 := HQ.out
                refine ⟨k + 1, gk / 2, Y / 2, _, _, _, _, rfl, by rw [HW.out]; go_num, Lib.hid ?_, Lib.hid ?_, Lib.hid (by omega), Lib.hid (by omega), Lib.hid KX.out.half, Lib.hid KY.out.half, blw, by go_size, ?_, ?_, ?_⟩
                · rw [Nat.pow_succ, h1]; rw [show gk / 2 * (2 ^ k * 2) = (gk / 2 * 2) * 2 ^ k by rw [Nat.mul_comm (2 ^ k) 2, ← Nat.mul_assoc]]; congr 1; omega
                · rw [h2, Ylx h5 h6, Nat.pow_succ, Nat.mul_assoc]
                all_goals (refine Lib.hid ⟨?_, ?_, ?_, ?_⟩ <;> exact gsx)
          · have q : Y % 2 = 1 := by omega
            rw [q] at ey
            have HQ := Lib.hid q
            clear q p
            go_wp2_with fail
            go_meet
            exact ⟨k, gk, Y, _, _, _, _, rfl, Lib.hid hk, HG, Lib.hid (Ycf (Or.inr HQ.out)), HY0, KX, KY, hB, hz, Lib.hid ⟨c00, c01, f00, f01⟩, Lib.hid ⟨c10, c11, f10, f11⟩, Lib.hid ⟨c20, c21, f20, f21⟩⟩
        · have p : gk % 2 = 1 := by omega
          rw [p] at ex
          have HP := Lib.hid p
          clear p
          go_wp2_with fail
          go_meet
          exact ⟨k, gk, Y, _, _, _, _, rfl, Lib.hid hk, HG, Lib.hid (Ycf (Or.inl HP.out)), HY0, KX, KY, hB, hz, Lib.hid ⟨c00, c01, f00, f01⟩, Lib.hid ⟨c10, c11, f10, f11⟩, Lib.hid ⟨c20, c21, f20, f21⟩⟩
    case rest =>
      clear c00 c01 f00 f01 c10 c11 f10 f11 c20 c21 f20 f21 hB hz hs1 hs2 hs3
      obtain ⟨k, X, Y, xh, xl, yh, yl, rfl, HK, HG, HO, HY0, KX, KY, hB, hz, C0, C1, C2⟩ := hcut
      have hk := HK.out
      go_upto_block 2 with fail
      go_cut [5] (fun t wx => t = .int .i64 (k : Int) ∧ ∃ (X Y : Nat) (xh xl yh yl : Int), Hid (Nat.gcd A B = 2 ^ k * Y) ∧ Hid (0 < Y) ∧ Hid (IsU X xh xl) ∧ Hid (IsU Y yh yl) ∧ Below w.heap.size w wx ∧ w.heap.size + 3 ≤ wx.heap.size ∧ Hid (Y29 wx w.heap.size .u64 xh xl) ∧ Hid (Y29 wx (w.heap.size + 1) .u64 yh yl) ∧ Hid (Y29 wx (w.heap.size + 1 + 1) .u64 0 0))
      case first =>
        go_wp2_with fail
        go_loopg [28] (X + Y) (fun n _ wr => ∃ (X Y : Nat) (xh xl yh yl : Int), n = X + Y ∧ Hid (Nat.gcd A B = 2 ^ k * Nat.gcd X Y) ∧ Hid (Nat.gcd X Y % 2 = 1) ∧ Hid (0 < Y) ∧ Hid (IsU X xh xl) ∧ Hid (IsU Y yh yl) ∧ Below w.heap.size w wr ∧ w.heap.size + 3 ≤ wr.heap.size ∧ Hid (Y29 wr w.heap.size .u64 xh xl) ∧ Hid (Y29 wr (w.heap.size + 1) .u64 yh yl) ∧ Hid (Y29 wr (w.heap.size + 1 + 1) .u64 0 0))
        case atStart => exact ⟨X, Y, xh, xl, yh, yl, rfl, HG, HO, HY0, KX, KY, hB, hz, C0, C1, C2⟩
        case round =>
          clear HG HO HY0 KX KY hB hz C0 C1 C2
          clear X Y xh xl yh yl
          obtain ⟨X, Y, xh, xl, yh, yl, hn, HG, HO, HY0, KX, KY, hB, hz, C0, C1, C2⟩ := hrel
          have HN := Lib.hid hn
          clear hn
          obtain ⟨c00, c01, f00, f01⟩ := C0.out; obtain ⟨c10, c11, f10, f11⟩ := C1.out; obtain ⟨c20, c21, f20, f21⟩ := C2.out
          clear C0 C1 C2
          obtain ⟨x1, x2, x3, x4, -⟩ := KX.out; obtain ⟨y1, y2, y3, y4, -⟩ := KY.out
          obtain ⟨hs1, hs2, hs3⟩ := kf3 hz
          by_cases hX : X = 0
          · subst hX
            have e1 : xh = 0 := by have := KX.out; unfold IsU at this; omega
            have e2 : xl = 0 := by have := KX.out; unfold IsU at this; omega
            subst e1 e2
            go_wp2_with fail
            go_meet
            exact ⟨rfl, 0, Y, 0, 0, yh, yl, Lib.hid (by have := HG.out; rwa [Nat.gcd_zero_left] at this), HY0, KX, KY, hB, hz, Lib.hid ⟨c00, c01, f00, f01⟩, Lib.hid ⟨c10, c11, f10, f11⟩, Lib.hid ⟨c20, c21, f20, f21⟩⟩
          · have HX0 := Lib.hid (Nat.pos_of_ne_zero hX)
            clear hX
            go_upto_region 6 with fail
            go_cut [28] (fun s wx => s = .bool true ∧ Hid (IsU X xh xl) ∧ Hid (IsU Y yh yl) ∧ Below w.heap.size w wx ∧ w.heap.size + 3 ≤ wx.heap.size ∧ Hid (Y29 wx w.heap.size .u64 xh xl) ∧ Hid (Y29 wx (w.heap.size + 1) .u64 yh yl) ∧ Hid (Y29 wx (w.heap.size + 1 + 1) .u64 0 0))
            case first =>
              rcases KX.out.pos HX0.out with p1 | ⟨p1, p2⟩
              all_goals
                go_wp2_with fail
                go_meet
                exact ⟨rfl, KX, KY, hB, hz, Lib.hid ⟨c00, c01, f00, f01⟩, Lib.hid ⟨c10, c11, f10, f11⟩, Lib.hid ⟨c20, c21, f20, f21⟩⟩
            case rest =>
              clear c00 c01 f00 f01 c10 c11 f10 f11 c20 c21 f20 f21 hB hz hs1 hs2 hs3
              obtain ⟨rfl, -, -, hB, hz, C0, C1, C2⟩ := hcut
              obtain ⟨c00, c01, f00, f01⟩ := C0.out; obtain ⟨c10, c11, f10, f11⟩ := C1.out; obtain ⟨c20, c21, f20, f21⟩ := C2.out
              clear C0 C1 C2
              obtain ⟨hs1, hs2, hs3⟩ := kf3 hz
              go_upto_block 4 with fail
              go_cut [32] (fun _ wx => ∃ (Z : Nat) (zh zl : Int), Hid (Z % 2 = 1) ∧ Hid (0 < Z) ∧ Hid (Z ≤ X) ∧ Hid (Nat.gcd Z Y = Nat.gcd X Y) ∧ Hid (IsU Z zh zl) ∧ Hid (IsU Y yh yl) ∧ Below w.heap.size w wx ∧ w.heap.size + 3 ≤ wx.heap.size ∧ Hid (Y29 wx w.heap.size .u64 zh zl) ∧ Hid (Y29 wx (w.heap.size + 1) .u64 yh yl) ∧ Hid (Y29 wx (w.heap.size + 1 + 1) .u64 0 0))
              case first =>
                go_wp2_with fail
                go_loopg [32] X (fun n _ wr => ∃ (Z : Nat) (zh zl : Int), n = Z ∧ Hid (0 < Z) ∧ Hid (Z ≤ X) ∧ Hid (Nat.gcd Z Y = Nat.gcd X Y) ∧ Hid (IsU Z zh zl) ∧ Hid (IsU Y yh yl) ∧ Below w.heap.size w wr ∧ w.heap.size + 3 ≤ wr.heap.size ∧ Hid (Y29 wr w.heap.size .u64 zh zl) ∧ Hid (Y29 wr (w.heap.size + 1) .u64 yh yl) ∧ Hid (Y29 wr (w.heap.size + 1 + 1) .u64 0 0))
                case atStart => exact ⟨X, xh, xl, rfl, HX0, Lib.hid (Nat.le_refl _), Lib.hid rfl, KX, KY, blw, by go_size, Lib.hid ⟨c00, c01, f00, f01⟩, Lib.hid ⟨c10, c11, f10, f11⟩, Lib.hid ⟨c20, c21, f20, f21⟩⟩
                case round =>
                  clear c00 c01 f00 f01 c10 c11 f10 f11 c20 c21 f20 f21 hB hz hs1 hs2 hs3
                  clear x1 x2 x3 x4 y1 y2 y3 y4
                  obtain ⟨Z, zh, zl, rfl, HZ0, HZX, HZG, KZ, KY, hB, hz, C0, C1, C2⟩ := hrel
                  obtain ⟨c00, c01, f00, f01⟩ := C0.out; obtain ⟨c10, c11, f10, f11⟩ := C1.out; obtain ⟨c20, c21, f20, f21⟩ := C2.out
                  clear C0 C1 C2
                  obtain ⟨x1, x2, x3, x4, -⟩ := KZ.out; obtain ⟨y1, y2, y3, y4, -⟩ := KY.out
                  obtain ⟨hs1, hs2, hs3⟩ := kf3 hz
                  have ex := KZ.out.bit
                  by_cases p : gk % 2 = 0
                  · rw [p] at ex
                    have HP := Lib.hid p
                    clear p
                    go_wp2_with fail
                    with_reducible refine (Y9c KZ.out _).mono ?_
                    rintro e w1 ⟨rfl, hb1⟩; have hB_w1 : Below w.heap.size w w1 := Below.trans blw (hb1.mono (by go_size)); have hz_w1 := hb1.size; (repeat (first | rw [World.size_alloc] at hz_w1 | rw [World.size_setCell] at hz_w1 | rw [World.size_drew] at hz_w1 | rw [World.heap_drewN] at hz_w1)); obtain ⟨hd, hg⟩ := Yb7 hb1; clear hb1; have c00 : w1.cell? ⟨w.heap.size, 0, none⟩ = some (.int .u64 zh) := (hd _ _ (by go_size)).trans (by first | exact c00 | exact gsx); have c01 : w1.cell? ⟨w.heap.size, 1, none⟩ = some (.int .u64 zl) := (hd _ _ (by go_size)).trans (by first | exact c01 | exact gsx); have c10 : w1.cell? ⟨w.heap.size + 1, 0, none⟩ = some (.int .u64 yh) := (hd _ _ (by go_size)).trans (by first | exact c10 | exact gsx); have c11 : w1.cell? ⟨w.heap.size + 1, 1, none⟩ = some (.int .u64 yl) := (hd _ _ (by go_size)).trans (by first | exact c11 | exact gsx); have c20 : w1.cell? ⟨w.heap.size + 1 + 1, 0, none⟩ = some (.int .u64 0) := (hd _ _ (by go_size)).trans (by first | exact c20 | exact gsx); have c21 : w1.cell? ⟨w.heap.size + 1 + 1, 1, none⟩ = some (.int .u64 0) := (hd _ _ (by go_size)).trans (by first | exact c21 | exact gsx); have f00 : w1.frozen? ⟨w.heap.size, 0, none⟩ = false := (hg _ _ (by go_size)).trans (by first | exact f00 | exact gsx); have f01 : w1.frozen? ⟨w.heap.size, 1, none⟩ = false := (hg _ _ (by go_size)).trans (by first | exact f01 | exact gsx); have f10 : w1.frozen? ⟨w.heap.size + 1, 0, none⟩ = false := (hg _ _ (by go_size)).trans (by first | exact f10 | exact gsx); have f11 : w1.frozen? ⟨w.heap.size + 1, 1, none⟩ = false := (hg _ _ (by go_size)).trans (by first | exact f11 | exact gsx); have f20 : w1.frozen? ⟨w.heap.size + 1 + 1, 0, none⟩ = false := (hg _ _ (by go_size)).trans (by first | exact f20 | exact gsx); have f21 : w1.frozen? ⟨w.heap.size + 1 + 1, 1, none⟩ = false := (hg _ _ (by go_size)).trans (by first | exact f21 | exact gsx); clear hd hg
                    go_wp2_with fail
                    go_roundg (gk / 2)
                    case measure => have := HZ0.out; omega
                    case rel =>
                      have h3 := HZ0.out; have h4 := HZX.out; have h5 := HP.out; have h6 := HZG.out; have h7 := HO.out
                      refine ⟨gk / 2, _, _, rfl, Lib.hid (by omega), Lib.hid (by omega), Lib.hid ?_, Lib.hid KZ.out.half, KY, blw, by go_size, ?_, ?_, ?_⟩
                      · rw [Yg9 h5 (by rw [h6]; exact h7), h6]
                      all_goals (refine Lib.hid ⟨?_, ?_, ?_, ?_⟩ <;> exact gsx)
                  · have p : gk % 2 = 1 := by omega
                    rw [p] at ex
                    have HP := Lib.hid p
                    clear p
                    go_wp2_with fail
                    go_meet
                    exact ⟨gk, zh, zl, HP, HZ0, HZX, HZG, KZ, KY, hB, hz, Lib.hid ⟨c00, c01, f00, f01⟩, Lib.hid ⟨c10, c11, f10, f11⟩, Lib.hid ⟨c20, c21, f20, f21⟩⟩
              case rest =>
                clear c00 c01 f00 f01 c10 c11 f10 f11 c20 c21 f20 f21 hB hz hs1 hs2 hs3
                clear x1 x2 x3 x4 y1 y2 y3 y4
                obtain ⟨Z, zh, zl, HP, HZ0, HZX, HZG, KZ, KY, hB, hz, C0, C1, C2⟩ := hcut
                obtain ⟨c00, c01, f00, f01⟩ := C0.out; obtain ⟨c10, c11, f10, f11⟩ := C1.out; obtain ⟨c20, c21, f20, f21⟩ := C2.out
                clear C0 C1 C2
                obtain ⟨x1, x2, x3, x4, -⟩ := KZ.out; obtain ⟨y1, y2, y3, y4, -⟩ := KY.out
                obtain ⟨hs1, hs2, hs3⟩ := kf3 hz
                go_upto_block 6 with fail
                go_cut [38] (fun _ wx => ∃ (V : Nat) (vh vl : Int), Hid (V % 2 = 1) ∧ Hid (0 < V) ∧ Hid (V ≤ Y) ∧ Hid (Nat.gcd Z V = Nat.gcd X Y) ∧ Hid (IsU Z zh zl) ∧ Hid (IsU V vh vl) ∧ Below w.heap.size w wx ∧ w.heap.size + 3 ≤ wx.heap.size ∧ Hid (Y29 wx w.heap.size .u64 zh zl) ∧ Hid (Y29 wx (w.heap.size + 1) .u64 vh vl) ∧ Hid (Y29 wx (w.heap.size + 1 + 1) .u64 0 0))
                case first =>
                  go_wp2_with fail
                  go_loopg [38] Y (fun n _ wr => ∃ (V : Nat) (vh vl : Int), n = V ∧ Hid (0 < V) ∧ Hid (V ≤ Y) ∧ Hid (Nat.gcd Z V = Nat.gcd X Y) ∧ Hid (IsU Z zh zl) ∧ Hid (IsU V vh vl) ∧ Below w.heap.size w wr ∧ w.heap.size + 3 ≤ wr.heap.size ∧ Hid (Y29 wr w.heap.size .u64 zh zl) ∧ Hid (Y29 wr (w.heap.size + 1) .u64 vh vl) ∧ Hid (Y29 wr (w.heap.size + 1 + 1) .u64 0 0))
                  case atStart => exact ⟨Y, yh, yl, rfl, HY0, Lib.hid (Nat.le_refl _), HZG, KZ, KY, blw, by go_size, Lib.hid ⟨c00, c01, f00, f01⟩, Lib.hid ⟨c10, c11, f10, f11⟩, Lib.hid ⟨c20, c21, f20, f21⟩⟩
                  case round =>
                    clear c00 c01 f00 f01 c10 c11 f10 f11 c20 c21 f20 f21 hB hz hs1 hs2 hs3
                    clear x1 x2 x3 x4 y1 y2 y3 y4
                    obtain ⟨V, vh, vl, rfl, HV0, HVY, HVG, KZ, KV, hB, hz, C0, C1, C2⟩ := hrel
                    obtain ⟨c00, c01, f00, f01⟩ := C0.out; obtain ⟨c10, c11, f10, f11⟩ := C1.out; obtain ⟨c20, c21, f20, f21⟩ := C2.out
                    clear C0 C1 C2
                    obtain ⟨x1, x2, x3, x4, -⟩ := KZ.out; obtain ⟨y1, y2, y3, y4, -⟩ := KV.out
                    obtain ⟨hs1, hs2, hs3⟩ := kf3 hz
                    have ex := KV.out.bit
                    by_cases p : gk % 2 = 0
                    · rw [p] at ex
                      have HQ := Lib.hid p
                      clear p
                      go_wp2_with fail
                      with_reducible refine (Y9c KV.out _).mono ?_
                      rintro e w1 ⟨rfl, hb1⟩; have hB_w1 : Below w.heap.size w w1 := Below.trans blw (hb1.mono (by go_size)); have hz_w1 := hb1.size; (repeat (first | rw [World.size_alloc] at hz_w1 | rw [World.size_setCell] at hz_w1 | rw [World.size_drew] at hz_w1 | rw [World.heap_drewN] at hz_w1)); obtain ⟨hd, hg⟩ := Yb7 hb1; clear hb1; have c00 : w1.cell? ⟨w.heap.size, 0, none⟩ = some (.int .u64 zh) := (hd _ _ (by go_size)).trans (by first | exact c00 | exact gsx); have c01 : w1.cell? ⟨w.heap.size, 1, none⟩ = some (.int .u64 zl) := (hd _ _ (by go_size)).trans (by first | exact c01 | exact gsx); have c10 : w1.cell? ⟨w.heap.size + 1, 0, none⟩ = some (.int .u64 vh) := (hd _ _ (by go_size)).trans (by first | exact c10 | exact gsx); have c11 : w1.cell? ⟨w.heap.size + 1, 1, none⟩ = some (.int .u64 vl) := (hd _ _ (by go_size)).trans (by first | exact c11 | exact gsx); have c20 : w1.cell? ⟨w.heap.size + 1 + 1, 0, none⟩ = some (.int .u64 0) := (hd _ _ (by go_size)).trans (by first | exact c20 | exact gsx); have c21 : w1.cell? ⟨w.heap.size + 1 + 1, 1, none⟩ = some (.int .u64 0) := (hd _ _ (by go_size)).trans (by first | exact c21 | exact gsx); have f00 : w1.frozen? ⟨w.heap.size, 0, none⟩ = false := (hg _ _ (by go_size)).trans (by first | exact f00 | exact gsx); have f01 : w1.frozen? ⟨w.heap.size, 1, none⟩ = false := (hg _ _ (by go_size)).trans (by first | exact f01 | exact gsx); have f10 : w1.frozen? ⟨w.heap.size + 1, 0, none⟩ = false := (hg _ _ (by go_size)).trans (by first | exact f10 | exact gsx); have f11 : w1.frozen? ⟨w.heap.size + 1, 1, none⟩ = false := (hg _ _ (by go_size)).trans (by first | exact f11 | exact gsx); have f20 : w1.frozen? ⟨w.heap.size + 1 + 1, 0, none⟩ = false := (hg _ _ (by go_size)).trans (by first | exact f20 | exact gsx); have f21 : w1.frozen? ⟨w.heap.size + 1 + 1, 1, none⟩ = false := (hg _ _ (by go_size)).trans (by first | exact f21 | exact gsx); clear hd hg
                      go_wp2_with fail
                      go_roundg (gk / 2)
                      case measure => have := HV0.out; omega
                      case rel =>
                        have h3 := HV0.out; have h4 := HVY.out; have h5 := HQ.out; have h6 := HVG.out; have h7 := HO.out
                        refine ⟨gk / 2, _, _, rfl, Lib.hid (by omega), Lib.hid (by omega), Lib.hid ?_, KZ, Lib.hid KV.out.half, blw, by go_size, ?_, ?_, ?_⟩
                        · rw [Ylw h5 (by rw [h6]; exact h7), h6]
                        all_goals (refine Lib.hid ⟨?_, ?_, ?_, ?_⟩ <;> exact gsx)
                    · have p : gk % 2 = 1 := by omega
                      rw [p] at ex
                      have HQ := Lib.hid p
                      clear p
                      go_wp2_with fail
                      go_meet
                      exact ⟨gk, vh, vl, HQ, HV0, HVY, HVG, KZ, KV, hB, hz, Lib.hid ⟨c00, c01, f00, f01⟩, Lib.hid ⟨c10, c11, f10, f11⟩, Lib.hid ⟨c20, c21, f20, f21⟩⟩
                case rest =>
                  clear c00 c01 f00 f01 c10 c11 f10 f11 c20 c21 f20 f21 hB hz hs1 hs2 hs3
                  clear x1 x2 x3 x4 y1 y2 y3 y4
                  obtain ⟨V, vh, vl, HQ, HV0, HVY, HVG, KZ, KV, hB, hz, C0, C1, C2⟩ := hcut
                  obtain ⟨c00, c01, f00, f01⟩ := C0.out; obtain ⟨c10, c11, f10, f11⟩ := C1.out; obtain ⟨c20, c21, f20, f21⟩ := C2.out
                  clear C0 C1 C2
                  obtain ⟨x1, x2, x3, x4, -⟩ := KZ.out; obtain ⟨y1, y2, y3, y4, -⟩ := KV.out
                  obtain ⟨hs1, hs2, hs3⟩ := kf3 hz
                  by_cases hl : Z < V
                  · have HL := Lib.hid (decide_eq_true hl)
                    have HC : Hid (((V : Int) - (Z : Int)) % 340282366920938463463374607431768211456 = ((V - Z : Nat) : Int)) := Lib.hid (by have := KV.out.lt; omega)
                    have HLT := Lib.hid hl
                    clear hl
                    go_wp2_with fail
                    with_reducible refine (Ydc KZ.out KV.out _).mono ?_
                    rw [HL.out]
                    rintro e w1 ⟨rfl, hb1⟩; have hB_w1 : Below w.heap.size w w1 := Below.trans blw (hb1.mono (by go_size)); have hz_w1 := hb1.size; (repeat (first | rw [World.size_alloc] at hz_w1 | rw [World.size_setCell] at hz_w1 | rw [World.size_drew] at hz_w1 | rw [World.heap_drewN] at hz_w1)); obtain ⟨hd, hg⟩ := Yb7 hb1; clear hb1; have c00 : w1.cell? ⟨w.heap.size, 0, none⟩ = some (.int .u64 zh) := (hd _ _ (by go_size)).trans (by first | exact c00 | exact gsx); have c01 : w1.cell? ⟨w.heap.size, 1, none⟩ = some (.int .u64 zl) := (hd _ _ (by go_size)).trans (by first | exact c01 | exact gsx); have c10 : w1.cell? ⟨w.heap.size + 1, 0, none⟩ = some (.int .u64 vh) := (hd _ _ (by go_size)).trans (by first | exact c10 | exact gsx); have c11 : w1.cell? ⟨w.heap.size + 1, 1, none⟩ = some (.int .u64 vl) := (hd _ _ (by go_size)).trans (by first | exact c11 | exact gsx); have c20 : w1.cell? ⟨w.heap.size + 1 + 1, 0, none⟩ = some (.int .u64 0) := (hd _ _ (by go_size)).trans (by first | exact c20 | exact gsx); have c21 : w1.cell? ⟨w.heap.size + 1 + 1, 1, none⟩ = some (.int .u64 0) := (hd _ _ (by go_size)).trans (by first | exact c21 | exact gsx); have f00 : w1.frozen? ⟨w.heap.size, 0, none⟩ = false := (hg _ _ (by go_size)).trans (by first | exact f00 | exact gsx); have f01 : w1.frozen? ⟨w.heap.size, 1, none⟩ = false := (hg _ _ (by go_size)).trans (by first | exact f01 | exact gsx); have f10 : w1.frozen? ⟨w.heap.size + 1, 0, none⟩ = false := (hg _ _ (by go_size)).trans (by first | exact f10 | exact gsx); have f11 : w1.frozen? ⟨w.heap.size + 1, 1, none⟩ = false := (hg _ _ (by go_size)).trans (by first | exact f11 | exact gsx); have f20 : w1.frozen? ⟨w.heap.size + 1 + 1, 0, none⟩ = false := (hg _ _ (by go_size)).trans (by first | exact f20 | exact gsx); have f21 : w1.frozen? ⟨w.heap.size + 1 + 1, 1, none⟩ = false := (hg _ _ (by go_size)).trans (by first | exact f21 | exact gsx); clear hd hg
                    go_wp2_with fail
                    with_reducible refine (Yfd KV.out KZ.out HC.out _).mono ?_
                    rintro e w3 ⟨rfl, hb1⟩; have hB_w3 : Below w.heap.size w w3 := Below.trans blw (hb1.mono (by go_size)); have hz_w3 := hb1.size; (repeat (first | rw [World.size_alloc] at hz_w3 | rw [World.size_setCell] at hz_w3 | rw [World.size_drew] at hz_w3 | rw [World.heap_drewN] at hz_w3)); obtain ⟨hd, hg⟩ := Yb7 hb1; clear hb1; have c00 : w3.cell? ⟨w.heap.size, 0, none⟩ = some (.int .u64 vh) := (hd _ _ (by go_size)).trans (by first | exact c00 | exact gsx); have c01 : w3.cell? ⟨w.heap.size, 1, none⟩ = some (.int .u64 vl) := (hd _ _ (by go_size)).trans (by first | exact c01 | exact gsx); have c10 : w3.cell? ⟨w.heap.size + 1, 0, none⟩ = some (.int .u64 zh) := (hd _ _ (by go_size)).trans (by first | exact c10 | exact gsx); have c11 : w3.cell? ⟨w.heap.size + 1, 1, none⟩ = some (.int .u64 zl) := (hd _ _ (by go_size)).trans (by first | exact c11 | exact gsx); have c20 : w3.cell? ⟨w.heap.size + 1 + 1, 0, none⟩ = some (.int .u64 0) := (hd _ _ (by go_size)).trans (by first | exact c20 | exact gsx); have c21 : w3.cell? ⟨w.heap.size + 1 + 1, 1, none⟩ = some (.int .u64 0) := (hd _ _ (by go_size)).trans (by first | exact c21 | exact gsx); have f00 : w3.frozen? ⟨w.heap.size, 0, none⟩ = false := (hg _ _ (by go_size)).trans (by first | exact f00 | exact gsx); have f01 : w3.frozen? ⟨w.heap.size, 1, none⟩ = false := (hg _ _ (by go_size)).trans (by first | exact f01 | exact gsx); have f10 : w3.frozen? ⟨w.heap.size + 1, 0, none⟩ = false := (hg _ _ (by go_size)).trans (by first | exact f10 | exact gsx); have f11 : w3.frozen? ⟨w.heap.size + 1, 1, none⟩ = false := (hg _ _ (by go_size)).trans (by first | exact f11 | exact gsx); have f20 : w3.frozen? ⟨w.heap.size + 1 + 1, 0, none⟩ = false := (hg _ _ (by go_size)).trans (by first | exact f20 | exact gsx); have f21 : w3.frozen? ⟨w.heap.size + 1 + 1, 1, none⟩ = false := (hg _ _ (by go_size)).trans (by first | exact f21 | exact gsx); clear hd hg
                    go_wp2_with fail
                    go_roundg (V - Z + Z)
                    case measure => have h1 := HN.out; have h2 := HZX.out; have h3 := HVY.out; have h4 := HZ0.out; have h5 := HLT.out; omega
                    case rel =>
                      have h1 := HG.out; have h2 := HVG.out; have h3 := HO.out; have h5 := HLT.out
                      have e : Nat.gcd (V - Z) Z = Nat.gcd X Y := by rw [Yjx (by omega), Nat.gcd_comm, h2]
                      refine ⟨V - Z, Z, _, _, zh, zl, rfl, Lib.hid (by rw [h1, e]), Lib.hid (by rw [e]; exact h3), HZ0, Lib.hid (IsU.split (by have := KV.out.lt; omega)), KZ, blw, by go_size, ?_, ?_, ?_⟩
                      all_goals (refine Lib.hid ⟨?_, ?_, ?_, ?_⟩ <;> exact gsx)
                  · have HL := Lib.hid (decide_eq_false hl)
                    have HC : Hid (((Z : Int) - (V : Int)) % 340282366920938463463374607431768211456 = ((Z - V : Nat) : Int)) := Lib.hid (by have := KZ.out.lt; omega)
                    have HLT := Lib.hid (Nat.le_of_not_lt hl)
                    clear hl
                    go_wp2_with fail
                    with_reducible refine (Ydc KZ.out KV.out _).mono ?_
                    rw [HL.out]
                    rintro e w1 ⟨rfl, hb1⟩; have hB_w1 : Below w.heap.size w w1 := Below.trans blw (hb1.mono (by go_size)); have hz_w1 := hb1.size; (repeat (first | rw [World.size_alloc] at hz_w1 | rw [World.size_setCell] at hz_w1 | rw [World.size_drew] at hz_w1 | rw [World.heap_drewN] at hz_w1)); obtain ⟨hd, hg⟩ := Yb7 hb1; clear hb1; have c00 : w1.cell? ⟨w.heap.size, 0, none⟩ = some (.int .u64 zh) := (hd _ _ (by go_size)).trans (by first | exact c00 | exact gsx); have c01 : w1.cell? ⟨w.heap.size, 1, none⟩ = some (.int .u64 zl) := (hd _ _ (by go_size)).trans (by first | exact c01 | exact gsx); have c10 : w1.cell? ⟨w.heap.size + 1, 0, none⟩ = some (.int .u64 vh) := (hd _ _ (by go_size)).trans (by first | exact c10 | exact gsx); have c11 : w1.cell? ⟨w.heap.size + 1, 1, none⟩ = some (.int .u64 vl) := (hd _ _ (by go_size)).trans (by first | exact c11 | exact gsx); have c20 : w1.cell? ⟨w.heap.size + 1 + 1, 0, none⟩ = some (.int .u64 0) := (hd _ _ (by go_size)).trans (by first | exact c20 | exact gsx); have c21 : w1.cell? ⟨w.heap.size + 1 + 1, 1, none⟩ = some (.int .u64 0) := (hd _ _ (by go_size)).trans (by first | exact c21 | exact gsx); have f00 : w1.frozen? ⟨w.heap.size, 0, none⟩ = false := (hg _ _ (by go_size)).trans (by first | exact f00 | exact gsx); have f01 : w1.frozen? ⟨w.heap.size, 1, none⟩ = false := (hg _ _ (by go_size)).trans (by first | exact f01 | exact gsx); have f10 : w1.frozen? ⟨w.heap.size + 1, 0, none⟩ = false := (hg _ _ (by go_size)).trans (by first | exact f10 | exact gsx); have f11 : w1.frozen? ⟨w.heap.size + 1, 1, none⟩ = false := (hg _ _ (by go_size)).trans (by first | exact f11 | exact gsx); have f20 : w1.frozen? ⟨w.heap.size + 1 + 1, 0, none⟩ = false := (hg _ _ (by go_size)).trans (by first | exact f20 | exact gsx); have f21 : w1.frozen? ⟨w.heap.size + 1 + 1, 1, none⟩ = false := (hg _ _ (by go_size)).trans (by first | exact f21 | exact gsx); clear hd hg
                    go_wp2_with fail
                    with_reducible refine (Yfd KZ.out KV.out HC.out _).mono ?_
                    rintro e w1 ⟨rfl, hb1⟩; have hB_w1 : Below w.heap.size w w1 := Below.trans blw (hb1.mono (by go_size)); have hz_w1 := hb1.size; (repeat (first | rw [World.size_alloc] at hz_w1 | rw [World.size_setCell] at hz_w1 | rw [World.size_drew] at hz_w1 | rw [World.heap_drewN] at hz_w1)); obtain ⟨hd, hg⟩ := Yb7 hb1; clear hb1; have c00 : w1.cell? ⟨w.heap.size, 0, none⟩ = some (.int .u64 zh) := (hd _ _ (by go_size)).trans (by first | exact c00 | exact gsx); have c01 : w1.cell? ⟨w.heap.size, 1, none⟩ = some (.int .u64 zl) := (hd _ _ (by go_size)).trans (by first | exact c01 | exact gsx); have c10 : w1.cell? ⟨w.heap.size + 1, 0, none⟩ = some (.int .u64 vh) := (hd _ _ (by go_size)).trans (by first | exact c10 | exact gsx); have c11 : w1.cell? ⟨w.heap.size + 1, 1, none⟩ = some (.int .u64 vl) := (hd _ _ (by go_size)).trans (by first | exact c11 | exact gsx); have c20 : w1.cell? ⟨w.heap.size + 1 + 1, 0, none⟩ = some (.int .u64 0) := (hd _ _ (by go_size)).trans (by first | exact c20 | exact gsx); have c21 : w1.cell? ⟨w.heap.size + 1 + 1, 1, none⟩ = some (.int .u64 0) := (hd _ _ (by go_size)).trans (by first | exact c21 | exact gsx); have f00 : w1.frozen? ⟨w.heap.size, 0, none⟩ = false := (hg _ _ (by go_size)).trans (by first | exact f00 | exact gsx); have f01 : w1.frozen? ⟨w.heap.size, 1, none⟩ = false := (hg _ _ (by go_size)).trans (by first | exact f01 | exact gsx); have f10 : w1.frozen? ⟨w.heap.size + 1, 0, none⟩ = false := (hg _ _ (by go_size)).trans (by first | exact f10 | exact gsx); have f11 : w1.frozen? ⟨w.heap.size + 1, 1, none⟩ = false := (hg _ _ (by go_size)).trans (by first | exact f11 | exact gsx); have f20 : w1.frozen? ⟨w.heap.size + 1 + 1, 0, none⟩ = false := (hg _ _ (by go_size)).trans (by first | exact f20 | exact gsx); have f21 : w1.frozen? ⟨w.heap.size + 1 + 1, 1, none⟩ = false := (hg _ _ (by go_size)).trans (by first | exact f21 | exact gsx); clear hd hg
                    go_wp2_with fail
                    go_roundg (Z - V + V)
                    case measure => have h1 := HN.out; have h2 := HZX.out; have h3 := HVY.out; have h4 := HV0.out; have h5 := HLT.out; omega
                    case rel =>
                      have h1 := HG.out; have h2 := HVG.out; have h3 := HO.out; have h5 := HLT.out
                      have e : Nat.gcd (Z - V) V = Nat.gcd X Y := by rw [Yjx h5, h2]
                      refine ⟨Z - V, V, _, _, vh, vl, rfl, Lib.hid (by rw [h1, e]), Lib.hid (by rw [e]; exact h3), HV0, Lib.hid (IsU.split (by have := KZ.out.lt; omega)), KV, blw, by go_size, ?_, ?_, ?_⟩
                      all_goals (refine Lib.hid ⟨?_, ?_, ?_, ?_⟩ <;> exact gsx)
      case rest =>
        clear HG HO HY0 KX KY hB hz C0 C1 C2 X Y xh xl yh yl
        obtain ⟨rfl, X, Y, xh, xl, yh, yl, HG, HY0, KX, KY, hB, hz, C0, C1, C2⟩ := hcut
        have HGB : Hid (Nat.gcd A B < 340282366920938463463374607431768211456) := Lib.hid (Nat.lt_of_le_of_lt (Nat.gcd_le_right _ HB0.out) KB.out.lt)
        go_wp2_with fail
        go_loopg [5] k (fun n t wr => ∃ (V : Nat) (vh vl : Int), t = .int .i64 (n : Int) ∧ n < 128 ∧ Hid (Nat.gcd A B = V * 2 ^ n) ∧ Hid (IsU X xh xl) ∧ Hid (IsU V vh vl) ∧ Below w.heap.size w wr ∧ w.heap.size + 3 ≤ wr.heap.size ∧ Hid (Y29 wr w.heap.size .u64 xh xl) ∧ Hid (Y29 wr (w.heap.size + 1) .u64 vh vl) ∧ Hid (Y29 wr (w.heap.size + 1 + 1) .u64 0 0))
        case atStart => exact ⟨Y, yh, yl, rfl, hk, Lib.hid (by rw [HG.out, Nat.mul_comm]), KX, KY, hB, hz, C0, C1, C2⟩
        case round =>
          clear HG HY0 hB hz C0 C1 C2 KY
          obtain ⟨V, vh, vl, rfl, hn, HV, KX, KY, hB, hz, C0, C1, C2⟩ := hrel
          obtain ⟨c00, c01, f00, f01⟩ := C0.out; obtain ⟨c10, c11, f10, f11⟩ := C1.out; obtain ⟨c20, c21, f20, f21⟩ := C2.out
          clear C0 C1 C2
          obtain ⟨x1, x2, x3, x4, -⟩ := KX.out; obtain ⟨y1, y2, y3, y4, -⟩ := KY.out
          obtain ⟨hs1, hs2, hs3⟩ := kf3 hz
          obtain rfl | ⟨m, rfl⟩ : gk = 0 ∨ ∃ m, gk = m + 1 := by
            rcases gk with _ | m
            · exact Or.inl rfl
            · exact Or.inr ⟨m, rfl⟩
          · go_wp2_with fail
            refine bodyPost_ret (by simp only [results, Tryz.results160]; go_simp; try rfl) rfl ?_
            have e : V = Nat.gcd A B := by have := HV.out; simpa using this.symm
            refine ⟨?_, blw⟩
            rw [← e, KY.out.hi, KY.out.lo]
          · have HS : Hid (V + V < 340282366920938463463374607431768211456) := Lib.hid (by
              have h1 := HV.out; have h2 := HGB.out
              rw [Nat.pow_succ, Nat.mul_comm (2 ^ m) 2, ← Nat.mul_assoc] at h1
              have h3 : V * 2 * 1 ≤ V * 2 * 2 ^ m := Nat.mul_le_mul_left _ (Nat.one_le_two_pow)
              omega)
            go_wp2_with fail
            with_reducible refine (Ysk KY.out KY.out HS.out _).mono ?_
            rintro e w1 ⟨rfl, hb1⟩; have hB_w1 : Below w.heap.size w w1 := Below.trans blw (hb1.mono (by go_size)); have hz_w1 := hb1.size; (repeat (first | rw [World.size_alloc] at hz_w1 | rw [World.size_setCell] at hz_w1 | rw [World.size_drew] at hz_w1 | rw [World.heap_drewN] at hz_w1)); obtain ⟨hd, hg⟩ := Yb7 hb1; clear hb1; have c00 : w1.cell? ⟨w.heap.size, 0, none⟩ = some (.int .u64 xh) := (hd _ _ (by go_size)).trans (by first | exact c00 | exact gsx); have c01 : w1.cell? ⟨w.heap.size, 1, none⟩ = some (.int .u64 xl) := (hd _ _ (by go_size)).trans (by first | exact c01 | exact gsx); have c10 : w1.cell? ⟨w.heap.size + 1, 0, none⟩ = some (.int .u64 vh) := (hd _ _ (by go_size)).trans (by first | exact c10 | exact gsx); have c11 : w1.cell? ⟨w.heap.size + 1, 1, none⟩ = some (.int .u64 vl) := (hd _ _ (by go_size)).trans (by first | exact c11 | exact gsx); have c20 : w1.cell? ⟨w.heap.size + 1 + 1, 0, none⟩ = some (.int .u64 0) := (hd _ _ (by go_size)).trans (by first | exact c20 | exact gsx); have c21 : w1.cell? ⟨w.heap.size + 1 + 1, 1, none⟩ = some (.int .u64 0) := (hd _ _ (by go_size)).trans (by first | exact c21 | exact gsx); have f00 : w1.frozen? ⟨w.heap.size, 0, none⟩ = false := (hg _ _ (by go_size)).trans (by first | exact f00 | exact gsx); have f01 : w1.frozen? ⟨w.heap.size, 1, none⟩ = false := (hg _ _ (by go_size)).trans (by first | exact f01 | exact gsx); have f10 : w1.frozen? ⟨w.heap.size + 1, 0, none⟩ = false := (hg _ _ (by go_size)).trans (by first | exact f10 | exact gsx); have f11 : w1.frozen? ⟨w.heap.size + 1, 1, none⟩ = false := (hg _ _ (by go_size)).trans (by first | exact f11 | exact gsx); have f20 : w1.frozen? ⟨w.heap.size + 1 + 1, 0, none⟩ = false := (hg _ _ (by go_size)).trans (by first | exact f20 | exact gsx); have f21 : w1.frozen? ⟨w.heap.size + 1 + 1, 1, none⟩ = false := (hg _ _ (by go_size)).trans (by first | exact f21 | exact gsx); clear hd hg
            go_wp2_with fail
            go_roundg m
            case measure => omega
            case rel =>
              refine ⟨V + V, _, _, by go_num, by omega, Lib.hid ?_, KX, Lib.hid (IsU.split HS.out), blw, by go_size, ?_, ?_, ?_⟩
              · rw [HV.out, Nat.pow_succ, Nat.mul_comm (2 ^ m) 2, ← Nat.mul_assoc, Nat.mul_two]
              all_goals (refine Lib.hid ⟨?_, ?_, ?_, ?_⟩ <;> exact gsx)
end Go.Proofs.YtpbpafmgkdihlaaGreatDoor
end
