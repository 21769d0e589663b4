/- The reference's magnitudes of two words over this seat's program: Size, Less, Plus, Minus, Half, Mul. -/
import Derived.Test.YthabldkbiedfmaaBase
set_option linter.all false
namespace Go.Proofs.Ythabldkbiedfmaa
open Go.RowKit

/-- The two words of a magnitude. -/
def uh (n : Nat) : Int := ((n / 18446744073709551616 : Nat) : Int)
def ul (n : Nat) : Int := ((n % 18446744073709551616 : Nat) : Int)
/-- A magnitude and its words. -/
def IsU (n : Nat) (h l : Int) : Prop := 0 ≤ h ∧ h ≤ 18446744073709551615 ∧ 0 ≤ l ∧ l ≤ 18446744073709551615 ∧ (n : Int) = h * 18446744073709551616 + l

theorem IsU.split {n : Nat} (h : n < 340282366920938463463374607431768211456) : IsU n (uh n) (ul n) := by
  unfold IsU uh ul; omega
theorem IsU.small {n : Nat} (h : n < 18446744073709551616) : IsU n 0 (n : Int) := by
  unfold IsU; omega
theorem IsU.hi {n : Nat} {h l : Int} (k : IsU n h l) : h = uh n := by
  unfold IsU at k; unfold uh; omega
theorem IsU.lo {n : Nat} {h l : Int} (k : IsU n h l) : l = ul n := by
  unfold IsU at k; unfold ul; omega
theorem IsU.lt {n : Nat} {h l : Int} (k : IsU n h l) : n < 340282366920938463463374607431768211456 := by
  unfold IsU at k; omega
theorem uh_small {n : Nat} (h : n < 18446744073709551616) : uh n = 0 := by unfold uh; omega
theorem ul_small {n : Nat} (h : n < 18446744073709551616) : ul n = (n : Int) := by unfold ul; omega

theorem ref_Size (n : Int) (h1 : -9223372036854775808 ≤ n) (h2 : n ≤ 9223372036854775807) (w : World) : Calls Try.prog 183 #[.int .i64 n] w fun e w' => e = .returned (.int .u64 (n.natAbs : Nat)) ∧ w = w' := by
  by_cases h : n < 0
  · have e : ((n.natAbs : Nat) : Int) = -n := by omega
    have e2 : IntKind.u64.wrap n = n + 18446744073709551616 := by rw [IntKind.wrap_u64]; omega
    have e3 : IntKind.u64.wrap (-(n + 18446744073709551616)) = -n := by rw [IntKind.wrap_u64]; omega
    rw [e]
    clear e
    go_enter Try.func183, Try.ntmps183
    go_wp2_with fail
    go_ret
    exact ⟨rfl, rfl⟩
  · have e : ((n.natAbs : Nat) : Int) = n := by omega
    rw [e]
    clear e
    go_enter Try.func183, Try.ntmps183
    go_wp2
    go_ret
    exact ⟨rfl, rfl⟩

theorem ref_Less {A B : Nat} {ah al bh bl : Int} (hA : IsU A ah al) (hB : IsU B bh bl) (w : World) : Calls Try.prog 186 #[.agg #[.int .u64 ah, .int .u64 al], .agg #[.int .u64 bh, .int .u64 bl]] w fun e w' =>
    e = .returned (.bool (decide (A < B))) ∧ Below w.heap.size w w' := by
  obtain ⟨a1, a2, a3, a4, a5⟩ := hA; obtain ⟨b1, b2, b3, b4, b5⟩ := hB
  by_cases h : ah < bh
  · have e : decide (A < B) = true := decide_eq_true (by omega)
    rw [e]
    clear e a5 b5
    go_enter Try.func186, Try.ntmps186
    go_wp2
    go_ret
    exact ⟨rfl, by (repeat' (first | (with_reducible exact Below.refl _ _) | (with_reducible assumption) | (with_reducible refine Below.alloc ?_ ?_ _) | (with_reducible refine Below.drew ?_) | (with_reducible refine bdrewN ?_ _) | (with_reducible refine Below.setCell ?_ ?_ _) | go_size))⟩
  · by_cases h2 : ah = bh
    · subst h2
      by_cases h3 : al < bl
      · have e : decide (A < B) = true := decide_eq_true (by omega)
        rw [e]
        clear e a5 b5
        go_enter Try.func186, Try.ntmps186
        go_wp2
        go_ret
        exact ⟨rfl, by (repeat' (first | (with_reducible exact Below.refl _ _) | (with_reducible assumption) | (with_reducible refine Below.alloc ?_ ?_ _) | (with_reducible refine Below.drew ?_) | (with_reducible refine bdrewN ?_ _) | (with_reducible refine Below.setCell ?_ ?_ _) | go_size))⟩
      · have e : decide (A < B) = false := decide_eq_false (by omega)
        rw [e]
        clear e a5 b5
        go_enter Try.func186, Try.ntmps186
        go_wp2
        go_ret
        exact ⟨rfl, by (repeat' (first | (with_reducible exact Below.refl _ _) | (with_reducible assumption) | (with_reducible refine Below.alloc ?_ ?_ _) | (with_reducible refine Below.drew ?_) | (with_reducible refine bdrewN ?_ _) | (with_reducible refine Below.setCell ?_ ?_ _) | go_size))⟩
    · have e : decide (A < B) = false := decide_eq_false (by omega)
      have h4 : (ah == bh) = false := by simpa using h2
      rw [e]
      clear e a5 b5 h2
      go_enter Try.func186, Try.ntmps186
      go_wp2
      go_ret
      exact ⟨rfl, by (repeat' (first | (with_reducible exact Below.refl _ _) | (with_reducible assumption) | (with_reducible refine Below.alloc ?_ ?_ _) | (with_reducible refine Below.drew ?_) | (with_reducible refine bdrewN ?_ _) | (with_reducible refine Below.setCell ?_ ?_ _) | go_size))⟩

theorem ref_Plus {A B : Nat} {ah al bh bl : Int} (hA : IsU A ah al) (hB : IsU B bh bl) (hs : A + B < 340282366920938463463374607431768211456) (w : World) :
    Calls Try.prog 185 #[.agg #[.int .u64 ah, .int .u64 al], .agg #[.int .u64 bh, .int .u64 bl]] w fun e w' =>
    e = .returned (.agg #[.int .u64 (uh (A + B)), .int .u64 (ul (A + B))]) ∧ Below w.heap.size w w' := by
  obtain ⟨a1, a2, a3, a4, a5⟩ := hA; obtain ⟨b1, b2, b3, b4, b5⟩ := hB
  by_cases c : al + bl ≤ 18446744073709551615
  · have k : IsU (A + B) (ah + bh) (al + bl) := ⟨by omega, by omega, by omega, by omega, by omega⟩
    rw [← k.hi, ← k.lo]
    have c2 : ah + bh ≤ 18446744073709551615 := by omega
    clear k a5 b5 hs
    go_enter Try.func185, Try.ntmps185
    go_wp2
    refine bodyPost_ret (by simp only [results, Try.results185]; go_simp; try rfl) rfl ?_
    exact ⟨rfl, by (repeat' (first | (with_reducible exact Below.refl _ _) | (with_reducible assumption) | (with_reducible refine Below.alloc ?_ ?_ _) | (with_reducible refine Below.drew ?_) | (with_reducible refine bdrewN ?_ _) | (with_reducible refine Below.setCell ?_ ?_ _) | go_size))⟩
  · have k : IsU (A + B) (ah + bh + 1) (al + bl - 18446744073709551616) := ⟨by omega, by omega, by omega, by omega, by omega⟩
    rw [← k.hi, ← k.lo]
    have c2 : ah + bh + 1 ≤ 18446744073709551615 := by omega
    have e : IntKind.u64.wrap (al + bl) = al + bl - 18446744073709551616 := by rw [IntKind.wrap_u64]; omega
    clear k a5 b5 hs
    go_enter Try.func185, Try.ntmps185
    go_wp2
    refine bodyPost_ret (by simp only [results, Try.results185]; go_simp; try rfl) rfl ?_
    exact ⟨rfl, by (repeat' (first | (with_reducible exact Below.refl _ _) | (with_reducible assumption) | (with_reducible refine Below.alloc ?_ ?_ _) | (with_reducible refine Below.drew ?_) | (with_reducible refine bdrewN ?_ _) | (with_reducible refine Below.setCell ?_ ?_ _) | go_size))⟩

theorem ref_Minus {A B C : Nat} {ah al bh bl : Int} (hA : IsU A ah al) (hB : IsU B bh bl) (hC : ((A : Int) - (B : Int)) % 340282366920938463463374607431768211456 = (C : Int)) (w : World) :
    Calls Try.prog 187 #[.agg #[.int .u64 ah, .int .u64 al], .agg #[.int .u64 bh, .int .u64 bl]] w fun e w' =>
    e = .returned (.agg #[.int .u64 (uh C), .int .u64 (ul C)]) ∧ Below w.heap.size w w' := by
  obtain ⟨a1, a2, a3, a4, a5⟩ := hA; obtain ⟨b1, b2, b3, b4, b5⟩ := hB
  by_cases c : al < bl
  · have k : IsU C (IntKind.u64.wrap (IntKind.u64.wrap (ah - bh) - 1)) (IntKind.u64.wrap (al - bl)) := by
      simp only [IsU, IntKind.wrap_u64]; omega
    rw [← k.hi, ← k.lo]
    clear k a5 b5 hC
    go_enter Try.func187, Try.ntmps187
    go_wp2_with fail
    refine bodyPost_ret (by simp only [results, Try.results187]; go_simp; try rfl) rfl ?_
    exact ⟨rfl, by (repeat' (first | (with_reducible exact Below.refl _ _) | (with_reducible assumption) | (with_reducible refine Below.alloc ?_ ?_ _) | (with_reducible refine Below.drew ?_) | (with_reducible refine bdrewN ?_ _) | (with_reducible refine Below.setCell ?_ ?_ _) | go_size))⟩
  · have k : IsU C (IntKind.u64.wrap (ah - bh)) (al - bl) := by
      simp only [IsU, IntKind.wrap_u64]; omega
    rw [← k.hi, ← k.lo]
    clear k a5 b5 hC
    go_enter Try.func187, Try.ntmps187
    go_wp2_with fail
    refine bodyPost_ret (by simp only [results, Try.results187]; go_simp; try rfl) rfl ?_
    exact ⟨rfl, by (repeat' (first | (with_reducible exact Below.refl _ _) | (with_reducible assumption) | (with_reducible refine Below.alloc ?_ ?_ _) | (with_reducible refine Below.drew ?_) | (with_reducible refine bdrewN ?_ _) | (with_reducible refine Below.setCell ?_ ?_ _) | go_size))⟩

theorem ref_Half {A : Nat} {ah al : Int} (hA : IsU A ah al) (w : World) : Calls Try.prog 235 #[.agg #[.int .u64 ah, .int .u64 al]] w fun e w' =>
    e = .returned (.agg #[.int .u64 (uh (A / 2)), .int .u64 (ul (A / 2))]) ∧ Below w.heap.size w w' := by
  obtain ⟨a1, a2, a3, a4, a5⟩ := hA
  have k : IsU (A / 2) (ah / 2) (al / 2 + IntKind.u64.wrap (ah * 9223372036854775808)) := by
    simp only [IsU, IntKind.wrap_u64]; omega
  rw [← k.hi, ← k.lo]
  obtain ⟨k1, k2, k3, k4, k5⟩ := k
  clear a5 k5
  go_enter Try.func235, Try.ntmps235
  go_wp2_with fail
  refine bodyPost_ret (by simp only [results, Try.results235]; go_simp; try rfl) rfl ?_
  exact ⟨rfl, by (repeat' (first | (with_reducible exact Below.refl _ _) | (with_reducible assumption) | (with_reducible refine Below.alloc ?_ ?_ _) | (with_reducible refine Below.drew ?_) | (with_reducible refine bdrewN ?_ _) | (with_reducible refine Below.setCell ?_ ?_ _) | go_size))⟩

theorem mul_low (x y : Nat) (hx : x < 18446744073709551616) (hy : y < 18446744073709551616) :
    ((x % 4294967296 * (y / 4294967296) + (x / 4294967296 * (y % 4294967296) + x % 4294967296 * (y % 4294967296) / 4294967296) % 4294967296) * 4294967296) % 18446744073709551616 + x % 4294967296 * (y % 4294967296) % 4294967296 = x * y % 18446744073709551616 := by
  have e : x * y = (x / 4294967296) * (y / 4294967296) * (4294967296 * 4294967296) + ((x / 4294967296) * (y % 4294967296) + (x % 4294967296) * (y / 4294967296)) * 4294967296 + (x % 4294967296) * (y % 4294967296) := by
    rw [← Lib.split_mul, Nat.div_add_mod' x 4294967296, Nat.div_add_mod' y 4294967296]
  have ha := Lib.half_mul_le (a := x / 4294967296) (b := y / 4294967296) (by omega) (by omega)
  have hb := Lib.half_mul_le (a := x / 4294967296) (b := y % 4294967296) (by omega) (by omega)
  have hc := Lib.half_mul_le (a := x % 4294967296) (b := y / 4294967296) (by omega) (by omega)
  have hd := Lib.half_mul_le (a := x % 4294967296) (b := y % 4294967296) (by omega) (by omega)
  rw [e]
  clear e
  generalize (x / 4294967296) * (y / 4294967296) = a at *
  generalize (x / 4294967296) * (y % 4294967296) = b at *
  generalize (x % 4294967296) * (y / 4294967296) = c at *
  generalize (x % 4294967296) * (y % 4294967296) = d at *
  omega

set_option maxHeartbeats 1000000 in
theorem ref_Mul (x y : Nat) (hx : x < 18446744073709551616) (hy : y < 18446744073709551616) (w : World) :
    Calls Try.prog 182 #[.int .u64 x, .int .u64 y] w fun e w' => e = .returned (.agg #[.int .u64 (uh (x * y)), .int .u64 (ul (x * y))]) ∧ Below w.heap.size w w' := by
  obtain ⟨bd, bt, bw, hhi⟩ := Lib.mul64_hi x y hx hy
  have hlo := mul_low x y hx hy
  have ba := Lib.half_mul_le (a := x / 4294967296) (b := y / 4294967296) (by omega) (by omega)
  have bb := Lib.half_mul_le (a := x / 4294967296) (b := y % 4294967296) (by omega) (by omega)
  have bc := Lib.half_mul_le (a := x % 4294967296) (b := y / 4294967296) (by omega) (by omega)
  have ba' : x / 4294967296 * (y / 4294967296) < 18446744073709551616 := by omega
  have bb' : x / 4294967296 * (y % 4294967296) < 18446744073709551616 := by omega
  have bc' : x % 4294967296 * (y / 4294967296) < 18446744073709551616 := by omega
  have bw' : x % 4294967296 * (y / 4294967296) + (x / 4294967296 * (y % 4294967296) + x % 4294967296 * (y % 4294967296) / 4294967296) % 4294967296 < 18446744073709551616 := by omega
  rw [Nat.add_comm ((x / 4294967296 * (y % 4294967296) + x % 4294967296 * (y % 4294967296) / 4294967296) % 4294967296)] at hhi
  have b1 : x / 4294967296 * (y / 4294967296) + (x / 4294967296 * (y % 4294967296) + x % 4294967296 * (y % 4294967296) / 4294967296) / 4294967296 < 18446744073709551616 := by omega
  have b2 : x / 4294967296 * (y / 4294967296) + (x / 4294967296 * (y % 4294967296) + x % 4294967296 * (y % 4294967296) / 4294967296) / 4294967296 + (x % 4294967296 * (y / 4294967296) + (x / 4294967296 * (y % 4294967296) + x % 4294967296 * (y % 4294967296) / 4294967296) % 4294967296) / 4294967296 < 18446744073709551616 := by omega
  have mulL : ∀ a : Nat, (a : Int) * 4294967296 = ((a * 4294967296 : Nat) : Int) := fun a => by omega
  have b3 : ((x % 4294967296 * (y / 4294967296) + (x / 4294967296 * (y % 4294967296) + x % 4294967296 * (y % 4294967296) / 4294967296) % 4294967296) * 4294967296) % 18446744073709551616 + x % 4294967296 * (y % 4294967296) % 4294967296 < 18446744073709551616 := by
    rw [hlo]; exact Nat.mod_lt _ (by decide)
  have HL := Lib.hid hlo; have HH := Lib.hid hhi; have ML := Lib.hid mulL
  clear hlo hhi mulL
  go_enter Try.func182, Try.ntmps182
  go_wp2
  simp only [Mul64.maskN x hx, Mul64.maskN y hy, Mul64.divN, Mul64.mulN, Mul64.addN, Mul64.wrapN _ bd, Mul64.wrapN _ bb', Mul64.wrapN _ bt, Mul64.maskN _ bt, Mul64.wrapN _ bc', Mul64.wrapN _ bw', Mul64.wrapN _ ba', Mul64.maskN _ bd, Mul64.wrapN _ b1, Mul64.wrapN _ b2, ML.out, Mul64.wrapM ((x % 4294967296 * (y / 4294967296) + (x / 4294967296 * (y % 4294967296) + x % 4294967296 * (y % 4294967296) / 4294967296) % 4294967296) * 4294967296), Mul64.wrapN _ b3]
  rw [HL.out, HH.out]
  refine bodyPost_ret (by simp only [results, Try.results182]; go_simp; try rfl) rfl ?_
  exact ⟨rfl, by (repeat' (first | (with_reducible exact Below.refl _ _) | (with_reducible assumption) | (with_reducible refine Below.alloc ?_ ?_ _) | (with_reducible refine Below.drew ?_) | (with_reducible refine bdrewN ?_ _) | (with_reducible refine Below.setCell ?_ ?_ _) | go_size))⟩
end Go.Proofs.Ythabldkbiedfmaa
