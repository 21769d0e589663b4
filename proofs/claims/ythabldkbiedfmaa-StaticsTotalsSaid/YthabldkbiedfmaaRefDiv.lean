/- The reference's division of magnitudes over this seat's program. -/
import Derived.Test.YthabldkbiedfmaaRefU
set_option linter.all false
namespace Go.Proofs.Ythabldkbiedfmaa
open Go.RowKit

theorem shl1 {N h l b : Int} (_h1 : 0 ≤ h) (_h2 : h ≤ 18446744073709551615) (_l1 : 0 ≤ l) (_l2 : l ≤ 18446744073709551615) (hN : N = h * 18446744073709551616 + l) (b1 : 0 ≤ b) (b2 : b ≤ 1) :
    (2 * N + b) % 340282366920938463463374607431768211456 = IntKind.u64.wrap (IntKind.u64.wrap (h * 2) + l / 9223372036854775808) * 18446744073709551616 + IntKind.u64.wrap (IntKind.u64.wrap (l * 2) + b) := by
  simp only [IntKind.wrap_u64]
  omega

/-- One step: what the quotient and the remainder of the next prefix are. -/
theorem step_up (P B b : Nat) (_hb : b ≤ 1) (hB : 0 < B) (t : B ≤ 2 * (P % B) + b) : (2 * P + b) / B = 2 * (P / B) + 1 ∧ (2 * P + b) % B = 2 * (P % B) + b - B := by
  have e := Nat.div_add_mod P B
  have m := Nat.mod_lt P hB
  have k : 2 * P + b = (2 * (P % B) + b - B) + B * (2 * (P / B) + 1) := by
    have : B * (2 * (P / B) + 1) = 2 * (B * (P / B)) + B := by rw [Nat.mul_add, Nat.mul_one, Nat.mul_left_comm]
    omega
  rw [k, Nat.add_mul_div_left _ _ hB, Nat.add_mul_mod_self_left, Nat.div_eq_of_lt (by omega), Nat.mod_eq_of_lt (by omega)]
  exact ⟨by omega, rfl⟩
theorem step_no (P B b : Nat) (hB : 0 < B) (t : 2 * (P % B) + b < B) : (2 * P + b) / B = 2 * (P / B) ∧ (2 * P + b) % B = 2 * (P % B) + b := by
  have e := Nat.div_add_mod P B
  have k : 2 * P + b = (2 * (P % B) + b) + B * (2 * (P / B)) := by
    have : B * (2 * (P / B)) = 2 * (B * (P / B)) := by rw [Nat.mul_left_comm]
    omega
  rw [k, Nat.add_mul_div_left _ _ hB, Nat.add_mul_mod_self_left, Nat.div_eq_of_lt t, Nat.mod_eq_of_lt t]
  exact ⟨by omega, rfl⟩
theorem prefix_up (A k P a : Nat) (h : A * 2 ^ k = P * 340282366920938463463374607431768211456 + a) :
    A * 2 ^ (k + 1) = (2 * P + 2 * a / 340282366920938463463374607431768211456) * 340282366920938463463374607431768211456 + 2 * a % 340282366920938463463374607431768211456 := by
  have e := Nat.div_add_mod' (2 * a) 340282366920938463463374607431768211456
  rw [Nat.pow_succ, ← Nat.mul_assoc, h, Nat.add_mul]
  omega
theorem prefix_le (A k P a : Nat) (hk : k ≤ 128) (h : A * 2 ^ k = P * 340282366920938463463374607431768211456 + a) : P ≤ A := by
  have : A * 2 ^ k ≤ A * 340282366920938463463374607431768211456 := Nat.mul_le_mul_left _ (by
    have : 2 ^ k ≤ 2 ^ 128 := Nat.pow_le_pow_right (by omega) hk
    simpa using this)
  omega
theorem prefix_end (A P a : Nat) (ha : a < 340282366920938463463374607431768211456) (h : A * 2 ^ 128 = P * 340282366920938463463374607431768211456 + a) : P = A := by
  have e : (2 : Nat) ^ 128 = 340282366920938463463374607431768211456 := by decide
  rw [e] at h
  omega

theorem minus_mod (T B : Nat) (h : B ≤ T) (h2 : T - B < 340282366920938463463374607431768211456) : (((T % 340282366920938463463374607431768211456 : Nat) : Int) - (B : Int)) % 340282366920938463463374607431768211456 = ((T - B : Nat) : Int) := by
  omega

theorem div_round {A B k P a q r : Nat} {xh xl qh ql rh rl : Int} (hA : A < 340282366920938463463374607431768211456) (hk : k < 128) (HP : A * 2 ^ k = P * 340282366920938463463374607431768211456 + a) (Hq : q = P / B)
    (Ka : IsU a xh xl) (Kq : IsU q qh ql) (Kr : IsU r rh rl) :
    ∃ (bit : Nat) (sh sl yh yl ph pl : Int), bit = 2 * a / 340282366920938463463374607431768211456 ∧ bit ≤ 1 ∧
      IntKind.u64.wrap (IntKind.u64.wrap (rh * 2) + rl / 9223372036854775808) = sh ∧ IntKind.u64.wrap (IntKind.u64.wrap (rl * 2) + xh / 9223372036854775808) = sl ∧
      IntKind.u64.wrap (IntKind.u64.wrap (xh * 2) + xl / 9223372036854775808) = yh ∧ IntKind.u64.wrap (xl * 2) = yl ∧
      IntKind.u64.wrap (IntKind.u64.wrap (qh * 2) + ql / 9223372036854775808) = ph ∧ IntKind.u64.wrap (ql * 2) = pl ∧
      IsU ((2 * r + bit) % 340282366920938463463374607431768211456) sh sl ∧ IsU (2 * a % 340282366920938463463374607431768211456) yh yl ∧ IsU (2 * q) ph pl ∧ IsU (2 * q + 1) ph (pl + 1) ∧
      (0 < rh / 9223372036854775808 → 340282366920938463463374607431768211456 ≤ 2 * r + bit) ∧ (¬ 0 < rh / 9223372036854775808 → 2 * r + bit < 340282366920938463463374607431768211456) := by
  have hP : 2 * P + 2 * a / 340282366920938463463374607431768211456 ≤ A := prefix_le A (k + 1) _ _ (by omega) (prefix_up A k P a HP)
  have hq : q ≤ P := by rw [Hq]; exact Nat.div_le_self _ _
  obtain ⟨x1, x2, x3, x4, x5⟩ := Ka; obtain ⟨q1, q2, q3, q4, q5⟩ := Kq; obtain ⟨r1, r2, r3, r4, r5⟩ := Kr
  clear HP Hq
  have bx : ((2 * a / 340282366920938463463374607431768211456 : Nat) : Int) = xh / 9223372036854775808 := by omega
  refine ⟨2 * a / 340282366920938463463374607431768211456, _, _, _, _, _, _, rfl, by omega, rfl, rfl, rfl, rfl, rfl, rfl, ?_, ?_, ?_, ?_, by omega, by omega⟩
  · generalize 2 * a / 340282366920938463463374607431768211456 = bit at *
    simp only [IsU, IntKind.wrap_u64]
    omega
  · simp only [IsU, IntKind.wrap_u64]
    omega
  · simp only [IsU, IntKind.wrap_u64]
    omega
  · simp only [IsU, IntKind.wrap_u64]
    omega

def Cell2 (w : World) (b : Nat) (k : IntKind) (x y : Int) : Prop :=
  w.cell? ⟨b, 0, none⟩ = some (.int k x) ∧ w.cell? ⟨b, 1, none⟩ = some (.int k y) ∧ w.frozen? ⟨b, 0, none⟩ = false ∧ w.frozen? ⟨b, 1, none⟩ = false

set_option maxRecDepth 100000 in
set_option maxHeartbeats 4000000 in
theorem ref_Div_big {A B : Nat} {ah al bh bl : Int} (hA : IsU A ah al) (hB : IsU B bh bl) (hB0 : 0 < B) (hbig : (ah == 0) = false ∨ ((ah == 0) = true ∧ (bh == 0) = false)) (w : World) :
    Calls Try.prog 227 #[.agg #[.int .u64 ah, .int .u64 al], .agg #[.int .u64 bh, .int .u64 bl]] w fun e w' =>
      e = .returned (.tuple #[.agg #[.int .u64 (uh (A / B)), .int .u64 (ul (A / B))], .agg #[.int .u64 (uh (A % B)), .int .u64 (ul (A % B))]]) ∧ Below w.heap.size w w' := by
  obtain ⟨a1, a2, a3, a4, a5⟩ := hA; obtain ⟨b1, b2, b3, b4, b5⟩ := hB
  have KA : Hid (IsU A ah al) := Lib.hid ⟨a1, a2, a3, a4, a5⟩
  have KB : Hid (IsU B bh bl) := Lib.hid ⟨b1, b2, b3, b4, b5⟩
  have HB0 := Lib.hid hB0
  clear a5 b5 hB0
  rcases hbig with h1 | ⟨h1, h2⟩
  all_goals
    go_enter Try.func227, Try.ntmps227
    go_wp2
    go_loopw [8] (fun i wr => ∃ (k P a q r : Nat) (xh xl qh ql rh rl : Int), k ≤ 128 ∧ i = .int .i64 (k : Int) ∧ Hid (A * 2 ^ k = P * 340282366920938463463374607431768211456 + a) ∧ Hid (q = P / B) ∧ Hid (r = P % B) ∧
        Hid (IsU a xh xl) ∧ Hid (IsU q qh ql) ∧ Hid (IsU r rh rl) ∧ Below w.heap.size w wr ∧ w.heap.size + 6 ≤ wr.heap.size ∧
        Hid (Cell2 wr w.heap.size .u64 xh xl) ∧ Hid (Cell2 wr (w.heap.size + 1) .u64 bh bl) ∧ Hid (Cell2 wr (w.heap.size + 1 + 1) .u64 0 0) ∧ Hid (Cell2 wr (w.heap.size + 1 + 1 + 1) .u64 0 0) ∧ Hid (Cell2 wr (w.heap.size + 1 + 1 + 1 + 1) .u64 qh ql) ∧ Hid (Cell2 wr (w.heap.size + 1 + 1 + 1 + 1 + 1) .u64 rh rl))
      (fun i _ => 128 - (intOf i).toNat)
    case atStart =>
      refine ⟨0, 0, A, 0, 0, ah, al, 0, 0, 0, 0, by omega, rfl, Lib.hid (by omega), Lib.hid (by simp), Lib.hid (by simp), KA, Lib.hid (IsU.small (by omega)), Lib.hid (IsU.small (by omega)), by (repeat' (first | (with_reducible exact Below.refl _ _) | (with_reducible assumption) | (with_reducible refine Below.alloc ?_ ?_ _) | (with_reducible refine Below.drew ?_) | (with_reducible refine bdrewN ?_ _) | (with_reducible refine Below.setCell ?_ ?_ _) | go_size)), by go_size, ?_, ?_, ?_, ?_, ?_, ?_⟩
      all_goals (refine Lib.hid ⟨?_, ?_, ?_, ?_⟩ <;> (first | (go_simp; done) | (simp (maxDischargeDepth := 10) [go_sem, *]; done)))
    case round =>
      obtain ⟨k, P, a, q, r, xh, xl, qh, ql, rh, rl, hk, rfl, HP, Hq, Hr, Ka, Kq, Kr, hB1, hz, C0, C1, C2, C3, C4, C5⟩ := hrel
      obtain ⟨hk1, hk2, hk3, hk4, hk5, hk6⟩ := kf6 hz
      obtain ⟨c00, c01, f00, f01⟩ := C0.out; obtain ⟨c10, c11, f10, f11⟩ := C1.out; obtain ⟨c20, c21, f20, f21⟩ := C2.out
      obtain ⟨c30, c31, f30, f31⟩ := C3.out; obtain ⟨c40, c41, f40, f41⟩ := C4.out; obtain ⟨c50, c51, f50, f51⟩ := C5.out
      clear C0 C1 C2 C3 C4 C5
      obtain ⟨x1, x2, x3, x4, -⟩ := Ka.out; obtain ⟨q1, q2, q3, q4, -⟩ := Kq.out; obtain ⟨r1, r2, r3, r4, -⟩ := Kr.out
      have kr := Kr.out; have kq := Kq.out; have ka := Ka.out
      by_cases hlt : k < 128
      · obtain ⟨bit, sh, sl, yh, yl, ph, pl, hbit, hb1, E1, E2, E3, E4, E5, E6, S1, S2, S3, S4, ov1, ov2⟩ := div_round KA.out.lt hlt HP.out Hq.out ka kq kr
        have hbn := HB0.out
        have hPn : r = P % B := Hr.out
        have hqn : q = P / B := Hq.out
        have hpre := prefix_up A k P a HP.out
        rw [← hbit] at hpre
        have HP' := Lib.hid hpre
        have KS := Lib.hid S1; have KY := Lib.hid S2; have KQ := Lib.hid S3; have KQ1 := Lib.hid S4
        have HV : Hid (B ≤ 2 * r + bit → 2 * q + 1 = (2 * P + bit) / B ∧ 2 * r + bit - B = (2 * P + bit) % B) := Lib.hid fun t => by
          rw [hPn] at t ⊢; rw [hqn]; have := step_up P B bit hb1 hbn t; exact ⟨this.1.symm, this.2.symm⟩
        have HW : Hid (¬ B ≤ 2 * r + bit → 2 * q = (2 * P + bit) / B ∧ 2 * r + bit = (2 * P + bit) % B) := Lib.hid fun t => by
          rw [hPn] at t ⊢; rw [hqn]; have := step_no P B bit hbn (by omega); exact ⟨this.1.symm, this.2.symm⟩
        have HO1 := Lib.hid ov1; have HO2 := Lib.hid ov2
        obtain ⟨s1, s2, s3, s4, -⟩ := S1; obtain ⟨y1, y2, y3, y4, -⟩ := S2; obtain ⟨p1, p2, p3, p4, -⟩ := S3; obtain ⟨-, -, o3, o4, -⟩ := S4
        have hBlt := KB.out.lt
        have hrB : Hid (r < B) := Lib.hid (by rw [hPn]; exact Nat.mod_lt _ hbn)
        clear kr kq ka hbit hbn hPn hqn hpre ov1 ov2
        by_cases ov : (0 : Int) < rh / 9223372036854775808
        · have t1 := HO1.out ov
          have t2 : B ≤ 2 * r + bit := by omega
          have hlt2 : 2 * r + bit - B < 340282366920938463463374607431768211456 := by have := hrB.out; omega
          have hC := minus_mod (2 * r + bit) B t2 hlt2
          have HL2 := Lib.hid hlt2
          have HC := Lib.hid hC
          have HT2 := Lib.hid t2
          clear hb1 t1 t2 hC hBlt hlt2
          go_wp2_with fail
          with_reducible refine (ref_Minus KS.out KB.out HC.out _).mono ?_
          rintro e w1 ⟨rfl, hb1⟩; obtain ⟨hB1, hK1, hd1, hg1⟩ := after (w := w) (w.heap.size + 6) (by (repeat' (first | (with_reducible exact Below.refl _ _) | (with_reducible assumption) | (with_reducible refine Below.alloc ?_ ?_ _) | (with_reducible refine Below.drew ?_) | (with_reducible refine bdrewN ?_ _) | (with_reducible refine Below.setCell ?_ ?_ _) | go_size))) (by go_size) hb1; clear hb1; obtain ⟨hk1, hk2, hk3, hk4, hk5, hk6⟩ := kf6 hK1; have hc00 : w1.cell? ⟨w.heap.size, 0, none⟩ = some _ := (hd1 _ _ (by go_size)).trans (by go_simp; try rfl); have hf00 : w1.frozen? ⟨w.heap.size, 0, none⟩ = false := (hg1 _ _ (by go_size)).trans (by go_simp); have hc01 : w1.cell? ⟨w.heap.size, 1, none⟩ = some _ := (hd1 _ _ (by go_size)).trans (by go_simp; try rfl); have hf01 : w1.frozen? ⟨w.heap.size, 1, none⟩ = false := (hg1 _ _ (by go_size)).trans (by go_simp); have hc10 : w1.cell? ⟨w.heap.size + 1, 0, none⟩ = some _ := (hd1 _ _ (by go_size)).trans (by go_simp; try rfl); have hf10 : w1.frozen? ⟨w.heap.size + 1, 0, none⟩ = false := (hg1 _ _ (by go_size)).trans (by go_simp); have hc11 : w1.cell? ⟨w.heap.size + 1, 1, none⟩ = some _ := (hd1 _ _ (by go_size)).trans (by go_simp; try rfl); have hf11 : w1.frozen? ⟨w.heap.size + 1, 1, none⟩ = false := (hg1 _ _ (by go_size)).trans (by go_simp); have hc20 : w1.cell? ⟨w.heap.size + 1 + 1, 0, none⟩ = some _ := (hd1 _ _ (by go_size)).trans (by go_simp; try rfl); have hf20 : w1.frozen? ⟨w.heap.size + 1 + 1, 0, none⟩ = false := (hg1 _ _ (by go_size)).trans (by go_simp); have hc21 : w1.cell? ⟨w.heap.size + 1 + 1, 1, none⟩ = some _ := (hd1 _ _ (by go_size)).trans (by go_simp; try rfl); have hf21 : w1.frozen? ⟨w.heap.size + 1 + 1, 1, none⟩ = false := (hg1 _ _ (by go_size)).trans (by go_simp); have hc30 : w1.cell? ⟨w.heap.size + 1 + 1 + 1, 0, none⟩ = some _ := (hd1 _ _ (by go_size)).trans (by go_simp; try rfl); have hf30 : w1.frozen? ⟨w.heap.size + 1 + 1 + 1, 0, none⟩ = false := (hg1 _ _ (by go_size)).trans (by go_simp); have hc31 : w1.cell? ⟨w.heap.size + 1 + 1 + 1, 1, none⟩ = some _ := (hd1 _ _ (by go_size)).trans (by go_simp; try rfl); have hf31 : w1.frozen? ⟨w.heap.size + 1 + 1 + 1, 1, none⟩ = false := (hg1 _ _ (by go_size)).trans (by go_simp); have hc40 : w1.cell? ⟨w.heap.size + 1 + 1 + 1 + 1, 0, none⟩ = some _ := (hd1 _ _ (by go_size)).trans (by go_simp; try rfl); have hf40 : w1.frozen? ⟨w.heap.size + 1 + 1 + 1 + 1, 0, none⟩ = false := (hg1 _ _ (by go_size)).trans (by go_simp); have hc41 : w1.cell? ⟨w.heap.size + 1 + 1 + 1 + 1, 1, none⟩ = some _ := (hd1 _ _ (by go_size)).trans (by go_simp; try rfl); have hf41 : w1.frozen? ⟨w.heap.size + 1 + 1 + 1 + 1, 1, none⟩ = false := (hg1 _ _ (by go_size)).trans (by go_simp); have hc50 : w1.cell? ⟨w.heap.size + 1 + 1 + 1 + 1 + 1, 0, none⟩ = some _ := (hd1 _ _ (by go_size)).trans (by go_simp; try rfl); have hf50 : w1.frozen? ⟨w.heap.size + 1 + 1 + 1 + 1 + 1, 0, none⟩ = false := (hg1 _ _ (by go_size)).trans (by go_simp); have hc51 : w1.cell? ⟨w.heap.size + 1 + 1 + 1 + 1 + 1, 1, none⟩ = some _ := (hd1 _ _ (by go_size)).trans (by go_simp; try rfl); have hf51 : w1.frozen? ⟨w.heap.size + 1 + 1 + 1 + 1 + 1, 1, none⟩ = false := (hg1 _ _ (by go_size)).trans (by go_simp)
          go_wp2_with fail
          go_roundw
          case rel =>
            refine ⟨k + 1, 2 * P + bit, _, 2 * q + 1, 2 * r + bit - B, yh, yl, ph, pl + 1, uh (2 * r + bit - B), ul (2 * r + bit - B), by omega, by go_num, HP', Lib.hid (HV.out HT2.out).1, Lib.hid (HV.out HT2.out).2, KY, KQ1, Lib.hid (IsU.split ?_), by (repeat' (first | (with_reducible exact Below.refl _ _) | (with_reducible assumption) | (with_reducible refine Below.alloc ?_ ?_ _) | (with_reducible refine Below.drew ?_) | (with_reducible refine bdrewN ?_ _) | (with_reducible refine Below.setCell ?_ ?_ _) | go_size)), by go_size, ?_, ?_, ?_, ?_, ?_, ?_⟩
            · exact HL2.out
            all_goals (refine Lib.hid ⟨?_, ?_, ?_, ?_⟩ <;> (first | (go_simp; done) | (simp (maxDischargeDepth := 10) [go_sem, *]; done)))
          case measure => simp [intOf]; omega
        · have t1 := HO2.out ov
          have E1b : rh * 2 + rl / 9223372036854775808 = sh := by
            have h := E1
            simp only [IntKind.wrap_u64] at h
            omega
          by_cases t2 : B ≤ 2 * r + bit
          · have hlt2 : 2 * r + bit - B < 340282366920938463463374607431768211456 := by omega
            have hC := minus_mod (2 * r + bit) B t2 hlt2
            have hless : (decide ((2 * r + bit) % 340282366920938463463374607431768211456 < B)) = false := decide_eq_false (by omega)
            have HL := Lib.hid hless
            have HL2 := Lib.hid hlt2
            have HC := Lib.hid hC
            have HT2 := Lib.hid t2
            clear hb1 t1 t2 hC hBlt hlt2 hless
            go_wp2_with fail
            with_reducible refine (ref_Less KS.out KB.out _).mono ?_
            rw [HL.out]
            rintro e w1 ⟨rfl, hb1⟩; obtain ⟨hB1, hK1, hd1, hg1⟩ := after (w := w) (w.heap.size + 6) (by (repeat' (first | (with_reducible exact Below.refl _ _) | (with_reducible assumption) | (with_reducible refine Below.alloc ?_ ?_ _) | (with_reducible refine Below.drew ?_) | (with_reducible refine bdrewN ?_ _) | (with_reducible refine Below.setCell ?_ ?_ _) | go_size))) (by go_size) hb1; clear hb1; obtain ⟨hk1, hk2, hk3, hk4, hk5, hk6⟩ := kf6 hK1; have hc00 : w1.cell? ⟨w.heap.size, 0, none⟩ = some _ := (hd1 _ _ (by go_size)).trans (by go_simp; try rfl); have hf00 : w1.frozen? ⟨w.heap.size, 0, none⟩ = false := (hg1 _ _ (by go_size)).trans (by go_simp); have hc01 : w1.cell? ⟨w.heap.size, 1, none⟩ = some _ := (hd1 _ _ (by go_size)).trans (by go_simp; try rfl); have hf01 : w1.frozen? ⟨w.heap.size, 1, none⟩ = false := (hg1 _ _ (by go_size)).trans (by go_simp); have hc10 : w1.cell? ⟨w.heap.size + 1, 0, none⟩ = some _ := (hd1 _ _ (by go_size)).trans (by go_simp; try rfl); have hf10 : w1.frozen? ⟨w.heap.size + 1, 0, none⟩ = false := (hg1 _ _ (by go_size)).trans (by go_simp); have hc11 : w1.cell? ⟨w.heap.size + 1, 1, none⟩ = some _ := (hd1 _ _ (by go_size)).trans (by go_simp; try rfl); have hf11 : w1.frozen? ⟨w.heap.size + 1, 1, none⟩ = false := (hg1 _ _ (by go_size)).trans (by go_simp); have hc20 : w1.cell? ⟨w.heap.size + 1 + 1, 0, none⟩ = some _ := (hd1 _ _ (by go_size)).trans (by go_simp; try rfl); have hf20 : w1.frozen? ⟨w.heap.size + 1 + 1, 0, none⟩ = false := (hg1 _ _ (by go_size)).trans (by go_simp); have hc21 : w1.cell? ⟨w.heap.size + 1 + 1, 1, none⟩ = some _ := (hd1 _ _ (by go_size)).trans (by go_simp; try rfl); have hf21 : w1.frozen? ⟨w.heap.size + 1 + 1, 1, none⟩ = false := (hg1 _ _ (by go_size)).trans (by go_simp); have hc30 : w1.cell? ⟨w.heap.size + 1 + 1 + 1, 0, none⟩ = some _ := (hd1 _ _ (by go_size)).trans (by go_simp; try rfl); have hf30 : w1.frozen? ⟨w.heap.size + 1 + 1 + 1, 0, none⟩ = false := (hg1 _ _ (by go_size)).trans (by go_simp); have hc31 : w1.cell? ⟨w.heap.size + 1 + 1 + 1, 1, none⟩ = some _ := (hd1 _ _ (by go_size)).trans (by go_simp; try rfl); have hf31 : w1.frozen? ⟨w.heap.size + 1 + 1 + 1, 1, none⟩ = false := (hg1 _ _ (by go_size)).trans (by go_simp); have hc40 : w1.cell? ⟨w.heap.size + 1 + 1 + 1 + 1, 0, none⟩ = some _ := (hd1 _ _ (by go_size)).trans (by go_simp; try rfl); have hf40 : w1.frozen? ⟨w.heap.size + 1 + 1 + 1 + 1, 0, none⟩ = false := (hg1 _ _ (by go_size)).trans (by go_simp); have hc41 : w1.cell? ⟨w.heap.size + 1 + 1 + 1 + 1, 1, none⟩ = some _ := (hd1 _ _ (by go_size)).trans (by go_simp; try rfl); have hf41 : w1.frozen? ⟨w.heap.size + 1 + 1 + 1 + 1, 1, none⟩ = false := (hg1 _ _ (by go_size)).trans (by go_simp); have hc50 : w1.cell? ⟨w.heap.size + 1 + 1 + 1 + 1 + 1, 0, none⟩ = some _ := (hd1 _ _ (by go_size)).trans (by go_simp; try rfl); have hf50 : w1.frozen? ⟨w.heap.size + 1 + 1 + 1 + 1 + 1, 0, none⟩ = false := (hg1 _ _ (by go_size)).trans (by go_simp); have hc51 : w1.cell? ⟨w.heap.size + 1 + 1 + 1 + 1 + 1, 1, none⟩ = some _ := (hd1 _ _ (by go_size)).trans (by go_simp; try rfl); have hf51 : w1.frozen? ⟨w.heap.size + 1 + 1 + 1 + 1 + 1, 1, none⟩ = false := (hg1 _ _ (by go_size)).trans (by go_simp)
            go_wp2_with fail
            with_reducible refine (ref_Minus KS.out KB.out HC.out _).mono ?_
            rintro e w1 ⟨rfl, hb1⟩; obtain ⟨hB1, hK1, hd1, hg1⟩ := after (w := w) (w.heap.size + 6) (by (repeat' (first | (with_reducible exact Below.refl _ _) | (with_reducible assumption) | (with_reducible refine Below.alloc ?_ ?_ _) | (with_reducible refine Below.drew ?_) | (with_reducible refine bdrewN ?_ _) | (with_reducible refine Below.setCell ?_ ?_ _) | go_size))) (by go_size) hb1; clear hb1; obtain ⟨hk1, hk2, hk3, hk4, hk5, hk6⟩ := kf6 hK1; have hc00 : w1.cell? ⟨w.heap.size, 0, none⟩ = some _ := (hd1 _ _ (by go_size)).trans (by go_simp; try rfl); have hf00 : w1.frozen? ⟨w.heap.size, 0, none⟩ = false := (hg1 _ _ (by go_size)).trans (by go_simp); have hc01 : w1.cell? ⟨w.heap.size, 1, none⟩ = some _ := (hd1 _ _ (by go_size)).trans (by go_simp; try rfl); have hf01 : w1.frozen? ⟨w.heap.size, 1, none⟩ = false := (hg1 _ _ (by go_size)).trans (by go_simp); have hc10 : w1.cell? ⟨w.heap.size + 1, 0, none⟩ = some _ := (hd1 _ _ (by go_size)).trans (by go_simp; try rfl); have hf10 : w1.frozen? ⟨w.heap.size + 1, 0, none⟩ = false := (hg1 _ _ (by go_size)).trans (by go_simp); have hc11 : w1.cell? ⟨w.heap.size + 1, 1, none⟩ = some _ := (hd1 _ _ (by go_size)).trans (by go_simp; try rfl); have hf11 : w1.frozen? ⟨w.heap.size + 1, 1, none⟩ = false := (hg1 _ _ (by go_size)).trans (by go_simp); have hc20 : w1.cell? ⟨w.heap.size + 1 + 1, 0, none⟩ = some _ := (hd1 _ _ (by go_size)).trans (by go_simp; try rfl); have hf20 : w1.frozen? ⟨w.heap.size + 1 + 1, 0, none⟩ = false := (hg1 _ _ (by go_size)).trans (by go_simp); have hc21 : w1.cell? ⟨w.heap.size + 1 + 1, 1, none⟩ = some _ := (hd1 _ _ (by go_size)).trans (by go_simp; try rfl); have hf21 : w1.frozen? ⟨w.heap.size + 1 + 1, 1, none⟩ = false := (hg1 _ _ (by go_size)).trans (by go_simp); have hc30 : w1.cell? ⟨w.heap.size + 1 + 1 + 1, 0, none⟩ = some _ := (hd1 _ _ (by go_size)).trans (by go_simp; try rfl); have hf30 : w1.frozen? ⟨w.heap.size + 1 + 1 + 1, 0, none⟩ = false := (hg1 _ _ (by go_size)).trans (by go_simp); have hc31 : w1.cell? ⟨w.heap.size + 1 + 1 + 1, 1, none⟩ = some _ := (hd1 _ _ (by go_size)).trans (by go_simp; try rfl); have hf31 : w1.frozen? ⟨w.heap.size + 1 + 1 + 1, 1, none⟩ = false := (hg1 _ _ (by go_size)).trans (by go_simp); have hc40 : w1.cell? ⟨w.heap.size + 1 + 1 + 1 + 1, 0, none⟩ = some _ := (hd1 _ _ (by go_size)).trans (by go_simp; try rfl); have hf40 : w1.frozen? ⟨w.heap.size + 1 + 1 + 1 + 1, 0, none⟩ = false := (hg1 _ _ (by go_size)).trans (by go_simp); have hc41 : w1.cell? ⟨w.heap.size + 1 + 1 + 1 + 1, 1, none⟩ = some _ := (hd1 _ _ (by go_size)).trans (by go_simp; try rfl); have hf41 : w1.frozen? ⟨w.heap.size + 1 + 1 + 1 + 1, 1, none⟩ = false := (hg1 _ _ (by go_size)).trans (by go_simp); have hc50 : w1.cell? ⟨w.heap.size + 1 + 1 + 1 + 1 + 1, 0, none⟩ = some _ := (hd1 _ _ (by go_size)).trans (by go_simp; try rfl); have hf50 : w1.frozen? ⟨w.heap.size + 1 + 1 + 1 + 1 + 1, 0, none⟩ = false := (hg1 _ _ (by go_size)).trans (by go_simp); have hc51 : w1.cell? ⟨w.heap.size + 1 + 1 + 1 + 1 + 1, 1, none⟩ = some _ := (hd1 _ _ (by go_size)).trans (by go_simp; try rfl); have hf51 : w1.frozen? ⟨w.heap.size + 1 + 1 + 1 + 1 + 1, 1, none⟩ = false := (hg1 _ _ (by go_size)).trans (by go_simp)
            go_wp2_with fail
            go_roundw
            case rel =>
              refine ⟨k + 1, 2 * P + bit, _, 2 * q + 1, 2 * r + bit - B, yh, yl, ph, pl + 1, uh (2 * r + bit - B), ul (2 * r + bit - B), by omega, by go_num, HP', Lib.hid (HV.out HT2.out).1, Lib.hid (HV.out HT2.out).2, KY, KQ1, Lib.hid (IsU.split ?_), by (repeat' (first | (with_reducible exact Below.refl _ _) | (with_reducible assumption) | (with_reducible refine Below.alloc ?_ ?_ _) | (with_reducible refine Below.drew ?_) | (with_reducible refine bdrewN ?_ _) | (with_reducible refine Below.setCell ?_ ?_ _) | go_size)), by go_size, ?_, ?_, ?_, ?_, ?_, ?_⟩
              · exact HL2.out
              all_goals (refine Lib.hid ⟨?_, ?_, ?_, ?_⟩ <;> (first | (go_simp; done) | (simp (maxDischargeDepth := 10) [go_sem, *]; done)))
            case measure => simp [intOf]; omega
          · have hless : (decide ((2 * r + bit) % 340282366920938463463374607431768211456 < B)) = true := decide_eq_true (by omega)
            have HL := Lib.hid hless
            have HT2 := Lib.hid t2
            clear hb1 t1 t2 hless hBlt
            go_wp2_with fail
            with_reducible refine (ref_Less KS.out KB.out _).mono ?_
            rw [HL.out]
            rintro e w1 ⟨rfl, hb1⟩; obtain ⟨hB1, hK1, hd1, hg1⟩ := after (w := w) (w.heap.size + 6) (by (repeat' (first | (with_reducible exact Below.refl _ _) | (with_reducible assumption) | (with_reducible refine Below.alloc ?_ ?_ _) | (with_reducible refine Below.drew ?_) | (with_reducible refine bdrewN ?_ _) | (with_reducible refine Below.setCell ?_ ?_ _) | go_size))) (by go_size) hb1; clear hb1; obtain ⟨hk1, hk2, hk3, hk4, hk5, hk6⟩ := kf6 hK1; have hc00 : w1.cell? ⟨w.heap.size, 0, none⟩ = some _ := (hd1 _ _ (by go_size)).trans (by go_simp; try rfl); have hf00 : w1.frozen? ⟨w.heap.size, 0, none⟩ = false := (hg1 _ _ (by go_size)).trans (by go_simp); have hc01 : w1.cell? ⟨w.heap.size, 1, none⟩ = some _ := (hd1 _ _ (by go_size)).trans (by go_simp; try rfl); have hf01 : w1.frozen? ⟨w.heap.size, 1, none⟩ = false := (hg1 _ _ (by go_size)).trans (by go_simp); have hc10 : w1.cell? ⟨w.heap.size + 1, 0, none⟩ = some _ := (hd1 _ _ (by go_size)).trans (by go_simp; try rfl); have hf10 : w1.frozen? ⟨w.heap.size + 1, 0, none⟩ = false := (hg1 _ _ (by go_size)).trans (by go_simp); have hc11 : w1.cell? ⟨w.heap.size + 1, 1, none⟩ = some _ := (hd1 _ _ (by go_size)).trans (by go_simp; try rfl); have hf11 : w1.frozen? ⟨w.heap.size + 1, 1, none⟩ = false := (hg1 _ _ (by go_size)).trans (by go_simp); have hc20 : w1.cell? ⟨w.heap.size + 1 + 1, 0, none⟩ = some _ := (hd1 _ _ (by go_size)).trans (by go_simp; try rfl); have hf20 : w1.frozen? ⟨w.heap.size + 1 + 1, 0, none⟩ = false := (hg1 _ _ (by go_size)).trans (by go_simp); have hc21 : w1.cell? ⟨w.heap.size + 1 + 1, 1, none⟩ = some _ := (hd1 _ _ (by go_size)).trans (by go_simp; try rfl); have hf21 : w1.frozen? ⟨w.heap.size + 1 + 1, 1, none⟩ = false := (hg1 _ _ (by go_size)).trans (by go_simp); have hc30 : w1.cell? ⟨w.heap.size + 1 + 1 + 1, 0, none⟩ = some _ := (hd1 _ _ (by go_size)).trans (by go_simp; try rfl); have hf30 : w1.frozen? ⟨w.heap.size + 1 + 1 + 1, 0, none⟩ = false := (hg1 _ _ (by go_size)).trans (by go_simp); have hc31 : w1.cell? ⟨w.heap.size + 1 + 1 + 1, 1, none⟩ = some _ := (hd1 _ _ (by go_size)).trans (by go_simp; try rfl); have hf31 : w1.frozen? ⟨w.heap.size + 1 + 1 + 1, 1, none⟩ = false := (hg1 _ _ (by go_size)).trans (by go_simp); have hc40 : w1.cell? ⟨w.heap.size + 1 + 1 + 1 + 1, 0, none⟩ = some _ := (hd1 _ _ (by go_size)).trans (by go_simp; try rfl); have hf40 : w1.frozen? ⟨w.heap.size + 1 + 1 + 1 + 1, 0, none⟩ = false := (hg1 _ _ (by go_size)).trans (by go_simp); have hc41 : w1.cell? ⟨w.heap.size + 1 + 1 + 1 + 1, 1, none⟩ = some _ := (hd1 _ _ (by go_size)).trans (by go_simp; try rfl); have hf41 : w1.frozen? ⟨w.heap.size + 1 + 1 + 1 + 1, 1, none⟩ = false := (hg1 _ _ (by go_size)).trans (by go_simp); have hc50 : w1.cell? ⟨w.heap.size + 1 + 1 + 1 + 1 + 1, 0, none⟩ = some _ := (hd1 _ _ (by go_size)).trans (by go_simp; try rfl); have hf50 : w1.frozen? ⟨w.heap.size + 1 + 1 + 1 + 1 + 1, 0, none⟩ = false := (hg1 _ _ (by go_size)).trans (by go_simp); have hc51 : w1.cell? ⟨w.heap.size + 1 + 1 + 1 + 1 + 1, 1, none⟩ = some _ := (hd1 _ _ (by go_size)).trans (by go_simp; try rfl); have hf51 : w1.frozen? ⟨w.heap.size + 1 + 1 + 1 + 1 + 1, 1, none⟩ = false := (hg1 _ _ (by go_size)).trans (by go_simp)
            go_wp2_with fail
            go_roundw
            case rel =>
              have hn := HW.out HT2.out
              have em : (2 * r + bit) % 340282366920938463463374607431768211456 = 2 * r + bit := Nat.mod_eq_of_lt (HO2.out ov)
              refine ⟨k + 1, 2 * P + bit, _, 2 * q, 2 * r + bit, yh, yl, ph, pl, sh, sl, by omega, by go_num, HP', Lib.hid hn.1, Lib.hid hn.2, KY, KQ, Lib.hid (em ▸ KS.out), by (repeat' (first | (with_reducible exact Below.refl _ _) | (with_reducible assumption) | (with_reducible refine Below.alloc ?_ ?_ _) | (with_reducible refine Below.drew ?_) | (with_reducible refine bdrewN ?_ _) | (with_reducible refine Below.setCell ?_ ?_ _) | go_size)), by go_size, ?_, ?_, ?_, ?_, ?_, ?_⟩
              all_goals (refine Lib.hid ⟨?_, ?_, ?_, ?_⟩ <;> (first | (go_simp; done) | (simp (maxDischargeDepth := 10) [go_sem, *]; done)))
            case measure => simp [intOf]; omega
      · have hk128 : k = 128 := by omega
        have hPA : P = A := prefix_end A P a ka.lt (by have := HP.out; rwa [hk128] at this)
        have eq : q = A / B := by rw [Hq.out, hPA]
        have er : r = A % B := by rw [Hr.out, hPA]
        have Hx := Lib.hid (show qh = uh (A / B) ∧ ql = ul (A / B) ∧ rh = uh (A % B) ∧ rl = ul (A % B) from by rw [← eq, ← er]; exact ⟨kq.hi, kq.lo, kr.hi, kr.lo⟩)
        clear kr kq ka hk128 hPA eq er
        go_wp2_with fail
        go_region
        all_goals
          go_wp2
          refine bodyPost_ret (by simp only [results, Try.results227]; go_simp; try rfl) rfl ?_
          obtain ⟨z1, z2, z3, z4⟩ := Hx.out
          exact ⟨by rw [z1, z2, z3, z4], by (repeat' (first | (with_reducible exact Below.refl _ _) | (with_reducible assumption) | (with_reducible refine Below.alloc ?_ ?_ _) | (with_reducible refine Below.drew ?_) | (with_reducible refine bdrewN ?_ _) | (with_reducible refine Below.setCell ?_ ?_ _) | go_size))⟩

set_option maxHeartbeats 400000 in
theorem ref_Div_small {al bl : Int} (a1 : 0 ≤ al) (a2 : al ≤ 18446744073709551615) (b1 : 1 ≤ bl) (b2 : bl ≤ 18446744073709551615) (w : World) :
    Calls Try.prog 227 #[.agg #[.int .u64 0, .int .u64 al], .agg #[.int .u64 0, .int .u64 bl]] w fun e w' =>
      e = .returned (.tuple #[.agg #[.int .u64 0, .int .u64 (al / bl)], .agg #[.int .u64 0, .int .u64 (al % bl)]]) ∧ Below w.heap.size w w' := by
  have z : (bl == 0) = false := by simp; omega
  go_enter Try.func227, Try.ntmps227
  go_wp2
  go_region
  all_goals
    go_wp2
    refine bodyPost_ret (by simp only [results, Try.results227]; go_simp; try rfl) rfl ?_
    exact ⟨rfl, by (repeat' (first | (with_reducible exact Below.refl _ _) | (with_reducible assumption) | (with_reducible refine Below.alloc ?_ ?_ _) | (with_reducible refine Below.drew ?_) | (with_reducible refine bdrewN ?_ _) | (with_reducible refine Below.setCell ?_ ?_ _) | go_size))⟩
end Go.Proofs.Ythabldkbiedfmaa
