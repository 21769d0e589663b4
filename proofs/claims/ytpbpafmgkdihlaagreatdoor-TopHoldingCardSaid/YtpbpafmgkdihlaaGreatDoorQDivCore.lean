import Derived.Test.YtpbpafmgkdihlaaGreatDoorQBits
import Derived.Test.YtpbpafmgkdihlaaGreatDoorQDivPlain
set_option linter.all false
namespace Go.Proofs.YtpbpafmgkdihlaaGreatDoor
open Go.RowKit
set_option maxRecDepth 100000 in
set_option maxHeartbeats 1000000 in
theorem Ym7 (hi lo y s Y y1 y0 L u1 u0 u3 q1 v q0 R Q : Nat) (h0 : 1 ≤ hi) (h1 : hi < y) (h2 : y < 18446744073709551616) (w : World)
   (hs : Lib.bitLen ((y:Int).toNat) + s = 64)
   (E1 : IntKind.u64.wrap ((y : Int) * 2 ^ s) = (Y : Int)) (E2 : (Y : Int) / 4294967296 = (y1 : Int)) (E3 : bits .and .u64 (Y:Int) 4294967295 = (y0 : Int)) (hy1 : 2147483648 ≤ y1)
   (E5 : IntKind.u64.wrap ((lo : Int) * 2 ^ s) = (L : Int)) (E6 : (L : Int) / 4294967296 = (u1 : Int)) (E7 : bits .and .u64 (L:Int) 4294967295 = (u0 : Int))
   (E4 : bits .or .u64 (IntKind.u64.wrap ((hi : Int) * 2 ^ s)) ((lo : Int) / 2 ^ (64 - s)) = (u3 : Int))
   (by1 : y1 < 4294967296) (by0 : y0 < 4294967296) (bu1 : u1 < 4294967296) (bu0 : u0 < 4294967296) (bu3 : u3 < y1 * 4294967296 + y0) (bu3' : u3 < 18446744073709551616)
   (bv : v < y1 * 4294967296 + y0) (bv' : v < 18446744073709551616)
   (H1 : Hid (q1 = (u3 * 4294967296 + u1) / (y1 * 4294967296 + y0))) (H0 : Hid (q0 = (v * 4294967296 + u0) / (y1 * 4294967296 + y0)))
   (EV : IntKind.u64.wrap (IntKind.u64.wrap (IntKind.u64.wrap ((u3 : Int) * 4294967296) + (u1 : Int)) - IntKind.u64.wrap ((q1 : Int) * (Y : Int))) = (v : Int))
   (ER : IntKind.u64.wrap (IntKind.u64.wrap (IntKind.u64.wrap ((v : Int) * 4294967296) + (u0 : Int)) - IntKind.u64.wrap ((q0 : Int) * (Y : Int))) = (R : Int))
   (bq1 : q1 < 4294967296) (bq0 : q0 < 4294967296) (EQ : (q1 : Int) * 4294967296 + (q0 : Int) = (Q : Int)) :
    Calls Tryz.prog 169 #[.int .u64 hi, .int .u64 lo, .int .u64 y] w fun e w' => e = .returned (.tuple #[.int .u64 (Q : Int), .int .u64 ((R : Int) / 2 ^ s)]) ∧ w = w' := by
  have e1 : (64 : Int) - (Lib.bitLen ((y:Int).toNat) : Int) = (s : Int) := by omega
  have s64 : s ≤ 64 := by omega
  clear hs
  obtain ⟨i1, i2, i3, i4⟩ := Knuth.init y1 y0 u3 u1 hy1 by1 by0 bu3 bu1
  obtain ⟨j1, j2, j3, j4⟩ := Knuth.init y1 y0 v u0 hy1 by1 by0 bv bu0
  have I1 := Lib.hid i1; have I2 := Lib.hid i2; have J1 := Lib.hid j1; have J2 := Lib.hid j2
  have k1 : (0 : Int) ≤ (u3 : Int) / (y1 : Int) ∧ (u3 : Int) / (y1 : Int) ≤ 4294967297 := by rw [← Int.natCast_ediv]; exact ⟨Int.natCast_nonneg _, Int.ofNat_le.2 i3⟩
  have k2 : (0 : Int) ≤ (v : Int) / (y1 : Int) ∧ (v : Int) / (y1 : Int) ≤ 4294967297 := by rw [← Int.natCast_ediv]; exact ⟨Int.natCast_nonneg _, Int.ofNat_le.2 j3⟩
  have m1 : (u3 : Int) / (y1 : Int) * (y1 : Int) + ((u3 % y1 : Nat) : Int) = (u3 : Int) := by rw [← Int.natCast_ediv, ← Int.natCast_mul, ← Int.natCast_add, i1]
  have m2 : (v : Int) / (y1 : Int) * (y1 : Int) + ((v % y1 : Nat) : Int) = (v : Int) := by rw [← Int.natCast_ediv, ← Int.natCast_mul, ← Int.natCast_add, j1]
  have n1 : (0 : Int) ≤ (u3 : Int) / (y1 : Int) * (y1 : Int) ∧ (u3 : Int) / (y1 : Int) * (y1 : Int) ≤ (u3 : Int) := by
    have := Int.natCast_nonneg (u3 % y1)
    refine ⟨?_, by omega⟩
    rw [← Int.natCast_ediv, ← Int.natCast_mul]; exact Int.natCast_nonneg _
  have n2 : (0 : Int) ≤ (v : Int) / (y1 : Int) * (y1 : Int) ∧ (v : Int) / (y1 : Int) * (y1 : Int) ≤ (v : Int) := by
    have := Int.natCast_nonneg (v % y1)
    refine ⟨?_, by omega⟩
    rw [← Int.natCast_ediv, ← Int.natCast_mul]; exact Int.natCast_nonneg _
  have M1 := Lib.hid m1; have M2 := Lib.hid m2
  have r1 : u3 % y1 < 4294967296 := i4
  have r2 : v % y1 < 4294967296 := j4
  have HV := Lib.hid EV; have HR := Lib.hid ER; have HQ := Lib.hid EQ
  clear i1 i2 j1 j2 m1 m2 i3 j3 i4 j4 EV ER EQ
  go_enter Tryz.func169, Tryz.ntmps169
  go_wp2_with (go_at_call 184; refine (Y73 y _ (by omega) (by omega)).mono ?_; rintro e w' ⟨rfl, rfl⟩; rw [e1])
  clear E1 E2 E3 E4 E5 E6 E7 e1
  have Bu3 := Lib.hid bu3; have Bu1 := Lib.hid bu1; have Bv := Lib.hid bv; have Bu0 := Lib.hid bu0; have By0 := Lib.hid by0; have By1 := Lib.hid by1; have Hy1 := Lib.hid hy1; have Br1 := Lib.hid r1; have Br2 := Lib.hid r2; have Bu3' := Lib.hid bu3'; have Bv' := Lib.hid bv'
  have z1 : (2147483648 : Int) ≤ (y1 : Int) ∧ (y1 : Int) ≤ 4294967295 := by omega
  have z2 : (0 : Int) ≤ (u1 : Int) ∧ (u1 : Int) ≤ 4294967295 := by omega
  have z3 : (0 : Int) ≤ (u0 : Int) ∧ (u0 : Int) ≤ 4294967295 := by omega
  have z4 : (0 : Int) ≤ (y0 : Int) ∧ (y0 : Int) ≤ 4294967295 := by omega
  have z5 : (0 : Int) ≤ (s : Int) ∧ (s : Int) ≤ 64 := by omega
  have z6 : (0 : Int) ≤ (q1 : Int) ∧ (q1 : Int) ≤ 4294967295 := by omega
  have z7 : (0 : Int) ≤ (q0 : Int) ∧ (q0 : Int) ≤ 4294967295 := by omega
  clear bq1 bq0 bu3 bu1 bv bu0 by0 by1 hy1 r1 r2 bu3' bv' h0 h1 h2 s64
  go_loop [15, 16] (fun q r => ∃ qn rn : Nat, q = .int .u64 (qn : Int) ∧ r = .int .u64 (rn : Int) ∧ Hid (qn * y1 + rn = u3) ∧ Hid ((u3 * 4294967296 + u1) / (y1 * 4294967296 + y0) ≤ qn) ∧ Hid (qn ≤ 4294967297) ∧ Hid (rn < 4294967296)) (fun q _ => (intOf q).toNat)
  case atStart =>
    refine ⟨u3 / y1, u3 % y1, ?_, ?_, I1, I2, ?_, Br1⟩
    · rw [Int.natCast_ediv]
    · have := M1.out; congr 1; omega
    · rw [← Int.natCast_ediv] at k1; exact Int.ofNat_le.1 k1.2
  case round =>
    obtain ⟨qn, rn, rfl, rfl, R1, R2, Bq, Br⟩ := hrel
    have bq : (0 : Int) ≤ (qn : Int) ∧ (qn : Int) ≤ 4294967297 := by have := Bq.out; omega
    have br : (0 : Int) ≤ (rn : Int) ∧ (rn : Int) ≤ 4294967295 := by have := Br.out; omega
    have pp : (0 : Int) ≤ (qn : Int) * (y0 : Int) := by rw [← Int.natCast_mul]; exact Int.natCast_nonneg _
    rcases Knuth.ways y1 y0 u3 u1 qn rn Hy1.out By0.out Bu3.out Bu1.out R1.out R2.out Bq.out with ⟨t, u, s1, s2, s3, s4, s5⟩ | ⟨⟨t, pq, t2⟩, u, s1, s2, s3, s4, s5⟩ | ⟨t, u, s1, f⟩ | ⟨⟨t, pq, t2⟩, u, s1, f⟩ | ⟨⟨t, pq⟩, t2, f⟩
    · have S2 := Lib.hid s2; have S3 := Lib.hid s3; have S4 := Lib.hid s4; have S5 := Lib.hid s5
      clear s2 s3 s4 s5
      go_wp2_with fail
      refine ⟨⟨qn - 1, rn + y1, ?_, ?_, S2, S3, S4, S5⟩, ?_⟩
      · congr 1; omega
      · congr 1
      · simp [intOf]; omega
    · have S2 := Lib.hid s2; have S3 := Lib.hid s3; have S4 := Lib.hid s4; have S5 := Lib.hid s5
      clear s2 s3 s4 s5
      go_wp2_with fail
      refine ⟨⟨qn - 1, rn + y1, ?_, ?_, S2, S3, S4, S5⟩, ?_⟩
      · congr 1; omega
      · congr 1
      · simp [intOf]; omega
    all_goals
      first
        | (have qe : (qn : Int) - 1 = (q1 : Int) := by have := H1.out; omega)
        | (obtain rfl : qn = q1 := by have := H1.out; omega)
      clear f
      have EV := HV.out
      have vb : (v : Int) ≤ 18446744073709551615 := by have := Bv'.out; omega
      go_wp2_with fail
      clear EV
      go_loop [18, 16] (fun q r => ∃ qn rn : Nat, q = .int .u64 (qn : Int) ∧ r = .int .u64 (rn : Int) ∧ Hid (qn * y1 + rn = v) ∧ Hid ((v * 4294967296 + u0) / (y1 * 4294967296 + y0) ≤ qn) ∧ Hid (qn ≤ 4294967297) ∧ Hid (rn < 4294967296)) (fun q _ => (intOf q).toNat)
      case atStart =>
        refine ⟨v / y1, v % y1, ?_, ?_, J1, J2, ?_, Br2⟩
        · rw [Int.natCast_ediv]
        · have := M2.out; congr 1; omega
        · rw [← Int.natCast_ediv] at k2; exact Int.ofNat_le.1 k2.2
      case round =>
        obtain ⟨qm, rm, rfl, rfl, R1, R2, Bq, Br⟩ := hrel
        have bq : (0 : Int) ≤ (qm : Int) ∧ (qm : Int) ≤ 4294967297 := by have := Bq.out; omega
        have br : (0 : Int) ≤ (rm : Int) ∧ (rm : Int) ≤ 4294967295 := by have := Br.out; omega
        have pp : (0 : Int) ≤ (qm : Int) * (y0 : Int) := by rw [← Int.natCast_mul]; exact Int.natCast_nonneg _
        rcases Knuth.ways y1 y0 v u0 qm rm Hy1.out By0.out Bv.out Bu0.out R1.out R2.out Bq.out with ⟨t, u, s1, s2, s3, s4, s5⟩ | ⟨⟨t, pq, t2⟩, u, s1, s2, s3, s4, s5⟩ | ⟨t, u, s1, f⟩ | ⟨⟨t, pq, t2⟩, u, s1, f⟩ | ⟨⟨t, pq⟩, t2, f⟩
        · have S2 := Lib.hid s2; have S3 := Lib.hid s3; have S4 := Lib.hid s4; have S5 := Lib.hid s5
          clear s2 s3 s4 s5
          go_wp2_with fail
          refine ⟨⟨qm - 1, rm + y1, ?_, ?_, S2, S3, S4, S5⟩, ?_⟩
          · congr 1; omega
          · congr 1
          · simp [intOf]; omega
        · have S2 := Lib.hid s2; have S3 := Lib.hid s3; have S4 := Lib.hid s4; have S5 := Lib.hid s5
          clear s2 s3 s4 s5
          go_wp2_with fail
          refine ⟨⟨qm - 1, rm + y1, ?_, ?_, S2, S3, S4, S5⟩, ?_⟩
          · congr 1; omega
          · congr 1
          · simp [intOf]; omega
        all_goals
          first
            | (have qe2 : (qm : Int) - 1 = (q0 : Int) := by have := H0.out; omega)
            | (obtain rfl : qm = q0 := by have := H0.out; omega)
          clear f
          have ER := HR.out
          have EQ := HQ.out
          go_wp2_with fail
          go_ret2
          exact ⟨rfl, rfl⟩
end Go.Proofs.YtpbpafmgkdihlaaGreatDoor
