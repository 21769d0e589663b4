import Derived.Test.YtpbpafmgkdihlaaGreatDoorQRefJ
import Derived.Test.YtpbpafmgkdihlaaGreatDoorQRatioA
import Derived.Deep.RegionHeld3
set_option linter.all false
namespace Go.Proofs.YtpbpafmgkdihlaaGreatDoor
open Go.RowKit
theorem Yoa {B : Nat} {bh bl : Int} (hB : IsU B bh bl) (w : World) : Calls Tryz.prog 160 #[.agg #[.int .u64 0, .int .u64 0], .agg #[.int .u64 bh, .int .u64 bl]] w fun e w' =>
      e = .returned (.agg #[.int .u64 (uh B), .int .u64 (ul B)]) ∧ Below w.heap.size w w' := by
  rw [← hB.hi, ← hB.lo]
  clear hB
  go_enter Tryz.func160, Tryz.ntmps160
  go_wp2_with fail
  refine bodyPost_ret (by simp only [results, Tryz.results160]; go_simp; try rfl) rfl ?_
  exact ⟨rfl, blw⟩
theorem Ywk {A B : Nat} {ah al bh bl : Int} (hA : IsU A ah al) (hB : IsU B bh bl) (hB0 : 0 < B) (w : World) : Calls Tryz.prog 160 #[.agg #[.int .u64 ah, .int .u64 al], .agg #[.int .u64 bh, .int .u64 bl]] w fun e w' =>
      e = .returned (.agg #[.int .u64 (uh (Nat.gcd A B)), .int .u64 (ul (Nat.gcd A B))]) ∧ Below w.heap.size w w' := by
  rcases Nat.eq_zero_or_pos A with h | h
  · subst h
    have e1 : ah = 0 := by unfold IsU at hA; omega
    have e2 : al = 0 := by unfold IsU at hA; omega
    subst e1 e2
    rw [Nat.gcd_zero_left]
    exact Yoa hB w
  · exact Yo9 hA hB h hB0 w
theorem Yn7 {n d : Int} (h : d < 1 ∨ 1152921504606846976 < d ∨ n < -1152921504606846976 ∨ 1152921504606846976 < n) : Y09 n d = false := by
 unfold Y09
 rcases h with h | h | h | h
 ·rw [decide_eq_false (by omega)]; simp
 ·rw [decide_eq_false (p := d ≤ _) (by omega)]; simp
 ·rw [decide_eq_false (p := -1152921504606846976 ≤ n) (by omega)]; simp
 ·rw [decide_eq_false (p := n ≤ _) (by omega)]; simp
theorem Yry {n d : Int} (h1 : 1 ≤ d) (h2 : d ≤ 1152921504606846976) (h3 : -1152921504606846976 ≤ n) (h4 : n ≤ 1152921504606846976) : Y09 n d = decide (Nat.gcd n.natAbs d.natAbs = 1) := by
 unfold Y09; simp [h1, h2, h3, h4]
theorem Ywy {w W w1 : World} {p0 : Nat} {v0_0 v0_1 : Value} (h : Below w.heap.size w W ∧ p0 < W.heap.size ∧ W.cell? ⟨p0, 0, none⟩ = some (v0_0) ∧ W.cell? ⟨p0, 1, none⟩ = some (v0_1)) (hb : Below W.heap.size W w1) :
    Below w.heap.size w w1 ∧ p0 < w1.heap.size ∧ w1.cell? ⟨p0, 0, none⟩ = some (v0_0) ∧ w1.cell? ⟨p0, 1, none⟩ = some (v0_1) := by
  obtain ⟨HB, s0, c0_0, c0_1⟩ := h
  exact ⟨HB.trans (hb.mono HB.size), Nat.lt_of_lt_of_le s0 hb.size, (hb.cell (p := ⟨p0, 0, none⟩) s0).trans c0_0, (hb.cell (p := ⟨p0, 1, none⟩) s0).trans c0_1⟩
theorem Yva {w W : World} {p0 : Nat} {v0_0 v0_1 : Value} {o : Obj} (h : Below w.heap.size w W ∧ p0 < W.heap.size ∧ W.cell? ⟨p0, 0, none⟩ = some (v0_0) ∧ W.cell? ⟨p0, 1, none⟩ = some (v0_1)) :
    Below w.heap.size w (W.alloc o) ∧ p0 < (W.alloc o).heap.size ∧ (W.alloc o).cell? ⟨p0, 0, none⟩ = some (v0_0) ∧ (W.alloc o).cell? ⟨p0, 1, none⟩ = some (v0_1) :=
  Ywy h ((Below.refl _ _).alloc (Nat.le_refl _) _)
set_option maxHeartbeats 1000000 in
theorem Yla (n d : Int) (w : World) : Calls Tryz.prog 129 #[.agg #[.int .i64 n, .int .i64 d]] w fun e w' => e = .returned (.bool (Y09 n d)) ∧ Below w.heap.size w w' := by
 by_cases h : d < 1 ∨ 1152921504606846976 < d ∨ n < -1152921504606846976 ∨ 1152921504606846976 < n
 ·rw [Yn7 h]
  have c : d < 1 ∨ (1 ≤ d ∧ 1152921504606846976 < d) ∨ (1 ≤ d ∧ d ≤ 1152921504606846976 ∧ n < -1152921504606846976) ∨ (1 ≤ d ∧ d ≤ 1152921504606846976 ∧ -1152921504606846976 ≤ n ∧ 1152921504606846976 < n) := by omega
  clear h
  rcases c with c | ⟨c1, c⟩ | ⟨c1, c2, c⟩ | ⟨c1, c2, c3, c⟩
  all_goals
   go_enter Tryz.func129, Tryz.ntmps129
   go_wp2_with fail
   go_ret
   exact ⟨rfl, blw⟩
 ·have h1 : 1 ≤ d := by omega
  have h2 : d ≤ 1152921504606846976 := by omega
  have h3 : -1152921504606846976 ≤ n := by omega
  have h4 : n ≤ 1152921504606846976 := by omega
  clear h
  rw [Yry h1 h2 h3 h4]
  have hle : Nat.gcd n.natAbs d.natAbs ≤ d.natAbs := Nat.gcd_le_right _ (by omega)
  have GG : Hid (∀ w, Calls Tryz.prog 160 #[.agg #[.int .u64 0, .int .u64 (n.natAbs : Nat)], .agg #[.int .u64 0, .int .u64 (d.natAbs : Nat)]] w fun e w' => e = .returned (.agg #[.int .u64 0, .int .u64 ((Nat.gcd n.natAbs d.natAbs : Nat) : Int)]) ∧ Below w.heap.size w w') := Lib.hid fun w => by
   have e := Ywk (IsU.small (n := n.natAbs) (by omega)) (IsU.small (n := d.natAbs) (by omega)) (by omega) w
   rwa [Ys2 (by omega), Ys1 (by omega)] at e
  have SN : Hid (∀ w, Calls Tryz.prog 37 #[.int .i64 n] w fun e w' => e = .returned (.int .u64 (n.natAbs : Nat)) ∧ w = w') := Lib.hid fun w => Ydb n (by omega) (by omega) w
  have SD : Hid (∀ w, Calls Tryz.prog 37 #[.int .i64 d] w fun e w' => e = .returned (.int .u64 (d.natAbs : Nat)) ∧ w = w') := Lib.hid fun w => Ydb d (by omega) (by omega) w
  clear hle
  by_cases t : Nat.gcd n.natAbs d.natAbs = 1
  ·rw [decide_eq_true t]
   generalize Nat.gcd n.natAbs d.natAbs = g at t GG
   have t1 : ((g : Int) == 1) = true := by rw [t]; rfl
   clear t
   go_enter Tryz.func129, Tryz.ntmps129
   go_wp2_with fail
   go_region_held3 (fun w' => Below w.heap.size w w' ∧ w.heap.size < w'.heap.size ∧ w'.cell? ⟨w.heap.size, 0, none⟩ = some (.int .i64 n) ∧ w'.cell? ⟨w.heap.size, 1, none⟩ = some (.int .i64 d)) (first | (exact ⟨blw, by go_size, by (first | (go_simp; done) | (simp (maxDischargeDepth := 10) [go_sem, *]; done)), by (first | (go_simp; done) | (simp (maxDischargeDepth := 10) [go_sem, *]; done))⟩) | (refine Ywy ?_ hb1; assumption) | (refine Yva ?_; assumption) | (refine ⟨?_, ?_, ?_, ?_⟩ <;> first | (go_size; done) | ((first | (go_simp; done) | (simp (maxDischargeDepth := 10) [go_sem, *]; done)); done) | ((repeat' (first | (with_reducible exact Below.refl _ _) | (with_reducible assumption) | (with_reducible refine Below.alloc ?_ ?_ _) | (with_reducible refine Below.drew ?_) | (with_reducible refine Ygp ?_ _) | (with_reducible refine Below.setCell ?_ ?_ _) | go_size)); done)))
    (first
     | (go_at_call 37; (first | with_reducible refine (SN.out _).mono ?_ | with_reducible refine (SD.out _).mono ?_); rintro e w' ⟨rfl, rfl⟩)
     | (go_at_call 160; with_reducible refine (GG.out _).mono ?_; rintro e w1 ⟨rfl, hb1⟩))
   all_goals
    go_wp2
    go_ret
    exact ⟨rfl, (‹Below w.heap.size w w1 ∧ _›).1⟩
  ·rw [decide_eq_false t]
   generalize Nat.gcd n.natAbs d.natAbs = g at t GG
   have t1 : ((g : Int) == 1) = false := by simp; omega
   clear t
   go_enter Tryz.func129, Tryz.ntmps129
   go_wp2_with fail
   go_region_held3 (fun w' => Below w.heap.size w w' ∧ w.heap.size < w'.heap.size ∧ w'.cell? ⟨w.heap.size, 0, none⟩ = some (.int .i64 n) ∧ w'.cell? ⟨w.heap.size, 1, none⟩ = some (.int .i64 d)) (first | (exact ⟨blw, by go_size, by (first | (go_simp; done) | (simp (maxDischargeDepth := 10) [go_sem, *]; done)), by (first | (go_simp; done) | (simp (maxDischargeDepth := 10) [go_sem, *]; done))⟩) | (refine Ywy ?_ hb1; assumption) | (refine Yva ?_; assumption) | (refine ⟨?_, ?_, ?_, ?_⟩ <;> first | (go_size; done) | ((first | (go_simp; done) | (simp (maxDischargeDepth := 10) [go_sem, *]; done)); done) | ((repeat' (first | (with_reducible exact Below.refl _ _) | (with_reducible assumption) | (with_reducible refine Below.alloc ?_ ?_ _) | (with_reducible refine Below.drew ?_) | (with_reducible refine Ygp ?_ _) | (with_reducible refine Below.setCell ?_ ?_ _) | go_size)); done)))
    (first
     | (go_at_call 37; (first | with_reducible refine (SN.out _).mono ?_ | with_reducible refine (SD.out _).mono ?_); rintro e w' ⟨rfl, rfl⟩)
     | (go_at_call 160; with_reducible refine (GG.out _).mono ?_; rintro e w1 ⟨rfl, hb1⟩))
   all_goals
    go_wp2
    go_ret
    exact ⟨rfl, (‹Below w.heap.size w w1 ∧ _›).1⟩
end Go.Proofs.YtpbpafmgkdihlaaGreatDoor
