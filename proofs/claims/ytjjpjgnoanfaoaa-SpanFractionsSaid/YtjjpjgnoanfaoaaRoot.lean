/- Package span's root, Root, Of over this seat's program. -/
import Derived.Test.YtjjpjgnoanfaoaaSpanH
import Derived.Test.YtjjpjgnoanfaoaaRatioA
import Derived.Test.YtjjpjgnoanfaoaaRootPlain
set_option linter.all false
namespace Go.Proofs.Ytjjpjgnoanfaoaa
open Go.RowKit

set_option maxHeartbeats 400000 in
theorem span_rootN (n : Nat) (hn : n ≤ 1152921504606846976) (w : World) : Calls Try.prog 75 #[.int .i64 n] w fun e w' => e = .returned (.int .i64 (isqrt n : Nat)) ∧ w = w' := by
  have bn : (0 : Int) ≤ (n : Int) ∧ (n : Int) ≤ 1152921504606846976 := by omega
  have Hn := Lib.hid hn
  clear hn
  go_enter Try.func75, Try.ntmps75
  go_wp2
  go_loop [3, 4] (fun p q => ∃ (k r b : Nat), p = .int .i64 (r : Int) ∧ q = .int .i64 (b : Int) ∧ Hid (isqGo n k r = isqrt n) ∧ Hid (b = 2 ^ k / 2) ∧ Hid (r + 2 ^ k ≤ 2147483648)) (fun _ q => (intOf q).toNat)
  case atStart => exact ⟨31, 0, 1073741824, rfl, rfl, Lib.hid rfl, Lib.hid (by decide), Lib.hid (by decide)⟩
  case round =>
    obtain ⟨k, r, b, rfl, rfl, G, Hb, Hr⟩ := hrel
    cases k with
    | zero =>
      have e : b = 0 := Hb.out
      subst e
      have e2 : r = isqrt n := G.out
      have E := Lib.hid e2
      clear e2
      go_wp2
      go_ret
      exact ⟨congrArg (fun t : Nat => Ending.returned (.int .i64 (t : Int))) E.out, rfl⟩
    | succ k =>
      have e : b = 2 ^ k := by rw [Hb.out, Nat.pow_succ]; omega
      have b1 : 1 ≤ b := by rw [e]; exact Nat.pow_pos (by omega)
      have br : r + b + b ≤ 2147483648 := by have := Hr.out; rw [Nat.pow_succ, ← e] at this; omega
      have g := G.out
      rw [isqGo, ← e] at g
      have c1 : (1 : Int) ≤ (b : Int) ∧ (b : Int) ≤ 1073741824 := by omega
      have c2 : (0 : Int) ≤ (r : Int) ∧ (r : Int) + (b : Int) ≤ 2147483648 := by omega
      have c3 : (0 : Int) ≤ ((r : Int) + (b : Int)) * ((r : Int) + (b : Int)) ∧ ((r : Int) + (b : Int)) * ((r : Int) + (b : Int)) ≤ 4611686018427387904 := by
        have : (r + b) * (r + b) ≤ 2147483648 * 2147483648 := Nat.mul_le_mul (by omega) (by omega)
        rw [← Int.natCast_add, ← Int.natCast_mul]
        omega
      have E := Lib.hid e
      have Br := Lib.hid br
      clear e b1 br
      by_cases t : ((r : Int) + (b : Int)) * ((r : Int) + (b : Int)) ≤ (n : Int)
      · have t' : (r + b) * (r + b) ≤ n := by rw [← Int.natCast_add, ← Int.natCast_mul] at t; omega
        rw [if_pos t'] at g
        have G2 := Lib.hid g
        clear g t'
        go_wp2
        go_round
        case rel => exact ⟨k, r + b, b / 2, by go_num, by go_num, G2, Lib.hid (by rw [E.out]), Lib.hid (by have := Br.out; rw [← E.out]; omega)⟩
        case measure => simp [intOf]; omega
      · have t' : ¬ (r + b) * (r + b) ≤ n := by rw [← Int.natCast_add, ← Int.natCast_mul] at t; omega
        rw [if_neg t'] at g
        have G2 := Lib.hid g
        clear g t'
        go_wp2
        go_round
        case rel => exact ⟨k, r, b / 2, rfl, by go_num, G2, Lib.hid (by rw [E.out]), Lib.hid (by have := Br.out; rw [← E.out]; omega)⟩
        case measure => simp [intOf]; omega

/-- The root of an end. -/
def rt (n : Int) : Int := (isqrt n.toNat : Nat)
theorem span_root (n : Int) (h0 : 0 ≤ n) (hn : n ≤ 1152921504606846976) (w : World) : Calls Try.prog 75 #[.int .i64 n] w fun e w' => e = .returned (.int .i64 (rt n)) ∧ w = w' := by
  obtain ⟨n, rfl⟩ := Int.eq_ofNat_of_zero_le h0
  have h := span_rootN n (by omega) w
  simpa [rt] using h

theorem rt_bounds (n : Int) (hn : n ≤ 1152921504606846976) : 0 ≤ rt n ∧ rt n ≤ 1073741824 := by
  have := isqrt_le n.toNat (by omega)
  unfold rt
  omega

def rootS (a b : Int) : T3 := if vspan a b then (if a < 0 then (0, 0, 2) else (rt a, (if rt b * rt b < b then rt b + 1 else rt b), 0)) else (0, 0, 1)

set_option maxHeartbeats 400000 in
theorem span_Root (a b : Int) (w : World) : Calls Try.prog 24 #[.agg #[.int .i64 a, .int .i64 b]] w fun e w' =>
    e = .returned (.tuple #[.agg #[.int .i64 (rootS a b).1, .int .i64 (rootS a b).2.1], .int .i64 (rootS a b).2.2]) ∧ Below w.heap.size w w' := by
  cases h1 : vspan a b
  · have e : rootS a b = (0, 0, 1) := by rw [rootS, h1, if_neg (by decide)]
    rw [e]
    clear e
    go_enter Try.func24, Try.ntmps24
    go_wp2_with (first | (go_at_call 72; refine (span_Valid _ _ _).mono ?_; rintro e w1 ⟨rfl, hb1⟩; obtain ⟨hB1, hK1, hd1, hg1⟩ := after (w := w) (w.heap.size + 2) (by (repeat' (first | (with_reducible exact Below.refl _ _) | (with_reducible assumption) | (with_reducible refine Below.alloc ?_ ?_ _) | (with_reducible refine Below.drew ?_) | (with_reducible refine bdrewN ?_ _) | (with_reducible refine Below.setCell ?_ ?_ _) | go_size))) (by go_size) hb1; clear hb1; obtain ⟨hk1, hk2⟩ := kf2 hK1; have hc00 : w1.cell? ⟨w.heap.size, 0, none⟩ = some _ := (hd1 _ _ (by go_size)).trans (by go_simp; try rfl); have hf00 : w1.frozen? ⟨w.heap.size, 0, none⟩ = false := (hg1 _ _ (by go_size)).trans (by go_simp); have hc01 : w1.cell? ⟨w.heap.size, 1, none⟩ = some _ := (hd1 _ _ (by go_size)).trans (by go_simp; try rfl); have hf01 : w1.frozen? ⟨w.heap.size, 1, none⟩ = false := (hg1 _ _ (by go_size)).trans (by go_simp); have hc10 : w1.cell? ⟨w.heap.size + 1, 0, none⟩ = some _ := (hd1 _ _ (by go_size)).trans (by go_simp; try rfl); have hf10 : w1.frozen? ⟨w.heap.size + 1, 0, none⟩ = false := (hg1 _ _ (by go_size)).trans (by go_simp); have hc11 : w1.cell? ⟨w.heap.size + 1, 1, none⟩ = some _ := (hd1 _ _ (by go_size)).trans (by go_simp; try rfl); have hf11 : w1.frozen? ⟨w.heap.size + 1, 1, none⟩ = false := (hg1 _ _ (by go_size)).trans (by go_simp)))
    refine bodyPost_ret (by simp only [results, Try.results24]; go_simp; try rfl) rfl ?_
    exact ⟨rfl, by (repeat' (first | (with_reducible exact Below.refl _ _) | (with_reducible assumption) | (with_reducible refine Below.alloc ?_ ?_ _) | (with_reducible refine Below.drew ?_) | (with_reducible refine bdrewN ?_ _) | (with_reducible refine Below.setCell ?_ ?_ _) | go_size))⟩
  · have b1 := vspan_bounds h1
    by_cases z : a < 0
    · have e : rootS a b = (0, 0, 2) := by rw [rootS, h1, if_pos rfl, if_pos z]
      rw [e]
      clear e
      go_enter Try.func24, Try.ntmps24
      go_wp2_with (first | (go_at_call 72; refine (span_Valid _ _ _).mono ?_; rintro e w1 ⟨rfl, hb1⟩; obtain ⟨hB1, hK1, hd1, hg1⟩ := after (w := w) (w.heap.size + 2) (by (repeat' (first | (with_reducible exact Below.refl _ _) | (with_reducible assumption) | (with_reducible refine Below.alloc ?_ ?_ _) | (with_reducible refine Below.drew ?_) | (with_reducible refine bdrewN ?_ _) | (with_reducible refine Below.setCell ?_ ?_ _) | go_size))) (by go_size) hb1; clear hb1; obtain ⟨hk1, hk2⟩ := kf2 hK1; have hc00 : w1.cell? ⟨w.heap.size, 0, none⟩ = some _ := (hd1 _ _ (by go_size)).trans (by go_simp; try rfl); have hf00 : w1.frozen? ⟨w.heap.size, 0, none⟩ = false := (hg1 _ _ (by go_size)).trans (by go_simp); have hc01 : w1.cell? ⟨w.heap.size, 1, none⟩ = some _ := (hd1 _ _ (by go_size)).trans (by go_simp; try rfl); have hf01 : w1.frozen? ⟨w.heap.size, 1, none⟩ = false := (hg1 _ _ (by go_size)).trans (by go_simp); have hc10 : w1.cell? ⟨w.heap.size + 1, 0, none⟩ = some _ := (hd1 _ _ (by go_size)).trans (by go_simp; try rfl); have hf10 : w1.frozen? ⟨w.heap.size + 1, 0, none⟩ = false := (hg1 _ _ (by go_size)).trans (by go_simp); have hc11 : w1.cell? ⟨w.heap.size + 1, 1, none⟩ = some _ := (hd1 _ _ (by go_size)).trans (by go_simp; try rfl); have hf11 : w1.frozen? ⟨w.heap.size + 1, 1, none⟩ = false := (hg1 _ _ (by go_size)).trans (by go_simp)))
      refine bodyPost_ret (by simp only [results, Try.results24]; go_simp; try rfl) rfl ?_
      exact ⟨rfl, by (repeat' (first | (with_reducible exact Below.refl _ _) | (with_reducible assumption) | (with_reducible refine Below.alloc ?_ ?_ _) | (with_reducible refine Below.drew ?_) | (with_reducible refine bdrewN ?_ _) | (with_reducible refine Below.setCell ?_ ?_ _) | go_size))⟩
    · obtain ⟨r0, r1⟩ := rt_bounds a (by omega)
      obtain ⟨s0, s1⟩ := rt_bounds b (by omega)
      have sq : 0 ≤ rt b * rt b ∧ rt b * rt b ≤ 1152921504606846976 :=
        ⟨Int.mul_nonneg s0 s0, Int.le_trans (Int.mul_le_mul s1 s1 s0 (by decide)) (by decide)⟩
      by_cases t : rt b * rt b < b
      · have e : rootS a b = (rt a, rt b + 1, 0) := by rw [rootS, h1, if_pos rfl, if_neg z, if_pos t]
        rw [e]
        clear e
        go_enter Try.func24, Try.ntmps24
        go_wp2_with (first | (go_at_call 72; refine (span_Valid _ _ _).mono ?_; rintro e w1 ⟨rfl, hb1⟩; obtain ⟨hB1, hK1, hd1, hg1⟩ := after (w := w) (w.heap.size + 2) (by (repeat' (first | (with_reducible exact Below.refl _ _) | (with_reducible assumption) | (with_reducible refine Below.alloc ?_ ?_ _) | (with_reducible refine Below.drew ?_) | (with_reducible refine bdrewN ?_ _) | (with_reducible refine Below.setCell ?_ ?_ _) | go_size))) (by go_size) hb1; clear hb1; obtain ⟨hk1, hk2⟩ := kf2 hK1; have hc00 : w1.cell? ⟨w.heap.size, 0, none⟩ = some _ := (hd1 _ _ (by go_size)).trans (by go_simp; try rfl); have hf00 : w1.frozen? ⟨w.heap.size, 0, none⟩ = false := (hg1 _ _ (by go_size)).trans (by go_simp); have hc01 : w1.cell? ⟨w.heap.size, 1, none⟩ = some _ := (hd1 _ _ (by go_size)).trans (by go_simp; try rfl); have hf01 : w1.frozen? ⟨w.heap.size, 1, none⟩ = false := (hg1 _ _ (by go_size)).trans (by go_simp); have hc10 : w1.cell? ⟨w.heap.size + 1, 0, none⟩ = some _ := (hd1 _ _ (by go_size)).trans (by go_simp; try rfl); have hf10 : w1.frozen? ⟨w.heap.size + 1, 0, none⟩ = false := (hg1 _ _ (by go_size)).trans (by go_simp); have hc11 : w1.cell? ⟨w.heap.size + 1, 1, none⟩ = some _ := (hd1 _ _ (by go_size)).trans (by go_simp; try rfl); have hf11 : w1.frozen? ⟨w.heap.size + 1, 1, none⟩ = false := (hg1 _ _ (by go_size)).trans (by go_simp)))
        go_region_held3 (fun w' => w'.cell? ⟨w.heap.size, 0, none⟩ = some (.int .i64 a) ∧ w'.cell? ⟨w.heap.size, 1, none⟩ = some (.int .i64 b)) (go_keep)
          (first | (go_at_call 75; refine (span_root _ (by omega) (by omega) _).mono ?_; rintro e w' ⟨rfl, rfl⟩))
        all_goals
          go_wp2
          refine bodyPost_ret (by simp only [results, Try.results24]; go_simp; try rfl) rfl ?_
          exact ⟨rfl, by (repeat' (first | (with_reducible exact Below.refl _ _) | (with_reducible assumption) | (with_reducible refine Below.alloc ?_ ?_ _) | (with_reducible refine Below.drew ?_) | (with_reducible refine bdrewN ?_ _) | (with_reducible refine Below.setCell ?_ ?_ _) | go_size))⟩
      · have e : rootS a b = (rt a, rt b, 0) := by rw [rootS, h1, if_pos rfl, if_neg z, if_neg t]
        rw [e]
        clear e
        go_enter Try.func24, Try.ntmps24
        go_wp2_with (first | (go_at_call 72; refine (span_Valid _ _ _).mono ?_; rintro e w1 ⟨rfl, hb1⟩; obtain ⟨hB1, hK1, hd1, hg1⟩ := after (w := w) (w.heap.size + 2) (by (repeat' (first | (with_reducible exact Below.refl _ _) | (with_reducible assumption) | (with_reducible refine Below.alloc ?_ ?_ _) | (with_reducible refine Below.drew ?_) | (with_reducible refine bdrewN ?_ _) | (with_reducible refine Below.setCell ?_ ?_ _) | go_size))) (by go_size) hb1; clear hb1; obtain ⟨hk1, hk2⟩ := kf2 hK1; have hc00 : w1.cell? ⟨w.heap.size, 0, none⟩ = some _ := (hd1 _ _ (by go_size)).trans (by go_simp; try rfl); have hf00 : w1.frozen? ⟨w.heap.size, 0, none⟩ = false := (hg1 _ _ (by go_size)).trans (by go_simp); have hc01 : w1.cell? ⟨w.heap.size, 1, none⟩ = some _ := (hd1 _ _ (by go_size)).trans (by go_simp; try rfl); have hf01 : w1.frozen? ⟨w.heap.size, 1, none⟩ = false := (hg1 _ _ (by go_size)).trans (by go_simp); have hc10 : w1.cell? ⟨w.heap.size + 1, 0, none⟩ = some _ := (hd1 _ _ (by go_size)).trans (by go_simp; try rfl); have hf10 : w1.frozen? ⟨w.heap.size + 1, 0, none⟩ = false := (hg1 _ _ (by go_size)).trans (by go_simp); have hc11 : w1.cell? ⟨w.heap.size + 1, 1, none⟩ = some _ := (hd1 _ _ (by go_size)).trans (by go_simp; try rfl); have hf11 : w1.frozen? ⟨w.heap.size + 1, 1, none⟩ = false := (hg1 _ _ (by go_size)).trans (by go_simp)))
        go_region_held3 (fun w' => w'.cell? ⟨w.heap.size, 0, none⟩ = some (.int .i64 a) ∧ w'.cell? ⟨w.heap.size, 1, none⟩ = some (.int .i64 b)) (go_keep)
          (first | (go_at_call 75; refine (span_root _ (by omega) (by omega) _).mono ?_; rintro e w' ⟨rfl, rfl⟩))
        all_goals
          go_wp2
          refine bodyPost_ret (by simp only [results, Try.results24]; go_simp; try rfl) rfl ?_
          exact ⟨rfl, by (repeat' (first | (with_reducible exact Below.refl _ _) | (with_reducible assumption) | (with_reducible refine Below.alloc ?_ ?_ _) | (with_reducible refine Below.drew ?_) | (with_reducible refine bdrewN ?_ _) | (with_reducible refine Below.setCell ?_ ?_ _) | go_size))⟩

def ofS (n d unit : Int) : T3 := if vfrac n d then (if unit < 1 ∨ 1099511627776 < unit then (0, 0, 2) else hullS [(n, unit, d)]) else (0, 0, 1)

theorem vfrac_bounds {n d : Int} (h : vfrac n d = true) : 1 ≤ d ∧ d ≤ 1152921504606846976 ∧ -1152921504606846976 ≤ n ∧ n ≤ 1152921504606846976 ∧ Nat.gcd n.natAbs d.natAbs = 1 := by
  simp [vfrac] at h; exact ⟨by omega, by omega, by omega, by omega, h.2⟩

set_option maxHeartbeats 400000 in
theorem span_Of (n d unit : Int) (w : World) : Calls Try.prog 26 #[.agg #[.int .i64 n, .int .i64 d], .int .i64 unit] w fun e w' =>
    e = .returned (.tuple #[.agg #[.int .i64 (ofS n d unit).1, .int .i64 (ofS n d unit).2.1], .int .i64 (ofS n d unit).2.2]) ∧ Below w.heap.size w w' := by
  cases h1 : vfrac n d
  · have e : ofS n d unit = (0, 0, 1) := by rw [ofS, h1, if_neg (by decide)]
    rw [e]
    clear e
    go_enter Try.func26, Try.ntmps26
    go_wp2_with (first | (go_at_call 78; refine (ratio_Valid _ _ _).mono ?_; rintro e w1 ⟨rfl, hb1⟩; obtain ⟨hB1, hK1, hd1, hg1⟩ := after (w := w) (w.heap.size + 2) (by (repeat' (first | (with_reducible exact Below.refl _ _) | (with_reducible assumption) | (with_reducible refine Below.alloc ?_ ?_ _) | (with_reducible refine Below.drew ?_) | (with_reducible refine bdrewN ?_ _) | (with_reducible refine Below.setCell ?_ ?_ _) | go_size))) (by go_size) hb1; clear hb1; obtain ⟨hk1, hk2⟩ := kf2 hK1; have hc00 : w1.cell? ⟨w.heap.size, 0, none⟩ = some _ := (hd1 _ _ (by go_size)).trans (by go_simp; try rfl); have hf00 : w1.frozen? ⟨w.heap.size, 0, none⟩ = false := (hg1 _ _ (by go_size)).trans (by go_simp); have hc01 : w1.cell? ⟨w.heap.size, 1, none⟩ = some _ := (hd1 _ _ (by go_size)).trans (by go_simp; try rfl); have hf01 : w1.frozen? ⟨w.heap.size, 1, none⟩ = false := (hg1 _ _ (by go_size)).trans (by go_simp); have hc10 : w1.cell? ⟨w.heap.size + 1, 0, none⟩ = some _ := (hd1 _ _ (by go_size)).trans (by go_simp; try rfl); have hf10 : w1.frozen? ⟨w.heap.size + 1, 0, none⟩ = false := (hg1 _ _ (by go_size)).trans (by go_simp); have hc11 : w1.cell? ⟨w.heap.size + 1, 1, none⟩ = some _ := (hd1 _ _ (by go_size)).trans (by go_simp; try rfl); have hf11 : w1.frozen? ⟨w.heap.size + 1, 1, none⟩ = false := (hg1 _ _ (by go_size)).trans (by go_simp)))
    refine bodyPost_ret (by simp only [results, Try.results26]; go_simp; try rfl) rfl ?_
    exact ⟨rfl, by (repeat' (first | (with_reducible exact Below.refl _ _) | (with_reducible assumption) | (with_reducible refine Below.alloc ?_ ?_ _) | (with_reducible refine Below.drew ?_) | (with_reducible refine bdrewN ?_ _) | (with_reducible refine Below.setCell ?_ ?_ _) | go_size))⟩
  · obtain ⟨b1, b2, b3, b4, -⟩ := vfrac_bounds h1
    by_cases z : unit < 1
    · have e : ofS n d unit = (0, 0, 2) := by rw [ofS, h1, if_pos rfl, if_pos (Or.inl z)]
      rw [e]
      clear e
      go_enter Try.func26, Try.ntmps26
      go_wp2_with (first | (go_at_call 78; refine (ratio_Valid _ _ _).mono ?_; rintro e w1 ⟨rfl, hb1⟩; obtain ⟨hB1, hK1, hd1, hg1⟩ := after (w := w) (w.heap.size + 2) (by (repeat' (first | (with_reducible exact Below.refl _ _) | (with_reducible assumption) | (with_reducible refine Below.alloc ?_ ?_ _) | (with_reducible refine Below.drew ?_) | (with_reducible refine bdrewN ?_ _) | (with_reducible refine Below.setCell ?_ ?_ _) | go_size))) (by go_size) hb1; clear hb1; obtain ⟨hk1, hk2⟩ := kf2 hK1; have hc00 : w1.cell? ⟨w.heap.size, 0, none⟩ = some _ := (hd1 _ _ (by go_size)).trans (by go_simp; try rfl); have hf00 : w1.frozen? ⟨w.heap.size, 0, none⟩ = false := (hg1 _ _ (by go_size)).trans (by go_simp); have hc01 : w1.cell? ⟨w.heap.size, 1, none⟩ = some _ := (hd1 _ _ (by go_size)).trans (by go_simp; try rfl); have hf01 : w1.frozen? ⟨w.heap.size, 1, none⟩ = false := (hg1 _ _ (by go_size)).trans (by go_simp); have hc10 : w1.cell? ⟨w.heap.size + 1, 0, none⟩ = some _ := (hd1 _ _ (by go_size)).trans (by go_simp; try rfl); have hf10 : w1.frozen? ⟨w.heap.size + 1, 0, none⟩ = false := (hg1 _ _ (by go_size)).trans (by go_simp); have hc11 : w1.cell? ⟨w.heap.size + 1, 1, none⟩ = some _ := (hd1 _ _ (by go_size)).trans (by go_simp; try rfl); have hf11 : w1.frozen? ⟨w.heap.size + 1, 1, none⟩ = false := (hg1 _ _ (by go_size)).trans (by go_simp)))
      refine bodyPost_ret (by simp only [results, Try.results26]; go_simp; try rfl) rfl ?_
      exact ⟨rfl, by (repeat' (first | (with_reducible exact Below.refl _ _) | (with_reducible assumption) | (with_reducible refine Below.alloc ?_ ?_ _) | (with_reducible refine Below.drew ?_) | (with_reducible refine bdrewN ?_ _) | (with_reducible refine Below.setCell ?_ ?_ _) | go_size))⟩
    · by_cases y : 1099511627776 < unit
      · have e : ofS n d unit = (0, 0, 2) := by rw [ofS, h1, if_pos rfl, if_pos (Or.inr y)]
        rw [e]
        clear e
        go_enter Try.func26, Try.ntmps26
        go_wp2_with (first | (go_at_call 78; refine (ratio_Valid _ _ _).mono ?_; rintro e w1 ⟨rfl, hb1⟩; obtain ⟨hB1, hK1, hd1, hg1⟩ := after (w := w) (w.heap.size + 2) (by (repeat' (first | (with_reducible exact Below.refl _ _) | (with_reducible assumption) | (with_reducible refine Below.alloc ?_ ?_ _) | (with_reducible refine Below.drew ?_) | (with_reducible refine bdrewN ?_ _) | (with_reducible refine Below.setCell ?_ ?_ _) | go_size))) (by go_size) hb1; clear hb1; obtain ⟨hk1, hk2⟩ := kf2 hK1; have hc00 : w1.cell? ⟨w.heap.size, 0, none⟩ = some _ := (hd1 _ _ (by go_size)).trans (by go_simp; try rfl); have hf00 : w1.frozen? ⟨w.heap.size, 0, none⟩ = false := (hg1 _ _ (by go_size)).trans (by go_simp); have hc01 : w1.cell? ⟨w.heap.size, 1, none⟩ = some _ := (hd1 _ _ (by go_size)).trans (by go_simp; try rfl); have hf01 : w1.frozen? ⟨w.heap.size, 1, none⟩ = false := (hg1 _ _ (by go_size)).trans (by go_simp); have hc10 : w1.cell? ⟨w.heap.size + 1, 0, none⟩ = some _ := (hd1 _ _ (by go_size)).trans (by go_simp; try rfl); have hf10 : w1.frozen? ⟨w.heap.size + 1, 0, none⟩ = false := (hg1 _ _ (by go_size)).trans (by go_simp); have hc11 : w1.cell? ⟨w.heap.size + 1, 1, none⟩ = some _ := (hd1 _ _ (by go_size)).trans (by go_simp; try rfl); have hf11 : w1.frozen? ⟨w.heap.size + 1, 1, none⟩ = false := (hg1 _ _ (by go_size)).trans (by go_simp)))
        refine bodyPost_ret (by simp only [results, Try.results26]; go_simp; try rfl) rfl ?_
        exact ⟨rfl, by (repeat' (first | (with_reducible exact Below.refl _ _) | (with_reducible assumption) | (with_reducible refine Below.alloc ?_ ?_ _) | (with_reducible refine Below.drew ?_) | (with_reducible refine bdrewN ?_ _) | (with_reducible refine Below.setCell ?_ ?_ _) | go_size))⟩
      · have e : ofS n d unit = hullS [(n, unit, d)] := by rw [ofS, h1, if_pos rfl, if_neg (by omega)]
        have HE := Lib.hid e
        clear e
        go_enter Try.func26, Try.ntmps26
        go_wp2_with (first | (go_at_call 78; refine (ratio_Valid _ _ _).mono ?_; rintro e w1 ⟨rfl, hb1⟩; obtain ⟨hB1, hK1, hd1, hg1⟩ := after (w := w) (w.heap.size + 2) (by (repeat' (first | (with_reducible exact Below.refl _ _) | (with_reducible assumption) | (with_reducible refine Below.alloc ?_ ?_ _) | (with_reducible refine Below.drew ?_) | (with_reducible refine bdrewN ?_ _) | (with_reducible refine Below.setCell ?_ ?_ _) | go_size))) (by go_size) hb1; clear hb1; obtain ⟨hk1, hk2⟩ := kf2 hK1; have hc00 : w1.cell? ⟨w.heap.size, 0, none⟩ = some _ := (hd1 _ _ (by go_size)).trans (by go_simp; try rfl); have hf00 : w1.frozen? ⟨w.heap.size, 0, none⟩ = false := (hg1 _ _ (by go_size)).trans (by go_simp); have hc01 : w1.cell? ⟨w.heap.size, 1, none⟩ = some _ := (hd1 _ _ (by go_size)).trans (by go_simp; try rfl); have hf01 : w1.frozen? ⟨w.heap.size, 1, none⟩ = false := (hg1 _ _ (by go_size)).trans (by go_simp); have hc10 : w1.cell? ⟨w.heap.size + 1, 0, none⟩ = some _ := (hd1 _ _ (by go_size)).trans (by go_simp; try rfl); have hf10 : w1.frozen? ⟨w.heap.size + 1, 0, none⟩ = false := (hg1 _ _ (by go_size)).trans (by go_simp); have hc11 : w1.cell? ⟨w.heap.size + 1, 1, none⟩ = some _ := (hd1 _ _ (by go_size)).trans (by go_simp; try rfl); have hf11 : w1.frozen? ⟨w.heap.size + 1, 1, none⟩ = false := (hg1 _ _ (by go_size)).trans (by go_simp)))
        refine (span_hull _ [(n, unit, d)] _ (by simp) ?_ (Lib.hid ?_) (Lib.hid (holds3_of ?_))).mono ?_
        · go_size
        · intro k h
          match k, h with
          | 0, _ => simp [okTriple]; omega
        · intro j; simp [cells3]
        · rintro e w1 ⟨rfl, hb1⟩; obtain ⟨hB1, hK1, hd1, hg1⟩ := after (w := w) (w.heap.size + 2) (by (repeat' (first | (with_reducible exact Below.refl _ _) | (with_reducible assumption) | (with_reducible refine Below.alloc ?_ ?_ _) | (with_reducible refine Below.drew ?_) | (with_reducible refine bdrewN ?_ _) | (with_reducible refine Below.setCell ?_ ?_ _) | go_size))) (by go_size) hb1; clear hb1; obtain ⟨hk1, hk2⟩ := kf2 hK1; have hc00 : w1.cell? ⟨w.heap.size, 0, none⟩ = some _ := (hd1 _ _ (by go_size)).trans (by go_simp; try rfl); have hf00 : w1.frozen? ⟨w.heap.size, 0, none⟩ = false := (hg1 _ _ (by go_size)).trans (by go_simp); have hc01 : w1.cell? ⟨w.heap.size, 1, none⟩ = some _ := (hd1 _ _ (by go_size)).trans (by go_simp; try rfl); have hf01 : w1.frozen? ⟨w.heap.size, 1, none⟩ = false := (hg1 _ _ (by go_size)).trans (by go_simp); have hc10 : w1.cell? ⟨w.heap.size + 1, 0, none⟩ = some _ := (hd1 _ _ (by go_size)).trans (by go_simp; try rfl); have hf10 : w1.frozen? ⟨w.heap.size + 1, 0, none⟩ = false := (hg1 _ _ (by go_size)).trans (by go_simp); have hc11 : w1.cell? ⟨w.heap.size + 1, 1, none⟩ = some _ := (hd1 _ _ (by go_size)).trans (by go_simp; try rfl); have hf11 : w1.frozen? ⟨w.heap.size + 1, 1, none⟩ = false := (hg1 _ _ (by go_size)).trans (by go_simp)
          go_wp2
          refine bodyPost_ret (by simp only [results, Try.results26]; go_simp; try rfl) rfl ?_
          exact ⟨by rw [HE.out], by (repeat' (first | (with_reducible exact Below.refl _ _) | (with_reducible assumption) | (with_reducible refine Below.alloc ?_ ?_ _) | (with_reducible refine Below.drew ?_) | (with_reducible refine bdrewN ?_ _) | (with_reducible refine Below.setCell ?_ ?_ _) | go_size))⟩
end Go.Proofs.Ytjjpjgnoanfaoaa
