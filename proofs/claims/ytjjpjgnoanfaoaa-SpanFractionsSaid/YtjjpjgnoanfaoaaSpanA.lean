/- The small functions of package span over this seat's program, each with a plain Lean function that says what it returns. -/
import Derived.Test.YtjjpjgnoanfaoaaBase
set_option linter.all false
namespace Go.Proofs.Ytjjpjgnoanfaoaa
open Go.RowKit

/-- A number may be an end. -/
def wib (n : Int) : Bool := decide (-1152921504606846976 ≤ n) && decide (n ≤ 1152921504606846976)
/-- A span is valid. -/
def vspan (a b : Int) : Bool := decide (a ≤ b) && decide (-1152921504606846976 ≤ a) && decide (b ≤ 1152921504606846976)

theorem span_within (n : Int) (w : World) : Calls Try.prog 84 #[.int .i64 n] w fun e w' => e = .returned (.bool (wib n)) ∧ w = w' := by
  by_cases h1 : -1152921504606846976 ≤ n
  · by_cases h2 : n ≤ 1152921504606846976
    · have e : wib n = true := by simp [wib, h1, h2]
      rw [e]
      go_enter Try.func84, Try.ntmps84
      go_wp2
      go_ret
      exact ⟨rfl, rfl⟩
    · have e : wib n = false := by simp [wib, h2]
      rw [e]
      go_enter Try.func84, Try.ntmps84
      go_wp2
      go_ret
      exact ⟨rfl, rfl⟩
  · have e : wib n = false := by simp [wib, h1]
    rw [e]
    go_enter Try.func84, Try.ntmps84
    go_wp2
    go_ret
    exact ⟨rfl, rfl⟩

theorem span_Valid (a b : Int) (w : World) : Calls Try.prog 72 #[.agg #[.int .i64 a, .int .i64 b]] w fun e w' => e = .returned (.bool (vspan a b)) ∧ Below w.heap.size w w' := by
  go_enter Try.func72, Try.ntmps72
  go_wp2
  all_goals (go_ret; exact ⟨by simp [vspan, *] <;> omega, by go_grown⟩)

theorem vspan_bounds {a b : Int} (h : vspan a b = true) : -1152921504606846976 ≤ a ∧ a ≤ b ∧ b ≤ 1152921504606846976 := by
  simp [vspan] at h; omega

/-- Two ends and an error number. -/
abbrev T3 := Int × Int × Int

def madeS (lo hi : Int) : T3 := if wib lo && wib hi then (lo, hi, 0) else (0, 0, 5)

theorem span_made (lo hi : Int) (w : World) : Calls Try.prog 73 #[.int .i64 lo, .int .i64 hi] w fun e w' =>
    e = .returned (.tuple #[.agg #[.int .i64 (madeS lo hi).1, .int .i64 (madeS lo hi).2.1], .int .i64 (madeS lo hi).2.2]) ∧ Below w.heap.size w w' := by
  by_cases h1 : wib lo = true
  · by_cases h2 : wib hi = true
    · go_enter Try.func73, Try.ntmps73
      go_wp2_with (go_at_call 84; refine (span_within _ _).mono ?_; rintro e w' ⟨rfl, rfl⟩)
      go_returns
      exact ⟨by simp [madeS, h1, h2], by go_grown⟩
    · go_enter Try.func73, Try.ntmps73
      go_wp2_with (go_at_call 84; refine (span_within _ _).mono ?_; rintro e w' ⟨rfl, rfl⟩)
      go_returns
      exact ⟨by simp [madeS, h1, h2], by go_grown⟩
  · go_enter Try.func73, Try.ntmps73
    go_wp2_with (go_at_call 84; refine (span_within _ _).mono ?_; rintro e w' ⟨rfl, rfl⟩)
    go_returns
    exact ⟨by simp [madeS, h1], by go_grown⟩

def addS (a b c d : Int) : T3 := if vspan a b && vspan c d then madeS (a + c) (b + d) else (0, 0, 1)
def subS (a b c d : Int) : T3 := if vspan a b && vspan c d then madeS (a - d) (b - c) else (0, 0, 1)

def hullS2 (a b c d : Int) : T3 := if vspan a b && vspan c d then (min a c, max b d, 0) else (0, 0, 1)
def meetS (a b c d : Int) : T3 := if vspan a b && vspan c d then (if min b d < max a c then (0, 0, 12) else (max a c, min b d, 0)) else (0, 0, 1)

theorem valid_ways (a b c d : Int) : (vspan a b = true ∧ vspan c d = true) ∨ (vspan a b = true ∧ vspan c d = false) ∨ vspan a b = false := by
  cases vspan a b <;> cases vspan c d <;> simp

theorem span_Add (a b c d : Int) (w : World) : Calls Try.prog 20 #[.agg #[.int .i64 a, .int .i64 b], .agg #[.int .i64 c, .int .i64 d]] w fun e w' =>
    e = .returned (.tuple #[.agg #[.int .i64 (addS a b c d).1, .int .i64 (addS a b c d).2.1], .int .i64 (addS a b c d).2.2]) ∧ Below w.heap.size w w' := by
  rcases valid_ways a b c d with ⟨h1, h2⟩ | ⟨h1, h2⟩ | h1
  · have e : addS a b c d = madeS (a + c) (b + d) := by simp [addS, h1, h2]
    rw [e]
    have b1 := vspan_bounds h1; have b2 := vspan_bounds h2
    clear e
    go_enter Try.func20, Try.ntmps20
    go_wp2_with (first | (go_at_call 72; refine (span_Valid _ _ _).mono ?_; rintro e w1 ⟨rfl, hb1⟩; obtain ⟨hB1, hK1, hd1, hg1⟩ := after (w := w) (w.heap.size + 3) (by (repeat' (first | (with_reducible exact Below.refl _ _) | (with_reducible assumption) | (with_reducible refine Below.alloc ?_ ?_ _) | (with_reducible refine Below.drew ?_) | (with_reducible refine bdrewN ?_ _) | (with_reducible refine Below.setCell ?_ ?_ _) | go_size))) (by go_size) hb1; clear hb1; obtain ⟨hk1, hk2, hk3⟩ := kf3 hK1; have hc00 : w1.cell? ⟨w.heap.size, 0, none⟩ = some _ := (hd1 _ _ (by go_size)).trans (by go_simp; try rfl); have hf00 : w1.frozen? ⟨w.heap.size, 0, none⟩ = false := (hg1 _ _ (by go_size)).trans (by go_simp); have hc01 : w1.cell? ⟨w.heap.size, 1, none⟩ = some _ := (hd1 _ _ (by go_size)).trans (by go_simp; try rfl); have hf01 : w1.frozen? ⟨w.heap.size, 1, none⟩ = false := (hg1 _ _ (by go_size)).trans (by go_simp); have hc10 : w1.cell? ⟨w.heap.size + 1, 0, none⟩ = some _ := (hd1 _ _ (by go_size)).trans (by go_simp; try rfl); have hf10 : w1.frozen? ⟨w.heap.size + 1, 0, none⟩ = false := (hg1 _ _ (by go_size)).trans (by go_simp); have hc11 : w1.cell? ⟨w.heap.size + 1, 1, none⟩ = some _ := (hd1 _ _ (by go_size)).trans (by go_simp; try rfl); have hf11 : w1.frozen? ⟨w.heap.size + 1, 1, none⟩ = false := (hg1 _ _ (by go_size)).trans (by go_simp); have hc20 : w1.cell? ⟨w.heap.size + 1 + 1, 0, none⟩ = some _ := (hd1 _ _ (by go_size)).trans (by go_simp; try rfl); have hf20 : w1.frozen? ⟨w.heap.size + 1 + 1, 0, none⟩ = false := (hg1 _ _ (by go_size)).trans (by go_simp); have hc21 : w1.cell? ⟨w.heap.size + 1 + 1, 1, none⟩ = some _ := (hd1 _ _ (by go_size)).trans (by go_simp; try rfl); have hf21 : w1.frozen? ⟨w.heap.size + 1 + 1, 1, none⟩ = false := (hg1 _ _ (by go_size)).trans (by go_simp)) | (go_at_call 73; refine (span_made _ _ _).mono ?_; rintro e w1 ⟨rfl, hb1⟩; obtain ⟨hB1, hK1, hd1, hg1⟩ := after (w := w) (w.heap.size + 3) (by (repeat' (first | (with_reducible exact Below.refl _ _) | (with_reducible assumption) | (with_reducible refine Below.alloc ?_ ?_ _) | (with_reducible refine Below.drew ?_) | (with_reducible refine bdrewN ?_ _) | (with_reducible refine Below.setCell ?_ ?_ _) | go_size))) (by go_size) hb1; clear hb1; obtain ⟨hk1, hk2, hk3⟩ := kf3 hK1; have hc00 : w1.cell? ⟨w.heap.size, 0, none⟩ = some _ := (hd1 _ _ (by go_size)).trans (by go_simp; try rfl); have hf00 : w1.frozen? ⟨w.heap.size, 0, none⟩ = false := (hg1 _ _ (by go_size)).trans (by go_simp); have hc01 : w1.cell? ⟨w.heap.size, 1, none⟩ = some _ := (hd1 _ _ (by go_size)).trans (by go_simp; try rfl); have hf01 : w1.frozen? ⟨w.heap.size, 1, none⟩ = false := (hg1 _ _ (by go_size)).trans (by go_simp); have hc10 : w1.cell? ⟨w.heap.size + 1, 0, none⟩ = some _ := (hd1 _ _ (by go_size)).trans (by go_simp; try rfl); have hf10 : w1.frozen? ⟨w.heap.size + 1, 0, none⟩ = false := (hg1 _ _ (by go_size)).trans (by go_simp); have hc11 : w1.cell? ⟨w.heap.size + 1, 1, none⟩ = some _ := (hd1 _ _ (by go_size)).trans (by go_simp; try rfl); have hf11 : w1.frozen? ⟨w.heap.size + 1, 1, none⟩ = false := (hg1 _ _ (by go_size)).trans (by go_simp); have hc20 : w1.cell? ⟨w.heap.size + 1 + 1, 0, none⟩ = some _ := (hd1 _ _ (by go_size)).trans (by go_simp; try rfl); have hf20 : w1.frozen? ⟨w.heap.size + 1 + 1, 0, none⟩ = false := (hg1 _ _ (by go_size)).trans (by go_simp); have hc21 : w1.cell? ⟨w.heap.size + 1 + 1, 1, none⟩ = some _ := (hd1 _ _ (by go_size)).trans (by go_simp; try rfl); have hf21 : w1.frozen? ⟨w.heap.size + 1 + 1, 1, none⟩ = false := (hg1 _ _ (by go_size)).trans (by go_simp)))
    refine bodyPost_ret (by simp only [results, Try.results20]; go_simp; try rfl) rfl ?_
    exact ⟨rfl, by go_grown⟩
  all_goals
    go_enter Try.func20, Try.ntmps20
    go_wp2_with (first | (go_at_call 72; refine (span_Valid _ _ _).mono ?_; rintro e w1 ⟨rfl, hb1⟩; obtain ⟨hB1, hK1, hd1, hg1⟩ := after (w := w) (w.heap.size + 3) (by (repeat' (first | (with_reducible exact Below.refl _ _) | (with_reducible assumption) | (with_reducible refine Below.alloc ?_ ?_ _) | (with_reducible refine Below.drew ?_) | (with_reducible refine bdrewN ?_ _) | (with_reducible refine Below.setCell ?_ ?_ _) | go_size))) (by go_size) hb1; clear hb1; obtain ⟨hk1, hk2, hk3⟩ := kf3 hK1; have hc00 : w1.cell? ⟨w.heap.size, 0, none⟩ = some _ := (hd1 _ _ (by go_size)).trans (by go_simp; try rfl); have hf00 : w1.frozen? ⟨w.heap.size, 0, none⟩ = false := (hg1 _ _ (by go_size)).trans (by go_simp); have hc01 : w1.cell? ⟨w.heap.size, 1, none⟩ = some _ := (hd1 _ _ (by go_size)).trans (by go_simp; try rfl); have hf01 : w1.frozen? ⟨w.heap.size, 1, none⟩ = false := (hg1 _ _ (by go_size)).trans (by go_simp); have hc10 : w1.cell? ⟨w.heap.size + 1, 0, none⟩ = some _ := (hd1 _ _ (by go_size)).trans (by go_simp; try rfl); have hf10 : w1.frozen? ⟨w.heap.size + 1, 0, none⟩ = false := (hg1 _ _ (by go_size)).trans (by go_simp); have hc11 : w1.cell? ⟨w.heap.size + 1, 1, none⟩ = some _ := (hd1 _ _ (by go_size)).trans (by go_simp; try rfl); have hf11 : w1.frozen? ⟨w.heap.size + 1, 1, none⟩ = false := (hg1 _ _ (by go_size)).trans (by go_simp); have hc20 : w1.cell? ⟨w.heap.size + 1 + 1, 0, none⟩ = some _ := (hd1 _ _ (by go_size)).trans (by go_simp; try rfl); have hf20 : w1.frozen? ⟨w.heap.size + 1 + 1, 0, none⟩ = false := (hg1 _ _ (by go_size)).trans (by go_simp); have hc21 : w1.cell? ⟨w.heap.size + 1 + 1, 1, none⟩ = some _ := (hd1 _ _ (by go_size)).trans (by go_simp; try rfl); have hf21 : w1.frozen? ⟨w.heap.size + 1 + 1, 1, none⟩ = false := (hg1 _ _ (by go_size)).trans (by go_simp)))
    refine bodyPost_ret (by simp only [results, Try.results20]; go_simp; try rfl) rfl ?_
    exact ⟨by simp [addS, *], by go_grown⟩

theorem span_Sub (a b c d : Int) (w : World) : Calls Try.prog 21 #[.agg #[.int .i64 a, .int .i64 b], .agg #[.int .i64 c, .int .i64 d]] w fun e w' =>
    e = .returned (.tuple #[.agg #[.int .i64 (subS a b c d).1, .int .i64 (subS a b c d).2.1], .int .i64 (subS a b c d).2.2]) ∧ Below w.heap.size w w' := by
  rcases valid_ways a b c d with ⟨h1, h2⟩ | ⟨h1, h2⟩ | h1
  · have e : subS a b c d = madeS (a - d) (b - c) := by simp [subS, h1, h2]
    rw [e]
    have b1 := vspan_bounds h1; have b2 := vspan_bounds h2
    clear e
    go_enter Try.func21, Try.ntmps21
    go_wp2_with (first | (go_at_call 72; refine (span_Valid _ _ _).mono ?_; rintro e w1 ⟨rfl, hb1⟩; obtain ⟨hB1, hK1, hd1, hg1⟩ := after (w := w) (w.heap.size + 3) (by (repeat' (first | (with_reducible exact Below.refl _ _) | (with_reducible assumption) | (with_reducible refine Below.alloc ?_ ?_ _) | (with_reducible refine Below.drew ?_) | (with_reducible refine bdrewN ?_ _) | (with_reducible refine Below.setCell ?_ ?_ _) | go_size))) (by go_size) hb1; clear hb1; obtain ⟨hk1, hk2, hk3⟩ := kf3 hK1; have hc00 : w1.cell? ⟨w.heap.size, 0, none⟩ = some _ := (hd1 _ _ (by go_size)).trans (by go_simp; try rfl); have hf00 : w1.frozen? ⟨w.heap.size, 0, none⟩ = false := (hg1 _ _ (by go_size)).trans (by go_simp); have hc01 : w1.cell? ⟨w.heap.size, 1, none⟩ = some _ := (hd1 _ _ (by go_size)).trans (by go_simp; try rfl); have hf01 : w1.frozen? ⟨w.heap.size, 1, none⟩ = false := (hg1 _ _ (by go_size)).trans (by go_simp); have hc10 : w1.cell? ⟨w.heap.size + 1, 0, none⟩ = some _ := (hd1 _ _ (by go_size)).trans (by go_simp; try rfl); have hf10 : w1.frozen? ⟨w.heap.size + 1, 0, none⟩ = false := (hg1 _ _ (by go_size)).trans (by go_simp); have hc11 : w1.cell? ⟨w.heap.size + 1, 1, none⟩ = some _ := (hd1 _ _ (by go_size)).trans (by go_simp; try rfl); have hf11 : w1.frozen? ⟨w.heap.size + 1, 1, none⟩ = false := (hg1 _ _ (by go_size)).trans (by go_simp); have hc20 : w1.cell? ⟨w.heap.size + 1 + 1, 0, none⟩ = some _ := (hd1 _ _ (by go_size)).trans (by go_simp; try rfl); have hf20 : w1.frozen? ⟨w.heap.size + 1 + 1, 0, none⟩ = false := (hg1 _ _ (by go_size)).trans (by go_simp); have hc21 : w1.cell? ⟨w.heap.size + 1 + 1, 1, none⟩ = some _ := (hd1 _ _ (by go_size)).trans (by go_simp; try rfl); have hf21 : w1.frozen? ⟨w.heap.size + 1 + 1, 1, none⟩ = false := (hg1 _ _ (by go_size)).trans (by go_simp)) | (go_at_call 73; refine (span_made _ _ _).mono ?_; rintro e w1 ⟨rfl, hb1⟩; obtain ⟨hB1, hK1, hd1, hg1⟩ := after (w := w) (w.heap.size + 3) (by (repeat' (first | (with_reducible exact Below.refl _ _) | (with_reducible assumption) | (with_reducible refine Below.alloc ?_ ?_ _) | (with_reducible refine Below.drew ?_) | (with_reducible refine bdrewN ?_ _) | (with_reducible refine Below.setCell ?_ ?_ _) | go_size))) (by go_size) hb1; clear hb1; obtain ⟨hk1, hk2, hk3⟩ := kf3 hK1; have hc00 : w1.cell? ⟨w.heap.size, 0, none⟩ = some _ := (hd1 _ _ (by go_size)).trans (by go_simp; try rfl); have hf00 : w1.frozen? ⟨w.heap.size, 0, none⟩ = false := (hg1 _ _ (by go_size)).trans (by go_simp); have hc01 : w1.cell? ⟨w.heap.size, 1, none⟩ = some _ := (hd1 _ _ (by go_size)).trans (by go_simp; try rfl); have hf01 : w1.frozen? ⟨w.heap.size, 1, none⟩ = false := (hg1 _ _ (by go_size)).trans (by go_simp); have hc10 : w1.cell? ⟨w.heap.size + 1, 0, none⟩ = some _ := (hd1 _ _ (by go_size)).trans (by go_simp; try rfl); have hf10 : w1.frozen? ⟨w.heap.size + 1, 0, none⟩ = false := (hg1 _ _ (by go_size)).trans (by go_simp); have hc11 : w1.cell? ⟨w.heap.size + 1, 1, none⟩ = some _ := (hd1 _ _ (by go_size)).trans (by go_simp; try rfl); have hf11 : w1.frozen? ⟨w.heap.size + 1, 1, none⟩ = false := (hg1 _ _ (by go_size)).trans (by go_simp); have hc20 : w1.cell? ⟨w.heap.size + 1 + 1, 0, none⟩ = some _ := (hd1 _ _ (by go_size)).trans (by go_simp; try rfl); have hf20 : w1.frozen? ⟨w.heap.size + 1 + 1, 0, none⟩ = false := (hg1 _ _ (by go_size)).trans (by go_simp); have hc21 : w1.cell? ⟨w.heap.size + 1 + 1, 1, none⟩ = some _ := (hd1 _ _ (by go_size)).trans (by go_simp; try rfl); have hf21 : w1.frozen? ⟨w.heap.size + 1 + 1, 1, none⟩ = false := (hg1 _ _ (by go_size)).trans (by go_simp)))
    refine bodyPost_ret (by simp only [results, Try.results21]; go_simp; try rfl) rfl ?_
    exact ⟨rfl, by go_grown⟩
  all_goals
    go_enter Try.func21, Try.ntmps21
    go_wp2_with (first | (go_at_call 72; refine (span_Valid _ _ _).mono ?_; rintro e w1 ⟨rfl, hb1⟩; obtain ⟨hB1, hK1, hd1, hg1⟩ := after (w := w) (w.heap.size + 3) (by (repeat' (first | (with_reducible exact Below.refl _ _) | (with_reducible assumption) | (with_reducible refine Below.alloc ?_ ?_ _) | (with_reducible refine Below.drew ?_) | (with_reducible refine bdrewN ?_ _) | (with_reducible refine Below.setCell ?_ ?_ _) | go_size))) (by go_size) hb1; clear hb1; obtain ⟨hk1, hk2, hk3⟩ := kf3 hK1; have hc00 : w1.cell? ⟨w.heap.size, 0, none⟩ = some _ := (hd1 _ _ (by go_size)).trans (by go_simp; try rfl); have hf00 : w1.frozen? ⟨w.heap.size, 0, none⟩ = false := (hg1 _ _ (by go_size)).trans (by go_simp); have hc01 : w1.cell? ⟨w.heap.size, 1, none⟩ = some _ := (hd1 _ _ (by go_size)).trans (by go_simp; try rfl); have hf01 : w1.frozen? ⟨w.heap.size, 1, none⟩ = false := (hg1 _ _ (by go_size)).trans (by go_simp); have hc10 : w1.cell? ⟨w.heap.size + 1, 0, none⟩ = some _ := (hd1 _ _ (by go_size)).trans (by go_simp; try rfl); have hf10 : w1.frozen? ⟨w.heap.size + 1, 0, none⟩ = false := (hg1 _ _ (by go_size)).trans (by go_simp); have hc11 : w1.cell? ⟨w.heap.size + 1, 1, none⟩ = some _ := (hd1 _ _ (by go_size)).trans (by go_simp; try rfl); have hf11 : w1.frozen? ⟨w.heap.size + 1, 1, none⟩ = false := (hg1 _ _ (by go_size)).trans (by go_simp); have hc20 : w1.cell? ⟨w.heap.size + 1 + 1, 0, none⟩ = some _ := (hd1 _ _ (by go_size)).trans (by go_simp; try rfl); have hf20 : w1.frozen? ⟨w.heap.size + 1 + 1, 0, none⟩ = false := (hg1 _ _ (by go_size)).trans (by go_simp); have hc21 : w1.cell? ⟨w.heap.size + 1 + 1, 1, none⟩ = some _ := (hd1 _ _ (by go_size)).trans (by go_simp; try rfl); have hf21 : w1.frozen? ⟨w.heap.size + 1 + 1, 1, none⟩ = false := (hg1 _ _ (by go_size)).trans (by go_simp)))
    refine bodyPost_ret (by simp only [results, Try.results21]; go_simp; try rfl) rfl ?_
    exact ⟨by simp [subS, *], by go_grown⟩

end Go.Proofs.Ytjjpjgnoanfaoaa
