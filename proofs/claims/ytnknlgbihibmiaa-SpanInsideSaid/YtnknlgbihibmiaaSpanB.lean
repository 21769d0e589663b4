/- The small functions of the reference of package span over this seat's program. -/
import Derived.Test.YtnknlgbihibmiaaSpanA
namespace Go.Proofs.Ytnknlgbihibmiaa
open Go.RowKit

theorem ref_Valid (a b : Int) (w : World) : Calls Try.prog 14 #[.agg #[.int .i64 a, .int .i64 b]] w fun e w' => e = .returned (.bool (vspan a b)) ∧ Below w.heap.size w w' := by
  go_enter Try.func14, Try.ntmps14
  go_wp2
  all_goals (go_ret; exact ⟨by simp [vspan, *] <;> omega, by go_grown⟩)

def hasS (a b n : Int) : Bool := decide (a ≤ n) && decide (n ≤ b)
theorem ref_Has (a b n : Int) (w : World) : Calls Try.prog 28 #[.agg #[.int .i64 a, .int .i64 b], .int .i64 n] w fun e w' => e = .returned (.bool (hasS a b n)) ∧ Below w.heap.size w w' := by
  go_enter Try.func28, Try.ntmps28
  go_wp2
  all_goals (go_ret; exact ⟨by simp [hasS, *] <;> omega, by go_grown⟩)

def insideS (a b c d : Int) : Bool := decide (c ≤ a) && decide (b ≤ d)
theorem ref_Inside (a b c d : Int) (w : World) : Calls Try.prog 34 #[.agg #[.int .i64 a, .int .i64 b], .agg #[.int .i64 c, .int .i64 d]] w fun e w' => e = .returned (.bool (insideS a b c d)) ∧ Below w.heap.size w w' := by
  go_enter Try.func34, Try.ntmps34
  go_wp2
  all_goals (go_ret; exact ⟨by simp [insideS, *] <;> omega, by go_grown⟩)

def fitsS (lo hi : Int) : T3 := if vspan lo hi then (lo, hi, 0) else (0, 0, 5)
theorem ref_Fits (lo hi : Int) (w : World) : Calls Try.prog 46 #[.int .i64 lo, .int .i64 hi] w fun e w' =>
    e = .returned (.tuple #[.agg #[.int .i64 (fitsS lo hi).1, .int .i64 (fitsS lo hi).2.1], .int .i64 (fitsS lo hi).2.2]) ∧ Below w.heap.size w w' := by
  cases h1 : vspan lo hi
  all_goals
    go_enter Try.func46, Try.ntmps46
    go_wp2_with (first | (go_at_call 14; refine (ref_Valid _ _ _).mono ?_; rintro e w1 ⟨rfl, hb1⟩; obtain ⟨hB1, hK1, hd1, hg1⟩ := after (w := w) (w.heap.size + 2) (by (repeat' (first | (with_reducible exact Below.refl _ _) | (with_reducible assumption) | (with_reducible refine Below.alloc ?_ ?_ _) | (with_reducible refine Below.drew ?_) | (with_reducible refine bdrewN ?_ _) | (with_reducible refine Below.setCell ?_ ?_ _) | go_size))) (by go_size) hb1; clear hb1; obtain ⟨hk1, hk2⟩ := kf2 hK1; have hc00 : w1.cell? ⟨w.heap.size, 0, none⟩ = some _ := (hd1 _ _ (by go_size)).trans (by go_simp; try rfl); have hf00 : w1.frozen? ⟨w.heap.size, 0, none⟩ = false := (hg1 _ _ (by go_size)).trans (by go_simp); have hc01 : w1.cell? ⟨w.heap.size, 1, none⟩ = some _ := (hd1 _ _ (by go_size)).trans (by go_simp; try rfl); have hf01 : w1.frozen? ⟨w.heap.size, 1, none⟩ = false := (hg1 _ _ (by go_size)).trans (by go_simp); have hc10 : w1.cell? ⟨w.heap.size + 1, 0, none⟩ = some _ := (hd1 _ _ (by go_size)).trans (by go_simp; try rfl); have hf10 : w1.frozen? ⟨w.heap.size + 1, 0, none⟩ = false := (hg1 _ _ (by go_size)).trans (by go_simp); have hc11 : w1.cell? ⟨w.heap.size + 1, 1, none⟩ = some _ := (hd1 _ _ (by go_size)).trans (by go_simp; try rfl); have hf11 : w1.frozen? ⟨w.heap.size + 1, 1, none⟩ = false := (hg1 _ _ (by go_size)).trans (by go_simp)))
    refine bodyPost_ret (by simp only [results, Try.results46]; go_simp; try rfl) rfl ?_
    exact ⟨by simp [fitsS, *], by go_grown⟩

theorem ref_Add (a b c d : Int) (h1 : vspan a b = true) (h2 : vspan c d = true) (w : World) : Calls Try.prog 38 #[.agg #[.int .i64 a, .int .i64 b], .agg #[.int .i64 c, .int .i64 d]] w fun e w' =>
    e = .returned (.tuple #[.agg #[.int .i64 (fitsS (a + c) (b + d)).1, .int .i64 (fitsS (a + c) (b + d)).2.1], .int .i64 (fitsS (a + c) (b + d)).2.2]) ∧ Below w.heap.size w w' := by
  have b1 := vspan_bounds h1; have b2 := vspan_bounds h2
  clear h1 h2
  go_enter Try.func38, Try.ntmps38
  go_wp2_with (first | (go_at_call 46; refine (ref_Fits _ _ _).mono ?_; rintro e w1 ⟨rfl, hb1⟩; obtain ⟨hB1, hK1, hd1, hg1⟩ := after (w := w) (w.heap.size + 3) (by (repeat' (first | (with_reducible exact Below.refl _ _) | (with_reducible assumption) | (with_reducible refine Below.alloc ?_ ?_ _) | (with_reducible refine Below.drew ?_) | (with_reducible refine bdrewN ?_ _) | (with_reducible refine Below.setCell ?_ ?_ _) | go_size))) (by go_size) hb1; clear hb1; obtain ⟨hk1, hk2, hk3⟩ := kf3 hK1; have hc00 : w1.cell? ⟨w.heap.size, 0, none⟩ = some _ := (hd1 _ _ (by go_size)).trans (by go_simp; try rfl); have hf00 : w1.frozen? ⟨w.heap.size, 0, none⟩ = false := (hg1 _ _ (by go_size)).trans (by go_simp); have hc01 : w1.cell? ⟨w.heap.size, 1, none⟩ = some _ := (hd1 _ _ (by go_size)).trans (by go_simp; try rfl); have hf01 : w1.frozen? ⟨w.heap.size, 1, none⟩ = false := (hg1 _ _ (by go_size)).trans (by go_simp); have hc10 : w1.cell? ⟨w.heap.size + 1, 0, none⟩ = some _ := (hd1 _ _ (by go_size)).trans (by go_simp; try rfl); have hf10 : w1.frozen? ⟨w.heap.size + 1, 0, none⟩ = false := (hg1 _ _ (by go_size)).trans (by go_simp); have hc11 : w1.cell? ⟨w.heap.size + 1, 1, none⟩ = some _ := (hd1 _ _ (by go_size)).trans (by go_simp; try rfl); have hf11 : w1.frozen? ⟨w.heap.size + 1, 1, none⟩ = false := (hg1 _ _ (by go_size)).trans (by go_simp); have hc20 : w1.cell? ⟨w.heap.size + 1 + 1, 0, none⟩ = some _ := (hd1 _ _ (by go_size)).trans (by go_simp; try rfl); have hf20 : w1.frozen? ⟨w.heap.size + 1 + 1, 0, none⟩ = false := (hg1 _ _ (by go_size)).trans (by go_simp); have hc21 : w1.cell? ⟨w.heap.size + 1 + 1, 1, none⟩ = some _ := (hd1 _ _ (by go_size)).trans (by go_simp; try rfl); have hf21 : w1.frozen? ⟨w.heap.size + 1 + 1, 1, none⟩ = false := (hg1 _ _ (by go_size)).trans (by go_simp)))
  refine bodyPost_ret (by simp only [results, Try.results38]; go_simp; try rfl) rfl ?_
  exact ⟨rfl, by go_grown⟩

theorem ref_Sub (a b c d : Int) (h1 : vspan a b = true) (h2 : vspan c d = true) (w : World) : Calls Try.prog 39 #[.agg #[.int .i64 a, .int .i64 b], .agg #[.int .i64 c, .int .i64 d]] w fun e w' =>
    e = .returned (.tuple #[.agg #[.int .i64 (fitsS (a - d) (b - c)).1, .int .i64 (fitsS (a - d) (b - c)).2.1], .int .i64 (fitsS (a - d) (b - c)).2.2]) ∧ Below w.heap.size w w' := by
  have b1 := vspan_bounds h1; have b2 := vspan_bounds h2
  clear h1 h2
  go_enter Try.func39, Try.ntmps39
  go_wp2_with (first | (go_at_call 46; refine (ref_Fits _ _ _).mono ?_; rintro e w1 ⟨rfl, hb1⟩; obtain ⟨hB1, hK1, hd1, hg1⟩ := after (w := w) (w.heap.size + 3) (by (repeat' (first | (with_reducible exact Below.refl _ _) | (with_reducible assumption) | (with_reducible refine Below.alloc ?_ ?_ _) | (with_reducible refine Below.drew ?_) | (with_reducible refine bdrewN ?_ _) | (with_reducible refine Below.setCell ?_ ?_ _) | go_size))) (by go_size) hb1; clear hb1; obtain ⟨hk1, hk2, hk3⟩ := kf3 hK1; have hc00 : w1.cell? ⟨w.heap.size, 0, none⟩ = some _ := (hd1 _ _ (by go_size)).trans (by go_simp; try rfl); have hf00 : w1.frozen? ⟨w.heap.size, 0, none⟩ = false := (hg1 _ _ (by go_size)).trans (by go_simp); have hc01 : w1.cell? ⟨w.heap.size, 1, none⟩ = some _ := (hd1 _ _ (by go_size)).trans (by go_simp; try rfl); have hf01 : w1.frozen? ⟨w.heap.size, 1, none⟩ = false := (hg1 _ _ (by go_size)).trans (by go_simp); have hc10 : w1.cell? ⟨w.heap.size + 1, 0, none⟩ = some _ := (hd1 _ _ (by go_size)).trans (by go_simp; try rfl); have hf10 : w1.frozen? ⟨w.heap.size + 1, 0, none⟩ = false := (hg1 _ _ (by go_size)).trans (by go_simp); have hc11 : w1.cell? ⟨w.heap.size + 1, 1, none⟩ = some _ := (hd1 _ _ (by go_size)).trans (by go_simp; try rfl); have hf11 : w1.frozen? ⟨w.heap.size + 1, 1, none⟩ = false := (hg1 _ _ (by go_size)).trans (by go_simp); have hc20 : w1.cell? ⟨w.heap.size + 1 + 1, 0, none⟩ = some _ := (hd1 _ _ (by go_size)).trans (by go_simp; try rfl); have hf20 : w1.frozen? ⟨w.heap.size + 1 + 1, 0, none⟩ = false := (hg1 _ _ (by go_size)).trans (by go_simp); have hc21 : w1.cell? ⟨w.heap.size + 1 + 1, 1, none⟩ = some _ := (hd1 _ _ (by go_size)).trans (by go_simp; try rfl); have hf21 : w1.frozen? ⟨w.heap.size + 1 + 1, 1, none⟩ = false := (hg1 _ _ (by go_size)).trans (by go_simp)))
  refine bodyPost_ret (by simp only [results, Try.results39]; go_simp; try rfl) rfl ?_
  exact ⟨rfl, by go_grown⟩
end Go.Proofs.Ytnknlgbihibmiaa
