/- The reference's Div, Times, Of of spans over this seat's program. -/
import Derived.Test.YtnknlgbihibmiaaRefPart
import Derived.Test.YtnknlgbihibmiaaMDPlain
import Derived.Test.YtnknlgbihibmiaaRefList
namespace Go.Proofs.Ytnknlgbihibmiaa
open Go.RowKit

theorem keepD {w W w1 : World} {p0 p1 p2 : Nat} {v0_0 v0_1 v1_0 v1_1 : Value} (h : Below w.heap.size w W ∧ p0 < W.heap.size ∧ p1 < W.heap.size ∧ p2 < W.heap.size ∧ W.cell? ⟨p0, 0, none⟩ = some (v0_0) ∧ W.cell? ⟨p0, 1, none⟩ = some (v0_1) ∧ W.cell? ⟨p1, 0, none⟩ = some (v1_0) ∧ W.cell? ⟨p1, 1, none⟩ = some (v1_1) ∧ (W.cell? ⟨p2, 0, none⟩).isSome = true ∧ W.frozen? ⟨p2, 0, none⟩ = false ∧ (W.cell? ⟨p2, 1, none⟩).isSome = true ∧ W.frozen? ⟨p2, 1, none⟩ = false) (hb : Below W.heap.size W w1) :
    Below w.heap.size w w1 ∧ p0 < w1.heap.size ∧ p1 < w1.heap.size ∧ p2 < w1.heap.size ∧ w1.cell? ⟨p0, 0, none⟩ = some (v0_0) ∧ w1.cell? ⟨p0, 1, none⟩ = some (v0_1) ∧ w1.cell? ⟨p1, 0, none⟩ = some (v1_0) ∧ w1.cell? ⟨p1, 1, none⟩ = some (v1_1) ∧ (w1.cell? ⟨p2, 0, none⟩).isSome = true ∧ w1.frozen? ⟨p2, 0, none⟩ = false ∧ (w1.cell? ⟨p2, 1, none⟩).isSome = true ∧ w1.frozen? ⟨p2, 1, none⟩ = false := by
  obtain ⟨HB, s0, s1, s2, c0_0, c0_1, c1_0, c1_1, c2_0, f2_0, c2_1, f2_1⟩ := h
  exact ⟨HB.trans (hb.mono HB.size), Nat.lt_of_lt_of_le s0 hb.size, Nat.lt_of_lt_of_le s1 hb.size, Nat.lt_of_lt_of_le s2 hb.size, (hb.cell (p := ⟨p0, 0, none⟩) s0).trans c0_0, (hb.cell (p := ⟨p0, 1, none⟩) s0).trans c0_1, (hb.cell (p := ⟨p1, 0, none⟩) s1).trans c1_0, (hb.cell (p := ⟨p1, 1, none⟩) s1).trans c1_1, (congrArg Option.isSome (hb.cell (p := ⟨p2, 0, none⟩) s2)).trans c2_0, (hb.frozen (p := ⟨p2, 0, none⟩) s2).trans f2_0, (congrArg Option.isSome (hb.cell (p := ⟨p2, 1, none⟩) s2)).trans c2_1, (hb.frozen (p := ⟨p2, 1, none⟩) s2).trans f2_1⟩
theorem keepDA {w W : World} {p0 p1 p2 : Nat} {v0_0 v0_1 v1_0 v1_1 : Value} {o : Obj} (h : Below w.heap.size w W ∧ p0 < W.heap.size ∧ p1 < W.heap.size ∧ p2 < W.heap.size ∧ W.cell? ⟨p0, 0, none⟩ = some (v0_0) ∧ W.cell? ⟨p0, 1, none⟩ = some (v0_1) ∧ W.cell? ⟨p1, 0, none⟩ = some (v1_0) ∧ W.cell? ⟨p1, 1, none⟩ = some (v1_1) ∧ (W.cell? ⟨p2, 0, none⟩).isSome = true ∧ W.frozen? ⟨p2, 0, none⟩ = false ∧ (W.cell? ⟨p2, 1, none⟩).isSome = true ∧ W.frozen? ⟨p2, 1, none⟩ = false) :
    Below w.heap.size w (W.alloc o) ∧ p0 < (W.alloc o).heap.size ∧ p1 < (W.alloc o).heap.size ∧ p2 < (W.alloc o).heap.size ∧ (W.alloc o).cell? ⟨p0, 0, none⟩ = some (v0_0) ∧ (W.alloc o).cell? ⟨p0, 1, none⟩ = some (v0_1) ∧ (W.alloc o).cell? ⟨p1, 0, none⟩ = some (v1_0) ∧ (W.alloc o).cell? ⟨p1, 1, none⟩ = some (v1_1) ∧ ((W.alloc o).cell? ⟨p2, 0, none⟩).isSome = true ∧ (W.alloc o).frozen? ⟨p2, 0, none⟩ = false ∧ ((W.alloc o).cell? ⟨p2, 1, none⟩).isSome = true ∧ (W.alloc o).frozen? ⟨p2, 1, none⟩ = false :=
  keepD h ((Below.refl _ _).alloc (Nat.le_refl _) _)

set_option maxRecDepth 100000 in
set_option maxHeartbeats 8000000 in
theorem ref_Div_no (a b c d : Int) (b1 : -1152921504606846976 ≤ a) (b2 : a ≤ b) (b3 : b ≤ 1152921504606846976) (b4 : -1152921504606846976 ≤ c) (b5 : c ≤ d) (b6 : d ≤ 1152921504606846976) (HH : Hid (hasS c d 0 = false)) (hz : 0 < c ∨ d < 0) (w : World) :
    Calls Try.prog 17 #[.agg #[.int .i64 a, .int .i64 b], .agg #[.int .i64 c, .int .i64 d]] w fun e w' =>
    e = .returned (.tuple #[.agg #[.int .i64 (fitsS (min (min (min (floD a c) (floD a d)) (floD b c)) (floD b d)) (max (max (max (ceiD a c) (ceiD a d)) (ceiD b c)) (ceiD b d))).1, .int .i64 (fitsS (min (min (min (floD a c) (floD a d)) (floD b c)) (floD b d)) (max (max (max (ceiD a c) (ceiD a d)) (ceiD b c)) (ceiD b d))).2.1], .int .i64 (fitsS (min (min (min (floD a c) (floD a d)) (floD b c)) (floD b d)) (max (max (max (ceiD a c) (ceiD a d)) (ceiD b c)) (ceiD b d))).2.2]) ∧ Below w.heap.size w w' := by
  have FF : Hid (∀ (x y : Int) (w : World), (x = a ∨ x = b) → (y = c ∨ y = d) → Calls Try.prog 30 #[.int .i64 x, .int .i64 y] w fun e w' => e = .returned (.int .i64 (floD x y)) ∧ Below w.heap.size w w') :=
    Lib.hid fun x y w hx hy => ref_Floor x y (by omega) (by omega) (by omega) (by omega) (by omega) w
  have CC : Hid (∀ (x y : Int) (w : World), (x = a ∨ x = b) → (y = c ∨ y = d) → Calls Try.prog 31 #[.int .i64 x, .int .i64 y] w fun e w' => e = .returned (.int .i64 (ceiD x y)) ∧ Below w.heap.size w w') :=
    Lib.hid fun x y w hx hy => ref_Ceil x y (by omega) (by omega) (by omega) (by omega) (by omega) w
  clear b1 b2 b3 b4 b5 b6 hz
  go_enter Try.func17, Try.ntmps17
  go_wp2_with fail
  refine (ref_Has _ _ _ _).mono ?_
  rw [HH.out]
  rintro e W ⟨rfl, hb⟩
  have hB : Below w.heap.size w W := Below.trans (by (repeat' (first | (with_reducible exact Below.refl _ _) | (with_reducible assumption) | (with_reducible refine Below.alloc ?_ ?_ _) | (with_reducible refine Below.drew ?_) | (with_reducible refine bdrewN ?_ _) | (with_reducible refine Below.setCell ?_ ?_ _) | go_size))) (hb.mono (by go_size))
  have hs1 : w.heap.size < W.heap.size := by have := hb.size; simp at this; omega
  have hs2 : w.heap.size + 1 < W.heap.size := by have := hb.size; simp at this; omega
  have hs3 : w.heap.size + 1 + 1 < W.heap.size := by have := hb.size; simp at this; omega
  obtain ⟨hd, hg⟩ := bcell hb
  clear hb
  have c0 : W.cell? ⟨w.heap.size, 0, none⟩ = some (.int .i64 a) := (hd _ _ (by go_size)).trans (by (first | (go_simp; done) | (simp (maxDischargeDepth := 10) [go_sem, *]; done)))
  have c1 : W.cell? ⟨w.heap.size, 1, none⟩ = some (.int .i64 b) := (hd _ _ (by go_size)).trans (by (first | (go_simp; done) | (simp (maxDischargeDepth := 10) [go_sem, *]; done)))
  have c2 : W.cell? ⟨w.heap.size + 1, 0, none⟩ = some (.int .i64 c) := (hd _ _ (by go_size)).trans (by (first | (go_simp; done) | (simp (maxDischargeDepth := 10) [go_sem, *]; done)))
  have c3 : W.cell? ⟨w.heap.size + 1, 1, none⟩ = some (.int .i64 d) := (hd _ _ (by go_size)).trans (by (first | (go_simp; done) | (simp (maxDischargeDepth := 10) [go_sem, *]; done)))
  have r0 : W.cell? ⟨w.heap.size + 1 + 1, 0, none⟩ = some (.int .i64 0) := (hd _ _ (by go_size)).trans (by (first | (go_simp; done) | (simp (maxDischargeDepth := 10) [go_sem, *]; done)))
  have r1 : W.cell? ⟨w.heap.size + 1 + 1, 1, none⟩ = some (.int .i64 0) := (hd _ _ (by go_size)).trans (by (first | (go_simp; done) | (simp (maxDischargeDepth := 10) [go_sem, *]; done)))
  have g0 : W.frozen? ⟨w.heap.size + 1 + 1, 0, none⟩ = false := (hg _ _ (by go_size)).trans (by (first | (go_simp; done) | (simp (maxDischargeDepth := 10) [go_sem, *]; done)))
  have g1 : W.frozen? ⟨w.heap.size + 1 + 1, 1, none⟩ = false := (hg _ _ (by go_size)).trans (by (first | (go_simp; done) | (simp (maxDischargeDepth := 10) [go_sem, *]; done)))
  clear hd hg
  go_wp2_with fail
  go_region_held3 (fun w' => Below w.heap.size w w' ∧ w.heap.size < w'.heap.size ∧ (w.heap.size + 1) < w'.heap.size ∧ (w.heap.size + 1 + 1) < w'.heap.size ∧ w'.cell? ⟨w.heap.size, 0, none⟩ = some (.int .i64 a) ∧ w'.cell? ⟨w.heap.size, 1, none⟩ = some (.int .i64 b) ∧ w'.cell? ⟨(w.heap.size + 1), 0, none⟩ = some (.int .i64 c) ∧ w'.cell? ⟨(w.heap.size + 1), 1, none⟩ = some (.int .i64 d) ∧ (w'.cell? ⟨(w.heap.size + 1 + 1), 0, none⟩).isSome = true ∧ w'.frozen? ⟨(w.heap.size + 1 + 1), 0, none⟩ = false ∧ (w'.cell? ⟨(w.heap.size + 1 + 1), 1, none⟩).isSome = true ∧ w'.frozen? ⟨(w.heap.size + 1 + 1), 1, none⟩ = false) (first | (exact ⟨hB.drew, hs1, hs2, hs3, c0, c1, c2, c3, congrArg Option.isSome r0, g0, congrArg Option.isSome r1, g1⟩) | (refine keepD ?_ hb1; assumption) | (refine keepDA ?_; assumption) | (refine ⟨?_, ?_, ?_, ?_, ?_, ?_, ?_, ?_, ?_, ?_, ?_, ?_⟩ <;> first | (go_size; done) | ((first | (go_simp; done) | (simp (maxDischargeDepth := 10) [go_sem, *]; done)); done) | ((repeat' (first | (with_reducible exact Below.refl _ _) | (with_reducible assumption) | (with_reducible refine Below.alloc ?_ ?_ _) | (with_reducible refine Below.drew ?_) | (with_reducible refine bdrewN ?_ _) | (with_reducible refine Below.setCell ?_ ?_ _) | go_size)); done)))
    (first
      | (go_at_call 30; with_reducible refine (FF.out _ _ _ ?_ ?_).mono ?_; (first | exact Or.inl rfl | exact Or.inr rfl); (first | exact Or.inl rfl | exact Or.inr rfl); rintro e w1 ⟨rfl, hb1⟩)
      | (go_at_call 31; with_reducible refine (CC.out _ _ _ ?_ ?_).mono ?_; (first | exact Or.inl rfl | exact Or.inr rfl); (first | exact Or.inl rfl | exact Or.inr rfl); rintro e w1 ⟨rfl, hb1⟩)
      | (go_at_call 47; refine (ref_Least4 (x := floD a c) (y := floD a d) (z := floD b c) (u := floD b d) (by (first | (go_simp; done) | (simp (maxDischargeDepth := 10) [go_sem, *]; done))) (by (first | (go_simp; done) | (simp (maxDischargeDepth := 10) [go_sem, *]; done))) (by (first | (go_simp; done) | (simp (maxDischargeDepth := 10) [go_sem, *]; done))) (by (first | (go_simp; done) | (simp (maxDischargeDepth := 10) [go_sem, *]; done)))).mono ?_; rintro e w' ⟨rfl, rfl⟩)
      | (go_at_call 48; refine (ref_Greatest4 (x := ceiD a c) (y := ceiD a d) (z := ceiD b c) (u := ceiD b d) (by (first | (go_simp; done) | (simp (maxDischargeDepth := 10) [go_sem, *]; done))) (by (first | (go_simp; done) | (simp (maxDischargeDepth := 10) [go_sem, *]; done))) (by (first | (go_simp; done) | (simp (maxDischargeDepth := 10) [go_sem, *]; done))) (by (first | (go_simp; done) | (simp (maxDischargeDepth := 10) [go_sem, *]; done)))).mono ?_; rintro e w' ⟨rfl, rfl⟩)
      | (go_at_call 46; refine (ref_Fits _ _ _).mono ?_; rintro e w1 ⟨rfl, hb1⟩; have hS := keepD (by assumption) hb1; obtain ⟨hBx, -, -, -, -, -, -, -, q2_0, hf2_0, q2_1, hf2_1⟩ := hS; obtain ⟨x2_0, hc2_0⟩ := Option.isSome_iff_exists.mp q2_0; obtain ⟨x2_1, hc2_1⟩ := Option.isSome_iff_exists.mp q2_1))
  all_goals
    go_wp2
    refine bodyPost_ret (by simp only [results, Try.results17]; go_simp; try rfl) rfl ?_
    exact ⟨by simp only [Int.min_assoc, Int.max_assoc], by (repeat' (first | (with_reducible exact Below.refl _ _) | (with_reducible assumption) | (with_reducible refine Below.alloc ?_ ?_ _) | (with_reducible refine Below.drew ?_) | (with_reducible refine bdrewN ?_ _) | (with_reducible refine Below.setCell ?_ ?_ _) | go_size))⟩
end Go.Proofs.Ytnknlgbihibmiaa
