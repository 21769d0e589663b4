/- Statement SpanProducts of chapter 3: Mul and Div of spans return what the reference says, for every pair of spans. No condition. -/
import Derived.Test.YtnknlgbihibmiaaRows
import Derived.Test.YtnknlgbihibmiaaSumsP
import Derived.Test.YtnknlgbihibmiaaRefMul
import Derived.ProofKit
import Derived.OpenShut
import Derived.Lib.SmallJoins
namespace Go.Proofs.Ytnknlgbihibmiaa.lawSpanProducts
open Go.Proofs.Ytnknlgbihibmiaa Go.Proofs.Ytnknlgbihibmiaa.lawSpanSums Go.ChangeShapes Go.WideShapes Go.ChangeAt Go.RowKit Go.Joins

set_option maxHeartbeats 1000000 in
theorem ref_DivV (a b c d m0 m1 m2 : Int) (HA : Hid (vspan a b = true)) (HC : Hid (vspan c d = true)) (HM : Hid (divT a b c d = (m0, m1, m2))) (w : World) : Calls Try.prog 17 #[.agg #[.int .i64 a, .int .i64 b], .agg #[.int .i64 c, .int .i64 d]] w fun e w' => e = .returned (.tuple #[.agg #[.int .i64 m0, .int .i64 m1], .int .i64 m2]) ∧ Below w.heap.size w w' := by
  have b1 := vspan_bounds HA.out; have b2 := vspan_bounds HC.out
  cases hh : hasS c d 0
  · have hz : 0 < c ∨ d < 0 := by simp [hasS] at hh; omega
    have e := ref_Div_no a b c d (by omega) (by omega) (by omega) (by omega) (by omega) (by omega) (Lib.hid hh) hz w
    have h := HM.out
    unfold divT at h
    rw [if_neg (by simp [hh])] at h
    rwa [h] at e
  · have h := HM.out
    unfold divT at h
    rw [if_pos hh] at h
    cases h
    have HH := Lib.hid hh
    clear hh b1 b2
    go_enter Try.func17, Try.ntmps17
    go_wp2_with fail
    refine (ref_Has _ _ _ _).mono ?_
    rw [HH.out]
    rintro e w1 ⟨rfl, hb1⟩; obtain ⟨hB1, hK1, hd1, hg1⟩ := after (w := w) (w.heap.size + 3) (by (repeat' (first | (with_reducible exact Below.refl _ _) | (with_reducible assumption) | (with_reducible refine Below.alloc ?_ ?_ _) | (with_reducible refine Below.drew ?_) | (with_reducible refine bdrewN ?_ _) | (with_reducible refine Below.setCell ?_ ?_ _) | go_size))) (by go_size) hb1; clear hb1; obtain ⟨hk1, hk2, hk3⟩ := kf3 hK1; have hc00 : w1.cell? ⟨w.heap.size, 0, none⟩ = some _ := (hd1 _ _ (by go_size)).trans (by go_simp; try rfl); have hf00 : w1.frozen? ⟨w.heap.size, 0, none⟩ = false := (hg1 _ _ (by go_size)).trans (by go_simp); have hc01 : w1.cell? ⟨w.heap.size, 1, none⟩ = some _ := (hd1 _ _ (by go_size)).trans (by go_simp; try rfl); have hf01 : w1.frozen? ⟨w.heap.size, 1, none⟩ = false := (hg1 _ _ (by go_size)).trans (by go_simp); have hc10 : w1.cell? ⟨w.heap.size + 1, 0, none⟩ = some _ := (hd1 _ _ (by go_size)).trans (by go_simp; try rfl); have hf10 : w1.frozen? ⟨w.heap.size + 1, 0, none⟩ = false := (hg1 _ _ (by go_size)).trans (by go_simp); have hc11 : w1.cell? ⟨w.heap.size + 1, 1, none⟩ = some _ := (hd1 _ _ (by go_size)).trans (by go_simp; try rfl); have hf11 : w1.frozen? ⟨w.heap.size + 1, 1, none⟩ = false := (hg1 _ _ (by go_size)).trans (by go_simp); have hc20 : w1.cell? ⟨w.heap.size + 1 + 1, 0, none⟩ = some _ := (hd1 _ _ (by go_size)).trans (by go_simp; try rfl); have hf20 : w1.frozen? ⟨w.heap.size + 1 + 1, 0, none⟩ = false := (hg1 _ _ (by go_size)).trans (by go_simp); have hc21 : w1.cell? ⟨w.heap.size + 1 + 1, 1, none⟩ = some _ := (hd1 _ _ (by go_size)).trans (by go_simp; try rfl); have hf21 : w1.frozen? ⟨w.heap.size + 1 + 1, 1, none⟩ = false := (hg1 _ _ (by go_size)).trans (by go_simp)
    go_wp2_with fail
    refine bodyPost_ret (by simp only [results, Try.results17]; go_simp; try rfl) rfl ?_
    exact ⟨rfl, by (repeat' (first | (with_reducible exact Below.refl _ _) | (with_reducible assumption) | (with_reducible refine Below.alloc ?_ ?_ _) | (with_reducible refine Below.drew ?_) | (with_reducible refine bdrewN ?_ _) | (with_reducible refine Below.setCell ?_ ?_ _) | go_size))⟩
theorem ref_MulW (a b c d m0 m1 m2 : Int) (HA : Hid (vspan a b = true)) (HC : Hid (vspan c d = true)) (HM : Hid (mulT a b c d = (m0, m1, m2))) (w : World) : Calls Try.prog 16 #[.agg #[.int .i64 a, .int .i64 b], .agg #[.int .i64 c, .int .i64 d]] w fun e w' => e = .returned (.tuple #[.agg #[.int .i64 m0, .int .i64 m1], .int .i64 m2]) ∧ Below w.heap.size w w' :=
  ref_MulV a b c d m0 m1 m2 (Lib.hid (vspan_bounds HA.out)) (Lib.hid (vspan_bounds HC.out)) HM w

set_option maxRecDepth 100000 in
set_option maxHeartbeats 8000000 in
theorem walk_valid (a b c d x0 x1 x2 y0 y1 y2 : Int) (HA : Hid (vspan a b = true)) (HC : Hid (vspan c d = true)) (HX : Hid (mulS a b c d = (x0, x1, x2))) (HY : Hid (divS a b c d = (y0, y1, y2)))
    (HP : Hid (mulT a b c d = (x0, x1, x2))) (HQ : Hid (divT a b c d = (y0, y1, y2))) (w : World) : Calls Try.prog 3 #[.agg #[.int .i64 a, .int .i64 b], .agg #[.int .i64 c, .int .i64 d]] w fun e w' => e = .returned (.bool true) ∧ Below w.heap.size w w' := by
  go_enter Try.func3, Try.ntmps3
  go_wp2_with fail
  with_reducible refine (law_awake _).mono ?_; rintro e w1 ⟨rfl, hb⟩; have L1 := Live.step (Live.alloc2 _ _ _ (Live.alloc2 _ _ _ (Live.start w))) hb; clear hb; (try simp only [World.size_alloc] at L1); have B := Live.below L1; obtain ⟨⟨s1, c10⟩, Ra1⟩ := Live.head L1; obtain ⟨⟨-, c11⟩, Rb1⟩ := Live.head Ra1; clear Ra1; obtain ⟨⟨s2, c20⟩, Ra2⟩ := Live.head Rb1; obtain ⟨⟨-, c21⟩, Rb2⟩ := Live.head Ra2; clear Ra2 Rb1; clear Rb2
  go_wp2_with fail
  with_reducible refine (span_Mul _ _ _ _ _).mono ?_; rw [HX.out]; rintro e w2 ⟨rfl, hb⟩; have L2 := Live.step (L1) hb; clear hb B L1 s1 c10 c11 s2 c20 c21; (try simp only [World.size_alloc, World.size_setCell, World.size_drew, World.heap_drewN] at L2); have B := Live.below L2; obtain ⟨⟨s1, c10⟩, Ra1⟩ := Live.head L2; obtain ⟨⟨-, c11⟩, Rb1⟩ := Live.head Ra1; clear Ra1; obtain ⟨⟨s2, c20⟩, Ra2⟩ := Live.head Rb1; obtain ⟨⟨-, c21⟩, Rb2⟩ := Live.head Ra2; clear Ra2 Rb1; clear Rb2
  go_wp2_with fail
  with_reducible refine (span_Div _ _ _ _ _).mono ?_; rw [HY.out]; rintro e w3 ⟨rfl, hb⟩; have L3 := Live.step (Live.alloc2 _ _ _ (L2)) hb; clear hb B L2 s1 c10 c11 s2 c20 c21; (try simp only [World.size_alloc, World.size_setCell, World.size_drew, World.heap_drewN] at L3); have B := Live.below L3; obtain ⟨⟨s1, c10⟩, Ra1⟩ := Live.head L3; obtain ⟨⟨-, c11⟩, Rb1⟩ := Live.head Ra1; clear Ra1; obtain ⟨⟨s2, c20⟩, Ra2⟩ := Live.head Rb1; obtain ⟨⟨-, c21⟩, Rb2⟩ := Live.head Ra2; clear Ra2 Rb1; obtain ⟨⟨s3, c30⟩, Ra3⟩ := Live.head Rb2; obtain ⟨⟨-, c31⟩, Rb3⟩ := Live.head Ra3; clear Ra3 Rb2; clear Rb3
  go_wp2_with fail
  with_reducible refine (ref_ValidV _ _ _ HA _).mono ?_; rintro e w4 ⟨rfl, hb⟩; have L4 := Live.step (Live.alloc2 _ _ _ (L3)) hb; clear hb B L3 s1 c10 c11 s2 c20 c21 s3 c30 c31; (try simp only [World.size_alloc, World.size_setCell, World.size_drew, World.heap_drewN] at L4); have B := Live.below L4; obtain ⟨⟨s1, c10⟩, Ra1⟩ := Live.head L4; obtain ⟨⟨-, c11⟩, Rb1⟩ := Live.head Ra1; clear Ra1; obtain ⟨⟨s2, c20⟩, Ra2⟩ := Live.head Rb1; obtain ⟨⟨-, c21⟩, Rb2⟩ := Live.head Ra2; clear Ra2 Rb1; obtain ⟨⟨s3, c30⟩, Ra3⟩ := Live.head Rb2; obtain ⟨⟨-, c31⟩, Rb3⟩ := Live.head Ra3; clear Ra3 Rb2; obtain ⟨⟨s4, c40⟩, Ra4⟩ := Live.head Rb3; obtain ⟨⟨-, c41⟩, Rb4⟩ := Live.head Ra4; clear Ra4 Rb3; clear Rb4
  go_wp2_with fail
  with_reducible refine (ref_ValidV _ _ _ HC _).mono ?_; rintro e w5 ⟨rfl, hb⟩; have L5 := Live.step (L4) hb; clear hb B L4 s1 c10 c11 s2 c20 c21 s3 c30 c31 s4 c40 c41; (try simp only [World.size_alloc, World.size_setCell, World.size_drew, World.heap_drewN] at L5); have B := Live.below L5; obtain ⟨⟨s1, c10⟩, Ra1⟩ := Live.head L5; obtain ⟨⟨-, c11⟩, Rb1⟩ := Live.head Ra1; clear Ra1; obtain ⟨⟨s2, c20⟩, Ra2⟩ := Live.head Rb1; obtain ⟨⟨-, c21⟩, Rb2⟩ := Live.head Ra2; clear Ra2 Rb1; obtain ⟨⟨s3, c30⟩, Ra3⟩ := Live.head Rb2; obtain ⟨⟨-, c31⟩, Rb3⟩ := Live.head Ra3; clear Ra3 Rb2; obtain ⟨⟨s4, c40⟩, Ra4⟩ := Live.head Rb3; obtain ⟨⟨-, c41⟩, Rb4⟩ := Live.head Ra4; clear Ra4 Rb3; clear Rb4
  go_wp2_with fail
  with_reducible refine (ref_MulW _ _ _ _ _ _ _ HA HC HP _).mono ?_; rintro e w6 ⟨rfl, hb⟩; have L6 := Live.step (L5) hb; clear hb B L5 s1 c10 c11 s2 c20 c21 s3 c30 c31 s4 c40 c41; (try simp only [World.size_alloc, World.size_setCell, World.size_drew, World.heap_drewN] at L6); have B := Live.below L6; obtain ⟨⟨s1, c10⟩, Ra1⟩ := Live.head L6; obtain ⟨⟨-, c11⟩, Rb1⟩ := Live.head Ra1; clear Ra1; obtain ⟨⟨s2, c20⟩, Ra2⟩ := Live.head Rb1; obtain ⟨⟨-, c21⟩, Rb2⟩ := Live.head Ra2; clear Ra2 Rb1; obtain ⟨⟨s3, c30⟩, Ra3⟩ := Live.head Rb2; obtain ⟨⟨-, c31⟩, Rb3⟩ := Live.head Ra3; clear Ra3 Rb2; obtain ⟨⟨s4, c40⟩, Ra4⟩ := Live.head Rb3; obtain ⟨⟨-, c41⟩, Rb4⟩ := Live.head Ra4; clear Ra4 Rb3; clear Rb4
  go_wp2_with fail
  with_reducible refine (ref_DivV _ _ _ _ _ _ _ HA HC HQ _).mono ?_; rintro e w7 ⟨rfl, hb⟩; have L7 := Live.step (Live.alloc2 _ _ _ (L6)) hb; clear hb B L6 s1 c10 c11 s2 c20 c21 s3 c30 c31 s4 c40 c41; (try simp only [World.size_alloc, World.size_setCell, World.size_drew, World.heap_drewN] at L7); have B := Live.below L7; obtain ⟨⟨s1, c10⟩, Ra1⟩ := Live.head L7; obtain ⟨⟨-, c11⟩, Rb1⟩ := Live.head Ra1; clear Ra1; obtain ⟨⟨s2, c20⟩, Ra2⟩ := Live.head Rb1; obtain ⟨⟨-, c21⟩, Rb2⟩ := Live.head Ra2; clear Ra2 Rb1; obtain ⟨⟨s3, c30⟩, Ra3⟩ := Live.head Rb2; obtain ⟨⟨-, c31⟩, Rb3⟩ := Live.head Ra3; clear Ra3 Rb2; obtain ⟨⟨s4, c40⟩, Ra4⟩ := Live.head Rb3; obtain ⟨⟨-, c41⟩, Rb4⟩ := Live.head Ra4; clear Ra4 Rb3; obtain ⟨⟨s5, c50⟩, Ra5⟩ := Live.head Rb4; obtain ⟨⟨-, c51⟩, Rb5⟩ := Live.head Ra5; clear Ra5 Rb4; clear Rb5
  go_wp2_with fail
  go_ret
  exact ⟨rfl, by (repeat' (first | (with_reducible exact Below.refl _ _) | (with_reducible assumption) | (with_reducible refine Below.alloc ?_ ?_ _) | (with_reducible refine Below.drew ?_) | (with_reducible refine bdrewN ?_ _) | (with_reducible refine Below.setCell ?_ ?_ _) | go_size))⟩

set_option maxRecDepth 100000 in
set_option maxHeartbeats 8000000 in
theorem walk_bad (a b c d : Int) (v1 v2 : Bool) (hv : v1 = true ∧ v2 = false ∨ v1 = false ∧ v2 = true ∨ v1 = false ∧ v2 = false) (HA : Hid (vspan a b = v1)) (HC : Hid (vspan c d = v2)) (HX : Hid (mulS a b c d = (0, 0, 1))) (HY : Hid (divS a b c d = (0, 0, 1))) (w : World) : Calls Try.prog 3 #[.agg #[.int .i64 a, .int .i64 b], .agg #[.int .i64 c, .int .i64 d]] w fun e w' => e = .returned (.bool true) ∧ Below w.heap.size w w' := by
  rcases hv with ⟨rfl, rfl⟩ | ⟨rfl, rfl⟩ | ⟨rfl, rfl⟩
  all_goals
    go_enter Try.func3, Try.ntmps3
    go_wp2_with fail
    with_reducible refine (law_awake _).mono ?_; rintro e w1 ⟨rfl, hb⟩; have L1 := Live.step (Live.alloc2 _ _ _ (Live.alloc2 _ _ _ (Live.start w))) hb; clear hb; (try simp only [World.size_alloc] at L1); have B := Live.below L1; obtain ⟨⟨s1, c10⟩, Ra1⟩ := Live.head L1; obtain ⟨⟨-, c11⟩, Rb1⟩ := Live.head Ra1; clear Ra1; obtain ⟨⟨s2, c20⟩, Ra2⟩ := Live.head Rb1; obtain ⟨⟨-, c21⟩, Rb2⟩ := Live.head Ra2; clear Ra2 Rb1; clear Rb2
    go_wp2_with fail
    with_reducible refine (span_Mul _ _ _ _ _).mono ?_; rw [HX.out]; rintro e w2 ⟨rfl, hb⟩; have L2 := Live.step (L1) hb; clear hb B L1 s1 c10 c11 s2 c20 c21; (try simp only [World.size_alloc, World.size_setCell, World.size_drew, World.heap_drewN] at L2); have B := Live.below L2; obtain ⟨⟨s1, c10⟩, Ra1⟩ := Live.head L2; obtain ⟨⟨-, c11⟩, Rb1⟩ := Live.head Ra1; clear Ra1; obtain ⟨⟨s2, c20⟩, Ra2⟩ := Live.head Rb1; obtain ⟨⟨-, c21⟩, Rb2⟩ := Live.head Ra2; clear Ra2 Rb1; clear Rb2
    go_wp2_with fail
    with_reducible refine (span_Div _ _ _ _ _).mono ?_; rw [HY.out]; rintro e w3 ⟨rfl, hb⟩; have L3 := Live.step (Live.alloc2 _ _ _ (L2)) hb; clear hb B L2 s1 c10 c11 s2 c20 c21; (try simp only [World.size_alloc, World.size_setCell, World.size_drew, World.heap_drewN] at L3); have B := Live.below L3; obtain ⟨⟨s1, c10⟩, Ra1⟩ := Live.head L3; obtain ⟨⟨-, c11⟩, Rb1⟩ := Live.head Ra1; clear Ra1; obtain ⟨⟨s2, c20⟩, Ra2⟩ := Live.head Rb1; obtain ⟨⟨-, c21⟩, Rb2⟩ := Live.head Ra2; clear Ra2 Rb1; obtain ⟨⟨s3, c30⟩, Ra3⟩ := Live.head Rb2; obtain ⟨⟨-, c31⟩, Rb3⟩ := Live.head Ra3; clear Ra3 Rb2; clear Rb3
    go_wp2_with fail
    with_reducible refine (ref_ValidV _ _ _ HA _).mono ?_; rintro e w4 ⟨rfl, hb⟩; have L4 := Live.step (Live.alloc2 _ _ _ (L3)) hb; clear hb B L3 s1 c10 c11 s2 c20 c21 s3 c30 c31; (try simp only [World.size_alloc, World.size_setCell, World.size_drew, World.heap_drewN] at L4); have B := Live.below L4; obtain ⟨⟨s1, c10⟩, Ra1⟩ := Live.head L4; obtain ⟨⟨-, c11⟩, Rb1⟩ := Live.head Ra1; clear Ra1; obtain ⟨⟨s2, c20⟩, Ra2⟩ := Live.head Rb1; obtain ⟨⟨-, c21⟩, Rb2⟩ := Live.head Ra2; clear Ra2 Rb1; obtain ⟨⟨s3, c30⟩, Ra3⟩ := Live.head Rb2; obtain ⟨⟨-, c31⟩, Rb3⟩ := Live.head Ra3; clear Ra3 Rb2; obtain ⟨⟨s4, c40⟩, Ra4⟩ := Live.head Rb3; obtain ⟨⟨-, c41⟩, Rb4⟩ := Live.head Ra4; clear Ra4 Rb3; clear Rb4
    go_wp2_with (first | (go_at_call 14; with_reducible refine (ref_ValidV _ _ _ HC _).mono ?_; rintro e w1 ⟨rfl, hb⟩; (first | (have L := Live.step ‹Live w _ _› hb) | (have L := Live.step (Live.alloc2 _ _ _ ‹Live w _ _›) hb) | (have L := Live.step (Live.alloc2 _ _ _ (Live.alloc2 _ _ _ ‹Live w _ _›)) hb)); clear hb; (try simp only [World.size_alloc, World.size_setCell, World.size_drew, World.heap_drewN] at L); have B := Live.below L; have F := Live.all L; simp only [AllC, and_true] at F) | (go_at_call 15; with_reducible refine (law_wrong _).mono ?_; rintro e w1 ⟨rfl, hb⟩; (first | (have L := Live.step ‹Live w _ _› hb) | (have L := Live.step (Live.alloc2 _ _ _ ‹Live w _ _›) hb) | (have L := Live.step (Live.alloc2 _ _ _ (Live.alloc2 _ _ _ ‹Live w _ _›)) hb)); clear hb; (try simp only [World.size_alloc, World.size_setCell, World.size_drew, World.heap_drewN] at L); have B := Live.below L; have F := Live.all L; simp only [AllC, and_true] at F))
    go_ret
    exact ⟨rfl, by (repeat' (first | (with_reducible exact Below.refl _ _) | (with_reducible assumption) | (with_reducible refine Below.alloc ?_ ?_ _) | (with_reducible refine Below.drew ?_) | (with_reducible refine bdrewN ?_ _) | (with_reducible refine Below.setCell ?_ ?_ _) | go_size))⟩

theorem spanProducts_walk (a0 b0 a1 b1 : Int) (_ha0 : (Lit.int .i64 a0).wf = true) (_hb0 : (Lit.int .i64 b0).wf = true) (_ha1 : (Lit.int .i64 a1).wf = true) (_hb1 : (Lit.int .i64 b1).wf = true) (w : World) : Calls Try.prog 3 #[.agg #[.int .i64 a0, .int .i64 b0], .agg #[.int .i64 a1, .int .i64 b1]] w fun e w' => e = .returned (.bool true) ∧ Below w.heap.size w w' := by
  cases h1 : vspan a0 b0 <;> cases h2 : vspan a1 b1
  · exact walk_bad a0 b0 a1 b1 false false (by simp) (Lib.hid h1) (Lib.hid h2) (Lib.hid (by simp [mulS, h1])) (Lib.hid (by simp [divS, h1])) w
  · exact walk_bad a0 b0 a1 b1 false true (by simp) (Lib.hid h1) (Lib.hid h2) (Lib.hid (by simp [mulS, h1])) (Lib.hid (by simp [divS, h1])) w
  · exact walk_bad a0 b0 a1 b1 true false (by simp) (Lib.hid h1) (Lib.hid h2) (Lib.hid (by simp [mulS, h2])) (Lib.hid (by simp [divS, h2])) w
  · exact walk_valid a0 b0 a1 b1 _ _ _ _ _ _ (Lib.hid h1) (Lib.hid h2) (Lib.hid rfl) (Lib.hid rfl) (Lib.hid (mul_same a0 b0 a1 b1 h1 h2).symm) (Lib.hid (div_same a0 b0 a1 b1 h1 h2).symm) w

/-! The row's step, after the guide's template. -/
theorem own : ownKnob Try.prog.godebug = none := by kernel_rfl

theorem cellsS : Try.prog.cellsOf 23 = 2 := by kernel_rfl
set_option maxRecDepth 100000 in
theorem lifted (os : Os) (started : os.Started) (H : Type) (enc : TypeId × Value → H) :
    ReturnsInHanded {} Try.checked os 3 .any (Rows.spanProductsSpec.pre6 enc Try.prog Try.f3 Rows.spanProductsRow.domain false) (Rows.spanProductsSpec.post enc Try.prog Try.f3 false true false false) := by
  refine returnsInHanded_of_change (C := Try.checked) own started (by kernel_rfl) Try.func3
    (ChangeSpec.witness6 (enc := enc) (C := Try.checked) false ⟨#[], #[.agg #[.int .i64 0, .int .i64 0], .agg #[.int .i64 0, .int .i64 0]], []⟩ 8 (by kernel_rfl) (by kernel_rfl) (by kernel_rfl) (by kernel_rfl)) ?_
  intro W base args ds gs before hval0 hW hcnd _
  have hval : ∀ (j : Nat) t v, Try.f3.params[j]? = some t → args[j]? = some v → Value.okWide Try.prog W .any base t v := hval0
  have hW' := hW
  obtain ⟨p, q, hA0, hV, rfl, hfz, hnd⟩ := hW
  have hA : DataW.TrodAll enc Try.prog W 0 (fun _ => true) true Try.f3.params.toList args.toList ds p := hA0
  rw [Try.params3] at hA hval
  obtain ⟨v0, vs0, d0, ds0, p0, q0, hargs, rfl, rfl, h0, r0⟩ := trodAll_cons hA
  obtain ⟨v1, vs1, d1, ds1, p1, q1, rfl, rfl, rfl, h1, r1⟩ := trodAll_cons r0
  obtain ⟨rfl, rfl, rfl⟩ := trodAll_nil r1
  obtain rfl : args = #[v0, v1] := by cases args; simp_all
  obtain ⟨rfl, rfl⟩ := trodVars_none hV
  obtain ⟨x0, y0, z0, t0, n0, rfl, rfl, rfl, hx0, hy0⟩ := open_agg2 Try.underlying23 (by kernel_rfl) cellsS (hval 0 23 v0 rfl rfl) h0
  obtain ⟨a0, ea0, rfl, wa0⟩ := DataW.trod_int Try.underlying3 hx0
  obtain ⟨b0, eb0, rfl, wb0⟩ := DataW.trod_int Try.underlying3 hy0
  simp at ea0 eb0
  subst ea0 eb0
  obtain ⟨x1, y1, z1, t1, n1, rfl, rfl, rfl, hx1, hy1⟩ := open_agg2 Try.underlying23 (by kernel_rfl) cellsS (hval 1 23 v1 rfl rfl) h1
  obtain ⟨a1, ea1, rfl, wa1⟩ := DataW.trod_int Try.underlying3 hx1
  obtain ⟨b1, eb1, rfl, wb1⟩ := DataW.trod_int Try.underlying3 hy1
  simp at ea1 eb1
  subst ea1 eb1
  clear hA0 hval0
  simp only [List.append_nil] at hW'
  refine (spanProducts_walk a0 b0 a1 b1 wa0 wb0 wa1 wb1 W).mono fun e W' ⟨he, bel⟩ => ?_
  subst he
  exact ⟨_, rfl, _, _, _, [], [], [], hW', trodAll_mk1 (shut_bool Try.underlying4 _), (trodAll_cons_mk (shut_agg2 (y0 := (.lit (.int .i64 a0), [])) (y1 := (.lit (.int .i64 b0), [])) Try.underlying23 (by kernel_rfl) cellsS ⟨1, by simp [DataW.trod, Try.underlying3, wa0]⟩ ⟨1, by simp [DataW.trod, Try.underlying3, wb0]⟩) (trodAll_cons_mk (shut_agg2 (y0 := (.lit (.int .i64 a1), [])) (y1 := (.lit (.int .i64 b1), [])) Try.underlying23 (by kernel_rfl) cellsS ⟨1, by simp [DataW.trod, Try.underlying3, wa1]⟩ ⟨1, by simp [DataW.trod, Try.underlying3, wb1]⟩) trodAll_mk0)), rfl, bel.frame _, fun h => by cases h⟩

theorem over : Rows.spanProductsRow.holds Try.pinned (OpenSpec.ofChange Rows.spanProductsSpec) :=
  OpenClaim.holds_of_wide 3 Try.f3 rfl rfl rfl rfl rfl rfl rfl ⟨rfl, rfl, rfl, rfl, rfl⟩ rfl rfl rfl rfl rfl (by kernel_rfl) Try.func3 (by kernel_rfl)
    (of_decide_eq_true (by kernel_rfl)) (by unfold Func.isWrapper; first | (rw [if_pos (by decide +kernel)]; kernel_rfl) | (rw [if_neg (by decide +kernel)]; exact ⟨rfl, rfl⟩))
    (fun os started H enc _ => lifted os started H enc)

/-- The given statement. -/
theorem proved : Rows.SpanProductsSaid := over
#print axioms proved
end Go.Proofs.Ytnknlgbihibmiaa.lawSpanProducts
