/- Statement SpanInside of chapter 3: results for numbers of two spans lie in the spans of the results, for all spans and numbers. No condition. -/
import Derived.Test.YtnknlgbihibmiaaInsideP
namespace Go.Proofs.Ytnknlgbihibmiaa.lawSpanInside
open Go.Proofs.Ytnknlgbihibmiaa Go.Proofs.Ytnknlgbihibmiaa.lawSpanSums Go.RowKit

set_option maxRecDepth 100000 in
set_option maxHeartbeats 16000000 in
theorem walk_valid (a b c d i k X Y u0 u1 u2 d0 d1 d2 p0 p1 p2 q0 q1 q2 : Int) (HA : Hid (vspan a b = true)) (HC : Hid (vspan c d = true)) (HS : Hid (addS a b c d = (u0, u1, u2))) (HD : Hid (subS a b c d = (d0, d1, d2))) (HP : Hid (mulS a b c d = (p0, p1, p2))) (HQ : Hid (divS a b c d = (q0, q1, q2)))
    (AX : Hid (∀ w, Calls Try.prog 25 #[.agg #[.int .i64 a, .int .i64 b], .int .u64 i] w fun e w' => e = .returned (.int .i64 X) ∧ Below w.heap.size w w')) (AY : Hid (∀ w, Calls Try.prog 25 #[.agg #[.int .i64 c, .int .i64 d], .int .u64 k] w fun e w' => e = .returned (.int .i64 Y) ∧ Below w.heap.size w w'))
    (x1 : -1152921504606846976 ≤ X) (x2 : X ≤ 1152921504606846976) (y1 : -1152921504606846976 ≤ Y) (y2 : Y ≤ 1152921504606846976)
    (cs : Hid (u2 = 5 ∨ u2 = 0 ∧ Hid (hasS u0 u1 (X + Y) = true))) (cd : Hid (d2 = 5 ∨ d2 = 0 ∧ Hid (hasS d0 d1 (X - Y) = true))) (cp : Hid (p2 = 5 ∨ p2 = 0 ∧ Hid (hasS p0 p1 (pv X Y) = true)))
    (PP : Hid (p2 = 0 → ∀ w, Calls Try.prog 29 #[.int .i64 X, .int .i64 Y, .int .i64 1, .bool false] w fun e w' => e = .returned (.tuple #[.int .i64 (pv X Y), .bool true]) ∧ Below w.heap.size w w'))
    (cq : Hid (q2 = 16 ∧ Hid (hasS c d 0 = true) ∨ q2 = 0 ∧ Hid (hasS c d 0 = false) ∧ q0 ≤ floD X Y ∧ ceiD X Y ≤ q1))
    (FF : Hid (q2 = 0 → ∀ w, Calls Try.prog 30 #[.int .i64 X, .int .i64 Y] w fun e w' => e = .returned (.int .i64 (floD X Y)) ∧ Below w.heap.size w w')) (CC : Hid (q2 = 0 → ∀ w, Calls Try.prog 31 #[.int .i64 X, .int .i64 Y] w fun e w' => e = .returned (.int .i64 (ceiD X Y)) ∧ Below w.heap.size w w'))
    (w : World) : Calls Try.prog 6 #[.agg #[.int .i64 a, .int .i64 b], .agg #[.int .i64 c, .int .i64 d], .int .u64 i, .int .u64 k] w fun e w' => e = .returned (.bool true) ∧ Below w.heap.size w w' := by
  go_enter Try.func6, Try.ntmps6
  go_wp2_with fail
  with_reducible refine (law_awake _).mono ?_; rintro e w1 ⟨rfl, hb⟩; have L1 := Live.step (Live.alloc2 _ _ _ (Live.alloc2 _ _ _ (Live.start w))) hb; clear hb; (try simp only [World.size_alloc] at L1); have B := Live.below L1; obtain ⟨⟨s1, c10⟩, Ra1⟩ := Live.head L1; obtain ⟨⟨-, c11⟩, Rb1⟩ := Live.head Ra1; clear Ra1; obtain ⟨⟨s2, c20⟩, Ra2⟩ := Live.head Rb1; obtain ⟨⟨-, c21⟩, Rb2⟩ := Live.head Ra2; clear Ra2 Rb1; clear Rb2
  go_wp2_with fail
  with_reducible refine (ref_ValidV _ _ _ HA _).mono ?_; rintro e w2 ⟨rfl, hb⟩; have L2 := Live.step (L1) hb; clear hb B L1 s1 c10 c11 s2 c20 c21; (try simp only [World.size_alloc, World.size_setCell, World.size_drew, World.heap_drewN] at L2); have B := Live.below L2; obtain ⟨⟨s1, c10⟩, Ra1⟩ := Live.head L2; obtain ⟨⟨-, c11⟩, Rb1⟩ := Live.head Ra1; clear Ra1; obtain ⟨⟨s2, c20⟩, Ra2⟩ := Live.head Rb1; obtain ⟨⟨-, c21⟩, Rb2⟩ := Live.head Ra2; clear Ra2 Rb1; clear Rb2
  go_wp2_with fail
  with_reducible refine (ref_ValidV _ _ _ HC _).mono ?_; rintro e w3 ⟨rfl, hb⟩; have L3 := Live.step (L2) hb; clear hb B L2 s1 c10 c11 s2 c20 c21; (try simp only [World.size_alloc, World.size_setCell, World.size_drew, World.heap_drewN] at L3); have B := Live.below L3; obtain ⟨⟨s1, c10⟩, Ra1⟩ := Live.head L3; obtain ⟨⟨-, c11⟩, Rb1⟩ := Live.head Ra1; clear Ra1; obtain ⟨⟨s2, c20⟩, Ra2⟩ := Live.head Rb1; obtain ⟨⟨-, c21⟩, Rb2⟩ := Live.head Ra2; clear Ra2 Rb1; clear Rb2
  go_wp2_with fail
  go_region_held3 (fun w' => Below w.heap.size w w' ∧ w.heap.size < w'.heap.size ∧ (w.heap.size + 1) < w'.heap.size ∧ w'.cell? ⟨w.heap.size, 0, none⟩ = some (.int .i64 a) ∧ w'.cell? ⟨w.heap.size, 1, none⟩ = some (.int .i64 b) ∧ w'.cell? ⟨(w.heap.size + 1), 0, none⟩ = some (.int .i64 c) ∧ w'.cell? ⟨(w.heap.size + 1), 1, none⟩ = some (.int .i64 d)) (first | (exact ⟨B.drew, s2, s1, c20, c21, c10, c11⟩) | (refine keep2 ?_ hb1; assumption) | (refine keep2A ?_; assumption) | (refine ⟨?_, ?_, ?_, ?_, ?_, ?_, ?_⟩ <;> first | (go_size; done) | ((first | (go_simp; done) | (simp (maxDischargeDepth := 10) [go_sem, *]; done)); done) | ((repeat' (first | (with_reducible exact Below.refl _ _) | (with_reducible assumption) | (with_reducible refine Below.alloc ?_ ?_ _) | (with_reducible refine Below.drew ?_) | (with_reducible refine bdrewN ?_ _) | (with_reducible refine Below.setCell ?_ ?_ _) | go_size)); done)))
    (first
      | (go_at_call 25; (first | with_reducible refine (AX.out _).mono ?_ | with_reducible refine (AY.out _).mono ?_); rintro e w4 ⟨rfl, hb1⟩))
  have L4 := live2 ‹Below w.heap.size w w4 ∧ _›
  clear B s1 c10 c11 s2 c20 c21 L3
  have B := Live.below L4; obtain ⟨⟨s1, c10⟩, Ra1⟩ := Live.head L4; obtain ⟨⟨-, c11⟩, Rb1⟩ := Live.head Ra1; clear Ra1; obtain ⟨⟨s2, c20⟩, Ra2⟩ := Live.head Rb1; obtain ⟨⟨-, c21⟩, Rb2⟩ := Live.head Ra2; clear Ra2 Rb1; clear Rb2
  go_wp2_with fail
  with_reducible refine (span_Add _ _ _ _ _).mono ?_; rw [HS.out]; rintro e w5 ⟨rfl, hb⟩; have L5 := Live.step (L4) hb; clear hb B L4 s1 c10 c11 s2 c20 c21; (try simp only [World.size_alloc, World.size_setCell, World.size_drew, World.heap_drewN] at L5); have B := Live.below L5; obtain ⟨⟨s1, c10⟩, Ra1⟩ := Live.head L5; obtain ⟨⟨-, c11⟩, Rb1⟩ := Live.head Ra1; clear Ra1; obtain ⟨⟨s2, c20⟩, Ra2⟩ := Live.head Rb1; obtain ⟨⟨-, c21⟩, Rb2⟩ := Live.head Ra2; clear Ra2 Rb1; clear Rb2
  go_wp2_with fail
  with_reducible refine (span_Sub _ _ _ _ _).mono ?_; rw [HD.out]; rintro e w6 ⟨rfl, hb⟩; have L6 := Live.step (Live.alloc2 _ _ _ (L5)) hb; clear hb B L5 s1 c10 c11 s2 c20 c21; (try simp only [World.size_alloc, World.size_setCell, World.size_drew, World.heap_drewN] at L6); have B := Live.below L6; obtain ⟨⟨s1, c10⟩, Ra1⟩ := Live.head L6; obtain ⟨⟨-, c11⟩, Rb1⟩ := Live.head Ra1; clear Ra1; obtain ⟨⟨s2, c20⟩, Ra2⟩ := Live.head Rb1; obtain ⟨⟨-, c21⟩, Rb2⟩ := Live.head Ra2; clear Ra2 Rb1; obtain ⟨⟨s3, c30⟩, Ra3⟩ := Live.head Rb2; obtain ⟨⟨-, c31⟩, Rb3⟩ := Live.head Ra3; clear Ra3 Rb2; clear Rb3
  go_wp2_with fail
  with_reducible refine (span_Mul _ _ _ _ _).mono ?_; rw [HP.out]; rintro e w7 ⟨rfl, hb⟩; have L7 := Live.step (Live.alloc2 _ _ _ (L6)) hb; clear hb B L6 s1 c10 c11 s2 c20 c21 s3 c30 c31; (try simp only [World.size_alloc, World.size_setCell, World.size_drew, World.heap_drewN] at L7); have B := Live.below L7; obtain ⟨⟨s1, c10⟩, Ra1⟩ := Live.head L7; obtain ⟨⟨-, c11⟩, Rb1⟩ := Live.head Ra1; clear Ra1; obtain ⟨⟨s2, c20⟩, Ra2⟩ := Live.head Rb1; obtain ⟨⟨-, c21⟩, Rb2⟩ := Live.head Ra2; clear Ra2 Rb1; obtain ⟨⟨s3, c30⟩, Ra3⟩ := Live.head Rb2; obtain ⟨⟨-, c31⟩, Rb3⟩ := Live.head Ra3; clear Ra3 Rb2; obtain ⟨⟨s4, c40⟩, Ra4⟩ := Live.head Rb3; obtain ⟨⟨-, c41⟩, Rb4⟩ := Live.head Ra4; clear Ra4 Rb3; clear Rb4
  go_wp2_with fail
  with_reducible refine (span_Div _ _ _ _ _).mono ?_; rw [HQ.out]; rintro e w8 ⟨rfl, hb⟩; have L8 := Live.step (Live.alloc2 _ _ _ (L7)) hb; clear hb B L7 s1 c10 c11 s2 c20 c21 s3 c30 c31 s4 c40 c41; (try simp only [World.size_alloc, World.size_setCell, World.size_drew, World.heap_drewN] at L8); have B := Live.below L8; obtain ⟨⟨s1, c10⟩, Ra1⟩ := Live.head L8; obtain ⟨⟨-, c11⟩, Rb1⟩ := Live.head Ra1; clear Ra1; obtain ⟨⟨s2, c20⟩, Ra2⟩ := Live.head Rb1; obtain ⟨⟨-, c21⟩, Rb2⟩ := Live.head Ra2; clear Ra2 Rb1; obtain ⟨⟨s3, c30⟩, Ra3⟩ := Live.head Rb2; obtain ⟨⟨-, c31⟩, Rb3⟩ := Live.head Ra3; clear Ra3 Rb2; obtain ⟨⟨s4, c40⟩, Ra4⟩ := Live.head Rb3; obtain ⟨⟨-, c41⟩, Rb4⟩ := Live.head Ra4; clear Ra4 Rb3; obtain ⟨⟨s5, c50⟩, Ra5⟩ := Live.head Rb4; obtain ⟨⟨-, c51⟩, Rb5⟩ := Live.head Ra5; clear Ra5 Rb4; clear Rb5
  clear AX AY HS HD HP HQ
  rcases cs.out with rfl | ⟨rfl, hs⟩ <;> rcases cd.out with rfl | ⟨rfl, hd⟩ <;> rcases cp.out with rfl | ⟨rfl, hp⟩ <;> rcases cq.out with ⟨rfl, hq⟩ | ⟨rfl, hq, e1, e2⟩
  all_goals
    clear cs cd cp cq
    try
      have PP' := Lib.hid (PP.out rfl)
    try
      have FF' := Lib.hid (FF.out rfl)
      have CC' := Lib.hid (CC.out rfl)
    clear PP FF CC
    go_wp2_with (first | (go_at_call 28; with_reducible refine (ref_HasV u0 u1 (X + Y) true hs _).mono ?_; rintro e w1 ⟨rfl, hb⟩; (first | (have L := Live.step ‹Live w _ _› hb) | (have L := Live.step (Live.alloc2 _ _ _ ‹Live w _ _›) hb) | (have L := Live.step (Live.alloc2 _ _ _ (Live.alloc2 _ _ _ ‹Live w _ _›)) hb)); clear hb; (try simp only [World.size_alloc, World.size_setCell, World.size_drew, World.heap_drewN] at L); have B := Live.below L; have F := Live.all L; simp only [AllC, and_true] at F) | (go_at_call 28; with_reducible refine (ref_HasV d0 d1 (X - Y) true hd _).mono ?_; rintro e w1 ⟨rfl, hb⟩; (first | (have L := Live.step ‹Live w _ _› hb) | (have L := Live.step (Live.alloc2 _ _ _ ‹Live w _ _›) hb) | (have L := Live.step (Live.alloc2 _ _ _ (Live.alloc2 _ _ _ ‹Live w _ _›)) hb)); clear hb; (try simp only [World.size_alloc, World.size_setCell, World.size_drew, World.heap_drewN] at L); have B := Live.below L; have F := Live.all L; simp only [AllC, and_true] at F) | (go_at_call 28; with_reducible refine (ref_HasV p0 p1 (pv X Y) true hp _).mono ?_; rintro e w1 ⟨rfl, hb⟩; (first | (have L := Live.step ‹Live w _ _› hb) | (have L := Live.step (Live.alloc2 _ _ _ ‹Live w _ _›) hb) | (have L := Live.step (Live.alloc2 _ _ _ (Live.alloc2 _ _ _ ‹Live w _ _›)) hb)); clear hb; (try simp only [World.size_alloc, World.size_setCell, World.size_drew, World.heap_drewN] at L); have B := Live.below L; have F := Live.all L; simp only [AllC, and_true] at F) | (go_at_call 28; with_reducible refine (ref_HasV c d 0 _ hq _).mono ?_; rintro e w1 ⟨rfl, hb⟩; (first | (have L := Live.step ‹Live w _ _› hb) | (have L := Live.step (Live.alloc2 _ _ _ ‹Live w _ _›) hb) | (have L := Live.step (Live.alloc2 _ _ _ (Live.alloc2 _ _ _ ‹Live w _ _›)) hb)); clear hb; (try simp only [World.size_alloc, World.size_setCell, World.size_drew, World.heap_drewN] at L); have B := Live.below L; have F := Live.all L; simp only [AllC, and_true] at F) | (go_at_call 29; with_reducible refine (PP'.out _).mono ?_; rintro e w1 ⟨rfl, hb⟩; (first | (have L := Live.step ‹Live w _ _› hb) | (have L := Live.step (Live.alloc2 _ _ _ ‹Live w _ _›) hb) | (have L := Live.step (Live.alloc2 _ _ _ (Live.alloc2 _ _ _ ‹Live w _ _›)) hb)); clear hb; (try simp only [World.size_alloc, World.size_setCell, World.size_drew, World.heap_drewN] at L); have B := Live.below L; have F := Live.all L; simp only [AllC, and_true] at F))
    (try (go_ret; exact ⟨rfl, by (repeat' (first | (with_reducible exact Below.refl _ _) | (with_reducible assumption) | (with_reducible refine Below.alloc ?_ ?_ _) | (with_reducible refine Below.drew ?_) | (with_reducible refine bdrewN ?_ _) | (with_reducible refine Below.setCell ?_ ?_ _) | go_size))⟩))
  all_goals
    first
      | (obtain ⟨⟨t1, d10⟩, Ra⟩ := Live.head L; obtain ⟨⟨-, d11⟩, Rb⟩ := Live.head Ra; clear Ra Rb)
    generalize w8.heap.size = p at *
    go_region_held3 (fun w' => Below w.heap.size w w' ∧ p < w'.heap.size ∧ w'.cell? ⟨p, 0, none⟩ = some (.int .i64 q0) ∧ w'.cell? ⟨p, 1, none⟩ = some (.int .i64 q1)) (first | (exact ⟨B.drew, t1, d10, d11⟩) | (refine keep1 ?_ hb1; assumption) | (refine keep1A ?_; assumption) | (refine ⟨?_, ?_, ?_, ?_⟩ <;> first | (go_size; done) | ((first | (go_simp; done) | (simp (maxDischargeDepth := 10) [go_sem, *]; done)); done) | ((repeat' (first | (with_reducible exact Below.refl _ _) | (with_reducible assumption) | (with_reducible refine Below.alloc ?_ ?_ _) | (with_reducible refine Below.drew ?_) | (with_reducible refine bdrewN ?_ _) | (with_reducible refine Below.setCell ?_ ?_ _) | go_size)); done)))
      (first
        | (go_at_call 30; with_reducible refine (FF'.out _).mono ?_; rintro e w5 ⟨rfl, hb1⟩)
        | (go_at_call 31; with_reducible refine (CC'.out _).mono ?_; rintro e w5 ⟨rfl, hb1⟩))
    all_goals
      go_wp2
      go_ret
      exact ⟨rfl, (‹Below w.heap.size w w5 ∧ _›).1⟩
end Go.Proofs.Ytnknlgbihibmiaa.lawSpanInside
