/- Statement SpanRules of chapter 3: a case of its walk. -/
import Derived.Test.YtnknlgbihibmiaaRulesP
namespace Go.Proofs.Ytnknlgbihibmiaa.lawSpanRules
open Go.Proofs.Ytnknlgbihibmiaa Go.RowKit

set_option maxRecDepth 100000 in
set_option maxHeartbeats 8000000 in
theorem walk_00 (a b c d u0 u1 x0 x1 m0 m1 m2 n0 n1 n2 : Int) (h1 : vspan a b = true) (h2 : vspan c d = true) (hs : addS a b c d = (u0, u1, 0)) (HX : Hid (subS u0 u1 c d = (x0, x1, 0))) (HI : insideS a b x0 x1 = true)
    (lo : a ≤ c ∨ ¬ a ≤ c) (hi : d ≤ b ∨ ¬ d ≤ b) (w : World)
    (HM : Hid (meetS a b c d = (m0, m1, m2))) (HN : Hid (hullS2 m0 m1 a b = (n0, n1, n2)))
    (hd : b < c ∧ (m2 == 12) = true ∨ ¬ b < c ∧ d < a ∧ (m2 == 12) = true ∨ ¬ b < c ∧ ¬ d < a ∧ m2 = 0 ∧ insideS m0 m1 a b = true ∧ insideS m0 m1 c d = true ∧ n0 = a ∧ n1 = b ∧ n2 = 0) :
    Calls Try.prog 9 #[.agg #[.int .i64 a, .int .i64 b], .agg #[.int .i64 c, .int .i64 d]] w fun e w' => e = .returned (.bool true) ∧ Below w.heap.size w w' := by
  obtain ⟨p0, p1, p2, hp⟩ : ∃ s0 s1 s2, mulS a b c d = (s0, s1, s2) := ⟨_, _, _, rfl⟩
  have ht : addS c d a b = (u0, u1, 0) := by rw [addS_comm, hs]
  have hq : mulS c d a b = (p0, p1, p2) := by rw [mulS_comm, hp]
  have hh : hullS2 a b c d = (min a c, max b d, 0) := by simp [hullS2, h1, h2]
  have b1 := vspan_bounds h1; have b2 := vspan_bounds h2
  have HS := Lib.hid hs; have HT := Lib.hid ht; have HP := Lib.hid hp; have HQ := Lib.hid hq; have HH := Lib.hid hh
  have i1 : insideS a b (min a c) (max b d) = true := inside_true (by omega) (by omega)
  have i2 : insideS c d (min a c) (max b d) = true := inside_true (by omega) (by omega)
  have lo' : (min a c != a) = false ∨ (min a c != a) = true ∧ (min a c != c) = false := by
    rcases lo with h | h
    · exact Or.inl (by simp; omega)
    · exact Or.inr ⟨by simp; omega, by simp; omega⟩
  have hi' : (max b d != b) = false ∨ (max b d != b) = true ∧ (max b d != d) = false := by
    rcases hi with h | h
    · exact Or.inl (by simp; omega)
    · exact Or.inr ⟨by simp; omega, by simp; omega⟩
  have HLO := Lib.hid lo'; have HHI := Lib.hid hi'; have HD := Lib.hid hd
  clear hs ht hp hq hh lo hi lo' hi' hd
  go_enter Try.func9, Try.ntmps9
  go_wp2_with fail
  with_reducible refine (law_awake _).mono ?_; rintro e w1 ⟨rfl, hb⟩; have L1 := Live.step (Live.alloc2 _ _ _ (Live.alloc2 _ _ _ (Live.start w))) hb; clear hb; (try simp only [World.size_alloc] at L1); have B := Live.below L1; obtain ⟨⟨s1, c10⟩, Ra1⟩ := Live.head L1; obtain ⟨⟨-, c11⟩, Rb1⟩ := Live.head Ra1; clear Ra1; obtain ⟨⟨s2, c20⟩, Ra2⟩ := Live.head Rb1; obtain ⟨⟨-, c21⟩, Rb2⟩ := Live.head Ra2; clear Ra2 Rb1; clear Rb2
  go_wp2_with fail
  with_reducible refine (ref_Valid _ _ _).mono ?_; rintro e w2 ⟨rfl, hb⟩; have L2 := Live.step (L1) hb; clear hb B L1 s1 c10 c11 s2 c20 c21; (try simp only [World.size_alloc, World.size_setCell, World.size_drew, World.heap_drewN] at L2); have B := Live.below L2; obtain ⟨⟨s1, c10⟩, Ra1⟩ := Live.head L2; obtain ⟨⟨-, c11⟩, Rb1⟩ := Live.head Ra1; clear Ra1; obtain ⟨⟨s2, c20⟩, Ra2⟩ := Live.head Rb1; obtain ⟨⟨-, c21⟩, Rb2⟩ := Live.head Ra2; clear Ra2 Rb1; clear Rb2
  go_wp2_with fail
  with_reducible refine (ref_Valid _ _ _).mono ?_; rintro e w3 ⟨rfl, hb⟩; have L3 := Live.step (L2) hb; clear hb B L2 s1 c10 c11 s2 c20 c21; (try simp only [World.size_alloc, World.size_setCell, World.size_drew, World.heap_drewN] at L3); have B := Live.below L3; obtain ⟨⟨s1, c10⟩, Ra1⟩ := Live.head L3; obtain ⟨⟨-, c11⟩, Rb1⟩ := Live.head Ra1; clear Ra1; obtain ⟨⟨s2, c20⟩, Ra2⟩ := Live.head Rb1; obtain ⟨⟨-, c21⟩, Rb2⟩ := Live.head Ra2; clear Ra2 Rb1; clear Rb2
  go_wp2_with fail
  with_reducible refine (span_Add _ _ _ _ _).mono ?_; rw [HS.out]; rintro e w4 ⟨rfl, hb⟩; have L4 := Live.step (L3) hb; clear hb B L3 s1 c10 c11 s2 c20 c21; (try simp only [World.size_alloc, World.size_setCell, World.size_drew, World.heap_drewN] at L4); have B := Live.below L4; obtain ⟨⟨s1, c10⟩, Ra1⟩ := Live.head L4; obtain ⟨⟨-, c11⟩, Rb1⟩ := Live.head Ra1; clear Ra1; obtain ⟨⟨s2, c20⟩, Ra2⟩ := Live.head Rb1; obtain ⟨⟨-, c21⟩, Rb2⟩ := Live.head Ra2; clear Ra2 Rb1; clear Rb2
  go_wp2_with fail
  with_reducible refine (span_Add _ _ _ _ _).mono ?_; rw [HT.out]; rintro e w5 ⟨rfl, hb⟩; have L5 := Live.step (Live.alloc2 _ _ _ (L4)) hb; clear hb B L4 s1 c10 c11 s2 c20 c21; (try simp only [World.size_alloc, World.size_setCell, World.size_drew, World.heap_drewN] at L5); have B := Live.below L5; obtain ⟨⟨s1, c10⟩, Ra1⟩ := Live.head L5; obtain ⟨⟨-, c11⟩, Rb1⟩ := Live.head Ra1; clear Ra1; obtain ⟨⟨s2, c20⟩, Ra2⟩ := Live.head Rb1; obtain ⟨⟨-, c21⟩, Rb2⟩ := Live.head Ra2; clear Ra2 Rb1; obtain ⟨⟨s3, c30⟩, Ra3⟩ := Live.head Rb2; obtain ⟨⟨-, c31⟩, Rb3⟩ := Live.head Ra3; clear Ra3 Rb2; clear Rb3
  go_wp2_with fail
  with_reducible refine (span_Mul _ _ _ _ _).mono ?_; rw [HP.out]; rintro e w6 ⟨rfl, hb⟩; have L6 := Live.step (Live.alloc2 _ _ _ (L5)) hb; clear hb B L5 s1 c10 c11 s2 c20 c21 s3 c30 c31; (try simp only [World.size_alloc, World.size_setCell, World.size_drew, World.heap_drewN] at L6); have B := Live.below L6; obtain ⟨⟨s1, c10⟩, Ra1⟩ := Live.head L6; obtain ⟨⟨-, c11⟩, Rb1⟩ := Live.head Ra1; clear Ra1; obtain ⟨⟨s2, c20⟩, Ra2⟩ := Live.head Rb1; obtain ⟨⟨-, c21⟩, Rb2⟩ := Live.head Ra2; clear Ra2 Rb1; obtain ⟨⟨s3, c30⟩, Ra3⟩ := Live.head Rb2; obtain ⟨⟨-, c31⟩, Rb3⟩ := Live.head Ra3; clear Ra3 Rb2; obtain ⟨⟨s4, c40⟩, Ra4⟩ := Live.head Rb3; obtain ⟨⟨-, c41⟩, Rb4⟩ := Live.head Ra4; clear Ra4 Rb3; clear Rb4
  go_wp2_with fail
  with_reducible refine (span_Mul _ _ _ _ _).mono ?_; rw [HQ.out]; rintro e w7 ⟨rfl, hb⟩; have L7 := Live.step (Live.alloc2 _ _ _ (L6)) hb; clear hb B L6 s1 c10 c11 s2 c20 c21 s3 c30 c31 s4 c40 c41; (try simp only [World.size_alloc, World.size_setCell, World.size_drew, World.heap_drewN] at L7); have B := Live.below L7; obtain ⟨⟨s1, c10⟩, Ra1⟩ := Live.head L7; obtain ⟨⟨-, c11⟩, Rb1⟩ := Live.head Ra1; clear Ra1; obtain ⟨⟨s2, c20⟩, Ra2⟩ := Live.head Rb1; obtain ⟨⟨-, c21⟩, Rb2⟩ := Live.head Ra2; clear Ra2 Rb1; obtain ⟨⟨s3, c30⟩, Ra3⟩ := Live.head Rb2; obtain ⟨⟨-, c31⟩, Rb3⟩ := Live.head Ra3; clear Ra3 Rb2; obtain ⟨⟨s4, c40⟩, Ra4⟩ := Live.head Rb3; obtain ⟨⟨-, c41⟩, Rb4⟩ := Live.head Ra4; clear Ra4 Rb3; obtain ⟨⟨s5, c50⟩, Ra5⟩ := Live.head Rb4; obtain ⟨⟨-, c51⟩, Rb5⟩ := Live.head Ra5; clear Ra5 Rb4; clear Rb5
  go_wp2_with (first | (go_at_call 27; with_reducible refine (span_Sub _ _ _ _ _).mono ?_; rw [HX.out]; rintro e w1 ⟨rfl, hb⟩; (first | (have L := Live.step ‹Live w _ _› hb) | (have L := Live.step (Live.alloc2 _ _ _ ‹Live w _ _›) hb) | (have L := Live.step (Live.alloc2 _ _ _ (Live.alloc2 _ _ _ ‹Live w _ _›)) hb)); clear hb; (try simp only [World.size_alloc, World.size_setCell, World.size_drew, World.heap_drewN] at L); have B := Live.below L; have F := Live.all L; simp only [AllC, and_true] at F) | (go_at_call 34; with_reducible refine (ref_Inside _ _ _ _ _).mono ?_; rintro e w1 ⟨rfl, hb⟩; (first | (have L := Live.step ‹Live w _ _› hb) | (have L := Live.step (Live.alloc2 _ _ _ ‹Live w _ _›) hb) | (have L := Live.step (Live.alloc2 _ _ _ (Live.alloc2 _ _ _ ‹Live w _ _›)) hb)); clear hb; (try simp only [World.size_alloc, World.size_setCell, World.size_drew, World.heap_drewN] at L); have B := Live.below L; have F := Live.all L; simp only [AllC, and_true] at F) | (go_at_call 35; fail))
  with_reducible refine (span_Hull _ _ _ _ _).mono ?_; rw [HH.out]; rintro e w8 ⟨rfl, hb⟩
  have L8 := Live.step L hb
  have LA : Live w w8 [(w.heap.size, 0, .int .i64 a), (w.heap.size, 1, .int .i64 b), (w.heap.size + 1, 0, .int .i64 c), (w.heap.size + 1, 1, .int .i64 d)] := Live.sub L8 (by simp)
  clear hb B L F L7 s1 s2 s3 s4 s5 c10 c11 c20 c21 c30 c31 c40 c41 c50 c51
  have B := Live.below LA
  have F := Live.all LA
  simp only [AllC, and_true] at F
  rcases HLO.out with o1 | ⟨o1, o2⟩ <;> rcases HHI.out with o3 | ⟨o3, o4⟩ <;> rcases HD.out with ⟨y1, y2⟩ | ⟨y1, y2, y3⟩ | ⟨y1, y2, rfl, y3, y4, rfl, rfl, rfl⟩
  all_goals
    go_wp2_with (first | (go_at_call 34; with_reducible refine (ref_Inside _ _ _ _ _).mono ?_; rintro e w1 ⟨rfl, hb⟩; (first | (have L := Live.step ‹Live w _ _› hb) | (have L := Live.step (Live.alloc2 _ _ _ ‹Live w _ _›) hb) | (have L := Live.step (Live.alloc2 _ _ _ (Live.alloc2 _ _ _ ‹Live w _ _›)) hb)); clear hb; (try simp only [World.size_alloc, World.size_setCell, World.size_drew, World.heap_drewN] at L); have B := Live.below L; have F := Live.all L; simp only [AllC, and_true] at F) | (go_at_call 36; with_reducible refine (span_Meet _ _ _ _ _).mono ?_; rw [HM.out]; rintro e w1 ⟨rfl, hb⟩; (first | (have L := Live.step ‹Live w _ _› hb) | (have L := Live.step (Live.alloc2 _ _ _ ‹Live w _ _›) hb) | (have L := Live.step (Live.alloc2 _ _ _ (Live.alloc2 _ _ _ ‹Live w _ _›)) hb)); clear hb; (try simp only [World.size_alloc, World.size_setCell, World.size_drew, World.heap_drewN] at L); have B := Live.below L; have F := Live.all L; simp only [AllC, and_true] at F) | (go_at_call 35; with_reducible refine (span_Hull _ _ _ _ _).mono ?_; rw [HN.out]; rintro e w1 ⟨rfl, hb⟩; (first | (have L := Live.step ‹Live w _ _› hb) | (have L := Live.step (Live.alloc2 _ _ _ ‹Live w _ _›) hb) | (have L := Live.step (Live.alloc2 _ _ _ (Live.alloc2 _ _ _ ‹Live w _ _›)) hb)); clear hb; (try simp only [World.size_alloc, World.size_setCell, World.size_drew, World.heap_drewN] at L); have B := Live.below L; have F := Live.all L; simp only [AllC, and_true] at F))
    go_ret
    exact ⟨by simp [*], by (repeat' (first | (with_reducible exact Below.refl _ _) | (with_reducible assumption) | (with_reducible refine Below.alloc ?_ ?_ _) | (with_reducible refine Below.drew ?_) | (with_reducible refine bdrewN ?_ _) | (with_reducible refine Below.setCell ?_ ?_ _) | go_size))⟩

end Go.Proofs.Ytnknlgbihibmiaa.lawSpanRules
