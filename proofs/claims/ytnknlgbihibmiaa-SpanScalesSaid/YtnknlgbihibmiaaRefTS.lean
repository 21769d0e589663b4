/- The reference's Times, Of, Sqrt, Root of spans over this seat's program. -/
import Derived.Test.YtnknlgbihibmiaaRefMD
import Derived.Test.YtnknlgbihibmiaaRoot
namespace Go.Proofs.Ytnknlgbihibmiaa
open Go.RowKit

theorem wib_no {n : Int} (h : wib n = false) : n < -1152921504606846976 ∨ 1152921504606846976 < n := by simp [wib] at h; omega
theorem wib_yes {n : Int} (h : wib n = true) : -1152921504606846976 ≤ n ∧ n ≤ 1152921504606846976 := by simp [wib] at h; omega

set_option maxRecDepth 100000 in
set_option maxHeartbeats 4000000 in
theorem ref_TimesV (a b num den m0 m1 m2 : Int) (HA : Hid (vspan a b = true)) (HM : Hid (timesT a b num den = (m0, m1, m2))) (w : World) :
    Calls Try.prog 21 #[.agg #[.int .i64 a, .int .i64 b], .int .i64 num, .int .i64 den] w fun e w' => e = .returned (.tuple #[.agg #[.int .i64 m0, .int .i64 m1], .int .i64 m2]) ∧ Below w.heap.size w w' := by
  have hm := HM.out
  unfold timesT at hm
  by_cases z : den = 0
  · rw [if_pos z] at hm
    cases hm
    subst z
    go_enter Try.func21, Try.ntmps21
    go_wp2_with fail
    refine bodyPost_ret (by simp only [results, Try.results21]; go_simp; try rfl) rfl ?_
    exact ⟨rfl, by (repeat' (first | (with_reducible exact Below.refl _ _) | (with_reducible assumption) | (with_reducible refine Below.alloc ?_ ?_ _) | (with_reducible refine Below.drew ?_) | (with_reducible refine bdrewN ?_ _) | (with_reducible refine Below.setCell ?_ ?_ _) | go_size))⟩
  rw [if_neg z] at hm
  by_cases r : wib num = false ∨ wib den = false
  · rw [if_pos r] at hm
    cases hm
    have z' : (den == 0) = false := by simpa using z
    have c : num < -1152921504606846976 ∨ 1152921504606846976 < num ∨ (-1152921504606846976 ≤ num ∧ num ≤ 1152921504606846976 ∧ den < -1152921504606846976) ∨ (-1152921504606846976 ≤ num ∧ num ≤ 1152921504606846976 ∧ 1152921504606846976 < den) := by
      rcases r with r | r
      · have := wib_no r; omega
      · have := wib_no r; omega
    clear r z
    rcases c with c | c | ⟨c1, c2, c⟩ | ⟨c1, c2, c⟩
    all_goals
      go_enter Try.func21, Try.ntmps21
      go_wp2_with fail
      refine bodyPost_ret (by simp only [results, Try.results21]; go_simp; try rfl) rfl ?_
      exact ⟨rfl, by (repeat' (first | (with_reducible exact Below.refl _ _) | (with_reducible assumption) | (with_reducible refine Below.alloc ?_ ?_ _) | (with_reducible refine Below.drew ?_) | (with_reducible refine bdrewN ?_ _) | (with_reducible refine Below.setCell ?_ ?_ _) | go_size))⟩
  rw [if_neg r] at hm
  have n1 : wib num = true := by cases h : wib num <;> simp [h] at r ⊢
  have n2 : wib den = true := by cases h : wib den <;> simp [h] at r ⊢
  obtain ⟨p1, p2⟩ := wib_yes n1; obtain ⟨q1, q2⟩ := wib_yes n2
  have PP : Hid (∀ (x : Int) (up : Bool) (w : World), (x = a ∨ x = b) → Calls Try.prog 29 #[.int .i64 x, .int .i64 num, .int .i64 den, .bool up] w fun e w' => e = .returned (.tuple #[.int .i64 (partS x num den up).1, .bool (partS x num den up).2]) ∧ Below w.heap.size w w') :=
    Lib.hid fun x up w hx => by
      have h1 := vspan_bounds HA.out
      exact ref_Part x num den up (by omega) (by omega) p1 p2 q1 q2 z w
  have z' : (den == 0) = false := by simpa using z
  clear n1 n2 r z
  obtain ⟨v1, k1, E1⟩ : ∃ v k, partS a num den false = (v, k) := ⟨_, _, rfl⟩
  obtain ⟨v2, k2, E2⟩ : ∃ v k, partS a num den true = (v, k) := ⟨_, _, rfl⟩
  obtain ⟨v3, k3, E3⟩ : ∃ v k, partS b num den false = (v, k) := ⟨_, _, rfl⟩
  obtain ⟨v4, k4, E4⟩ : ∃ v k, partS b num den true = (v, k) := ⟨_, _, rfl⟩
  have P1 := Lib.hid fun w => PP.out a false w (Or.inl rfl)
  have P2 := Lib.hid fun w => PP.out a true w (Or.inl rfl)
  have P3 := Lib.hid fun w => PP.out b false w (Or.inr rfl)
  have P4 := Lib.hid fun w => PP.out b true w (Or.inr rfl)
  rw [E1] at P1 hm; rw [E2] at P2 hm; rw [E3] at P3 hm; rw [E4] at P4 hm
  have HM := Lib.hid hm
  clear E1 E2 E3 E4 hm PP
  go_enter Try.func21, Try.ntmps21
  go_wp2_with fail
  refine (P1.out _).mono ?_
  rintro e w1 ⟨rfl, hb1⟩; have hB_w1 : Below w.heap.size w w1 := Below.trans (by (repeat' (first | (with_reducible exact Below.refl _ _) | (with_reducible assumption) | (with_reducible refine Below.alloc ?_ ?_ _) | (with_reducible refine Below.drew ?_) | (with_reducible refine bdrewN ?_ _) | (with_reducible refine Below.setCell ?_ ?_ _) | go_size))) (hb1.mono (by go_size)); have hz_w1 := hb1.size; (try simp only [World.size_alloc] at hz_w1); obtain ⟨hd, hg⟩ := bcell hb1; clear hb1; have c00 : w1.cell? ⟨w.heap.size, 0, none⟩ = some (.int .i64 a) := (hd _ _ (by go_size)).trans (by (first | (go_simp; done) | (simp (maxDischargeDepth := 10) [go_sem, *]; done))); have c01 : w1.cell? ⟨w.heap.size, 1, none⟩ = some (.int .i64 b) := (hd _ _ (by go_size)).trans (by (first | (go_simp; done) | (simp (maxDischargeDepth := 10) [go_sem, *]; done))); have c10 : w1.cell? ⟨w.heap.size + 1, 0, none⟩ = some (.int .i64 0) := (hd _ _ (by go_size)).trans (by (first | (go_simp; done) | (simp (maxDischargeDepth := 10) [go_sem, *]; done))); have c11 : w1.cell? ⟨w.heap.size + 1, 1, none⟩ = some (.int .i64 0) := (hd _ _ (by go_size)).trans (by (first | (go_simp; done) | (simp (maxDischargeDepth := 10) [go_sem, *]; done))); have f10 : w1.frozen? ⟨w.heap.size + 1, 0, none⟩ = false := (hg _ _ (by go_size)).trans (by (first | (go_simp; done) | (simp (maxDischargeDepth := 10) [go_sem, *]; done))); have f11 : w1.frozen? ⟨w.heap.size + 1, 1, none⟩ = false := (hg _ _ (by go_size)).trans (by (first | (go_simp; done) | (simp (maxDischargeDepth := 10) [go_sem, *]; done))); clear hd hg
  go_wp2_with fail
  refine (P2.out _).mono ?_
  rintro e w2 ⟨rfl, hb1⟩; have hB_w2 : Below w.heap.size w w2 := Below.trans (by (repeat' (first | (with_reducible exact Below.refl _ _) | (with_reducible assumption) | (with_reducible refine Below.alloc ?_ ?_ _) | (with_reducible refine Below.drew ?_) | (with_reducible refine bdrewN ?_ _) | (with_reducible refine Below.setCell ?_ ?_ _) | go_size))) (hb1.mono (by go_size)); have hz_w2 := hb1.size; (repeat (first | rw [World.size_alloc] at hz_w2 | rw [World.size_setCell] at hz_w2 | rw [World.size_drew] at hz_w2 | rw [World.heap_drewN] at hz_w2)); obtain ⟨hd, hg⟩ := bcell hb1; clear hb1; have c00 : w2.cell? ⟨w.heap.size, 0, none⟩ = some (.int .i64 a) := (hd _ _ (by go_size)).trans (by first | exact c00 | (first | (go_simp; done) | (simp (maxDischargeDepth := 10) [go_sem, *]; done))); have c01 : w2.cell? ⟨w.heap.size, 1, none⟩ = some (.int .i64 b) := (hd _ _ (by go_size)).trans (by first | exact c01 | (first | (go_simp; done) | (simp (maxDischargeDepth := 10) [go_sem, *]; done))); have c10 : w2.cell? ⟨w.heap.size + 1, 0, none⟩ = some (.int .i64 0) := (hd _ _ (by go_size)).trans (by first | exact c10 | (first | (go_simp; done) | (simp (maxDischargeDepth := 10) [go_sem, *]; done))); have c11 : w2.cell? ⟨w.heap.size + 1, 1, none⟩ = some (.int .i64 0) := (hd _ _ (by go_size)).trans (by first | exact c11 | (first | (go_simp; done) | (simp (maxDischargeDepth := 10) [go_sem, *]; done))); have f10 : w2.frozen? ⟨w.heap.size + 1, 0, none⟩ = false := (hg _ _ (by go_size)).trans (by first | exact f10 | (first | (go_simp; done) | (simp (maxDischargeDepth := 10) [go_sem, *]; done))); have f11 : w2.frozen? ⟨w.heap.size + 1, 1, none⟩ = false := (hg _ _ (by go_size)).trans (by first | exact f11 | (first | (go_simp; done) | (simp (maxDischargeDepth := 10) [go_sem, *]; done))); clear hd hg
  go_wp2_with fail
  refine (P3.out _).mono ?_
  rintro e w3 ⟨rfl, hb1⟩; have hB_w3 : Below w.heap.size w w3 := Below.trans (by (repeat' (first | (with_reducible exact Below.refl _ _) | (with_reducible assumption) | (with_reducible refine Below.alloc ?_ ?_ _) | (with_reducible refine Below.drew ?_) | (with_reducible refine bdrewN ?_ _) | (with_reducible refine Below.setCell ?_ ?_ _) | go_size))) (hb1.mono (by go_size)); have hz_w3 := hb1.size; (repeat (first | rw [World.size_alloc] at hz_w3 | rw [World.size_setCell] at hz_w3 | rw [World.size_drew] at hz_w3 | rw [World.heap_drewN] at hz_w3)); obtain ⟨hd, hg⟩ := bcell hb1; clear hb1; have c00 : w3.cell? ⟨w.heap.size, 0, none⟩ = some (.int .i64 a) := (hd _ _ (by go_size)).trans (by first | exact c00 | (first | (go_simp; done) | (simp (maxDischargeDepth := 10) [go_sem, *]; done))); have c01 : w3.cell? ⟨w.heap.size, 1, none⟩ = some (.int .i64 b) := (hd _ _ (by go_size)).trans (by first | exact c01 | (first | (go_simp; done) | (simp (maxDischargeDepth := 10) [go_sem, *]; done))); have c10 : w3.cell? ⟨w.heap.size + 1, 0, none⟩ = some (.int .i64 0) := (hd _ _ (by go_size)).trans (by first | exact c10 | (first | (go_simp; done) | (simp (maxDischargeDepth := 10) [go_sem, *]; done))); have c11 : w3.cell? ⟨w.heap.size + 1, 1, none⟩ = some (.int .i64 0) := (hd _ _ (by go_size)).trans (by first | exact c11 | (first | (go_simp; done) | (simp (maxDischargeDepth := 10) [go_sem, *]; done))); have f10 : w3.frozen? ⟨w.heap.size + 1, 0, none⟩ = false := (hg _ _ (by go_size)).trans (by first | exact f10 | (first | (go_simp; done) | (simp (maxDischargeDepth := 10) [go_sem, *]; done))); have f11 : w3.frozen? ⟨w.heap.size + 1, 1, none⟩ = false := (hg _ _ (by go_size)).trans (by first | exact f11 | (first | (go_simp; done) | (simp (maxDischargeDepth := 10) [go_sem, *]; done))); clear hd hg
  go_wp2_with fail
  refine (P4.out _).mono ?_
  rintro e w4 ⟨rfl, hb1⟩; have hB_w4 : Below w.heap.size w w4 := Below.trans (by (repeat' (first | (with_reducible exact Below.refl _ _) | (with_reducible assumption) | (with_reducible refine Below.alloc ?_ ?_ _) | (with_reducible refine Below.drew ?_) | (with_reducible refine bdrewN ?_ _) | (with_reducible refine Below.setCell ?_ ?_ _) | go_size))) (hb1.mono (by go_size)); have hz_w4 := hb1.size; (repeat (first | rw [World.size_alloc] at hz_w4 | rw [World.size_setCell] at hz_w4 | rw [World.size_drew] at hz_w4 | rw [World.heap_drewN] at hz_w4)); obtain ⟨hd, hg⟩ := bcell hb1; clear hb1; have c00 : w4.cell? ⟨w.heap.size, 0, none⟩ = some (.int .i64 a) := (hd _ _ (by go_size)).trans (by first | exact c00 | (first | (go_simp; done) | (simp (maxDischargeDepth := 10) [go_sem, *]; done))); have c01 : w4.cell? ⟨w.heap.size, 1, none⟩ = some (.int .i64 b) := (hd _ _ (by go_size)).trans (by first | exact c01 | (first | (go_simp; done) | (simp (maxDischargeDepth := 10) [go_sem, *]; done))); have c10 : w4.cell? ⟨w.heap.size + 1, 0, none⟩ = some (.int .i64 0) := (hd _ _ (by go_size)).trans (by first | exact c10 | (first | (go_simp; done) | (simp (maxDischargeDepth := 10) [go_sem, *]; done))); have c11 : w4.cell? ⟨w.heap.size + 1, 1, none⟩ = some (.int .i64 0) := (hd _ _ (by go_size)).trans (by first | exact c11 | (first | (go_simp; done) | (simp (maxDischargeDepth := 10) [go_sem, *]; done))); have f10 : w4.frozen? ⟨w.heap.size + 1, 0, none⟩ = false := (hg _ _ (by go_size)).trans (by first | exact f10 | (first | (go_simp; done) | (simp (maxDischargeDepth := 10) [go_sem, *]; done))); have f11 : w4.frozen? ⟨w.heap.size + 1, 1, none⟩ = false := (hg _ _ (by go_size)).trans (by first | exact f11 | (first | (go_simp; done) | (simp (maxDischargeDepth := 10) [go_sem, *]; done))); clear hd hg
  clear P1 P2 P3 P4
  cases k1
  · have e := HM.out
    cases e
    go_wp2_with fail
    refine bodyPost_ret (by simp only [results, Try.results21]; go_simp; try rfl) rfl ?_
    exact ⟨rfl, by (repeat' (first | (with_reducible exact Below.refl _ _) | (with_reducible assumption) | (with_reducible refine Below.alloc ?_ ?_ _) | (with_reducible refine Below.drew ?_) | (with_reducible refine bdrewN ?_ _) | (with_reducible refine Below.setCell ?_ ?_ _) | go_size))⟩
  cases k2
  · have e := HM.out
    cases e
    go_wp2_with fail
    refine bodyPost_ret (by simp only [results, Try.results21]; go_simp; try rfl) rfl ?_
    exact ⟨rfl, by (repeat' (first | (with_reducible exact Below.refl _ _) | (with_reducible assumption) | (with_reducible refine Below.alloc ?_ ?_ _) | (with_reducible refine Below.drew ?_) | (with_reducible refine bdrewN ?_ _) | (with_reducible refine Below.setCell ?_ ?_ _) | go_size))⟩
  cases k3
  · have e := HM.out
    cases e
    go_wp2_with fail
    refine bodyPost_ret (by simp only [results, Try.results21]; go_simp; try rfl) rfl ?_
    exact ⟨rfl, by (repeat' (first | (with_reducible exact Below.refl _ _) | (with_reducible assumption) | (with_reducible refine Below.alloc ?_ ?_ _) | (with_reducible refine Below.drew ?_) | (with_reducible refine bdrewN ?_ _) | (with_reducible refine Below.setCell ?_ ?_ _) | go_size))⟩
  cases k4
  · have e := HM.out
    cases e
    go_wp2_with fail
    refine bodyPost_ret (by simp only [results, Try.results21]; go_simp; try rfl) rfl ?_
    exact ⟨rfl, by (repeat' (first | (with_reducible exact Below.refl _ _) | (with_reducible assumption) | (with_reducible refine Below.alloc ?_ ?_ _) | (with_reducible refine Below.drew ?_) | (with_reducible refine bdrewN ?_ _) | (with_reducible refine Below.setCell ?_ ?_ _) | go_size))⟩
  have HM : Hid (fitsS (min v1 v3) (max v2 v4) = (m0, m1, m2)) := Lib.hid HM.out
  have hs1 : w.heap.size < w4.heap.size := by omega
  have hs2 : w.heap.size + 1 < w4.heap.size := by omega
  go_wp2_with (first
    | (go_at_call 47; refine (ref_Least2 (x := v1) (y := v3) (by (first | (go_simp; done) | (simp (maxDischargeDepth := 10) [go_sem, *]; done))) (by (first | (go_simp; done) | (simp (maxDischargeDepth := 10) [go_sem, *]; done)))).mono ?_; rintro e w' ⟨rfl, rfl⟩)
    | (go_at_call 48; refine (ref_Greatest2 (x := v2) (y := v4) (by (first | (go_simp; done) | (simp (maxDischargeDepth := 10) [go_sem, *]; done))) (by (first | (go_simp; done) | (simp (maxDischargeDepth := 10) [go_sem, *]; done)))).mono ?_; rintro e w' ⟨rfl, rfl⟩))
  refine (ref_Fits _ _ _).mono ?_
  rw [HM.out]
  rintro e w5 ⟨rfl, hb1⟩; have hB_w5 : Below w.heap.size w w5 := Below.trans (by (repeat' (first | (with_reducible exact Below.refl _ _) | (with_reducible assumption) | (with_reducible refine Below.alloc ?_ ?_ _) | (with_reducible refine Below.drew ?_) | (with_reducible refine bdrewN ?_ _) | (with_reducible refine Below.setCell ?_ ?_ _) | go_size))) (hb1.mono (by go_size)); have hz_w5 := hb1.size; (repeat (first | rw [World.size_alloc] at hz_w5 | rw [World.size_setCell] at hz_w5 | rw [World.size_drew] at hz_w5 | rw [World.heap_drewN] at hz_w5)); obtain ⟨hd, hg⟩ := bcell hb1; clear hb1; have c00 : w5.cell? ⟨w.heap.size, 0, none⟩ = some (.int .i64 a) := (hd _ _ (by go_size)).trans (by first | exact c00 | (first | (go_simp; done) | (simp (maxDischargeDepth := 10) [go_sem, *]; done))); have c01 : w5.cell? ⟨w.heap.size, 1, none⟩ = some (.int .i64 b) := (hd _ _ (by go_size)).trans (by first | exact c01 | (first | (go_simp; done) | (simp (maxDischargeDepth := 10) [go_sem, *]; done))); have c10 : w5.cell? ⟨w.heap.size + 1, 0, none⟩ = some (.int .i64 0) := (hd _ _ (by go_size)).trans (by first | exact c10 | (first | (go_simp; done) | (simp (maxDischargeDepth := 10) [go_sem, *]; done))); have c11 : w5.cell? ⟨w.heap.size + 1, 1, none⟩ = some (.int .i64 0) := (hd _ _ (by go_size)).trans (by first | exact c11 | (first | (go_simp; done) | (simp (maxDischargeDepth := 10) [go_sem, *]; done))); have f10 : w5.frozen? ⟨w.heap.size + 1, 0, none⟩ = false := (hg _ _ (by go_size)).trans (by first | exact f10 | (first | (go_simp; done) | (simp (maxDischargeDepth := 10) [go_sem, *]; done))); have f11 : w5.frozen? ⟨w.heap.size + 1, 1, none⟩ = false := (hg _ _ (by go_size)).trans (by first | exact f11 | (first | (go_simp; done) | (simp (maxDischargeDepth := 10) [go_sem, *]; done))); clear hd hg
  go_wp2_with fail
  refine bodyPost_ret (by simp only [results, Try.results21]; go_simp; try rfl) rfl ?_
  exact ⟨rfl, by (repeat' (first | (with_reducible exact Below.refl _ _) | (with_reducible assumption) | (with_reducible refine Below.alloc ?_ ?_ _) | (with_reducible refine Below.drew ?_) | (with_reducible refine bdrewN ?_ _) | (with_reducible refine Below.setCell ?_ ?_ _) | go_size))⟩

set_option maxRecDepth 100000 in
set_option maxHeartbeats 4000000 in
theorem ref_OfV (a b unit m0 m1 m2 : Int) (HA : Hid (vfrac a b = true)) (HM : Hid (ofT a b unit = (m0, m1, m2))) (w : World) :
    Calls Try.prog 24 #[.agg #[.int .i64 a, .int .i64 b], .int .i64 unit] w fun e w' => e = .returned (.tuple #[.agg #[.int .i64 m0, .int .i64 m1], .int .i64 m2]) ∧ Below w.heap.size w w' := by
  have hm := HM.out
  unfold ofT at hm
  by_cases z : unit < 1 ∨ 1099511627776 < unit
  · rw [if_pos z] at hm
    cases hm
    rcases z with z | z
    all_goals
      go_enter Try.func24, Try.ntmps24
      go_wp2_with fail
      refine bodyPost_ret (by simp only [results, Try.results24]; go_simp; try rfl) rfl ?_
      exact ⟨rfl, by (repeat' (first | (with_reducible exact Below.refl _ _) | (with_reducible assumption) | (with_reducible refine Below.alloc ?_ ?_ _) | (with_reducible refine Below.drew ?_) | (with_reducible refine bdrewN ?_ _) | (with_reducible refine Below.setCell ?_ ?_ _) | go_size))⟩
  rw [if_neg z] at hm
  have z1 : 1 ≤ unit := by omega
  have z2 : unit ≤ 1099511627776 := by omega
  have PP : Hid (∀ (up : Bool) (w : World), Calls Try.prog 29 #[.int .i64 a, .int .i64 unit, .int .i64 b, .bool up] w fun e w' => e = .returned (.tuple #[.int .i64 (partS a unit b up).1, .bool (partS a unit b up).2]) ∧ Below w.heap.size w w') :=
    Lib.hid fun up w => by
      have h1 := vfrac_bounds HA.out
      exact ref_Part a unit b up (by omega) (by omega) (by omega) (by omega) (by omega) (by omega) (by omega) w
  clear z
  obtain ⟨v1, k1, E1⟩ : ∃ v k, partS a unit b false = (v, k) := ⟨_, _, rfl⟩
  obtain ⟨v2, k2, E2⟩ : ∃ v k, partS a unit b true = (v, k) := ⟨_, _, rfl⟩
  have P1 := Lib.hid fun w => PP.out false w
  have P2 := Lib.hid fun w => PP.out true w
  rw [E1] at P1 hm; rw [E2] at P2 hm
  have HM := Lib.hid hm
  clear E1 E2 hm PP
  go_enter Try.func24, Try.ntmps24
  go_wp2_with fail
  refine (P1.out _).mono ?_
  rintro e w1 ⟨rfl, hb1⟩; have hB_w1 : Below w.heap.size w w1 := Below.trans (by (repeat' (first | (with_reducible exact Below.refl _ _) | (with_reducible assumption) | (with_reducible refine Below.alloc ?_ ?_ _) | (with_reducible refine Below.drew ?_) | (with_reducible refine bdrewN ?_ _) | (with_reducible refine Below.setCell ?_ ?_ _) | go_size))) (hb1.mono (by go_size)); have hz_w1 := hb1.size; (try simp only [World.size_alloc] at hz_w1); obtain ⟨hd, hg⟩ := bcell hb1; clear hb1; have c00 : w1.cell? ⟨w.heap.size, 0, none⟩ = some (.int .i64 a) := (hd _ _ (by go_size)).trans (by (first | (go_simp; done) | (simp (maxDischargeDepth := 10) [go_sem, *]; done))); have c01 : w1.cell? ⟨w.heap.size, 1, none⟩ = some (.int .i64 b) := (hd _ _ (by go_size)).trans (by (first | (go_simp; done) | (simp (maxDischargeDepth := 10) [go_sem, *]; done))); have c10 : w1.cell? ⟨w.heap.size + 1, 0, none⟩ = some (.int .i64 0) := (hd _ _ (by go_size)).trans (by (first | (go_simp; done) | (simp (maxDischargeDepth := 10) [go_sem, *]; done))); have c11 : w1.cell? ⟨w.heap.size + 1, 1, none⟩ = some (.int .i64 0) := (hd _ _ (by go_size)).trans (by (first | (go_simp; done) | (simp (maxDischargeDepth := 10) [go_sem, *]; done))); have f10 : w1.frozen? ⟨w.heap.size + 1, 0, none⟩ = false := (hg _ _ (by go_size)).trans (by (first | (go_simp; done) | (simp (maxDischargeDepth := 10) [go_sem, *]; done))); have f11 : w1.frozen? ⟨w.heap.size + 1, 1, none⟩ = false := (hg _ _ (by go_size)).trans (by (first | (go_simp; done) | (simp (maxDischargeDepth := 10) [go_sem, *]; done))); clear hd hg
  go_wp2_with fail
  refine (P2.out _).mono ?_
  rintro e w2 ⟨rfl, hb1⟩; have hB_w2 : Below w.heap.size w w2 := Below.trans (by (repeat' (first | (with_reducible exact Below.refl _ _) | (with_reducible assumption) | (with_reducible refine Below.alloc ?_ ?_ _) | (with_reducible refine Below.drew ?_) | (with_reducible refine bdrewN ?_ _) | (with_reducible refine Below.setCell ?_ ?_ _) | go_size))) (hb1.mono (by go_size)); have hz_w2 := hb1.size; (repeat (first | rw [World.size_alloc] at hz_w2 | rw [World.size_setCell] at hz_w2 | rw [World.size_drew] at hz_w2 | rw [World.heap_drewN] at hz_w2)); obtain ⟨hd, hg⟩ := bcell hb1; clear hb1; have c00 : w2.cell? ⟨w.heap.size, 0, none⟩ = some (.int .i64 a) := (hd _ _ (by go_size)).trans (by first | exact c00 | (first | (go_simp; done) | (simp (maxDischargeDepth := 10) [go_sem, *]; done))); have c01 : w2.cell? ⟨w.heap.size, 1, none⟩ = some (.int .i64 b) := (hd _ _ (by go_size)).trans (by first | exact c01 | (first | (go_simp; done) | (simp (maxDischargeDepth := 10) [go_sem, *]; done))); have c10 : w2.cell? ⟨w.heap.size + 1, 0, none⟩ = some (.int .i64 0) := (hd _ _ (by go_size)).trans (by first | exact c10 | (first | (go_simp; done) | (simp (maxDischargeDepth := 10) [go_sem, *]; done))); have c11 : w2.cell? ⟨w.heap.size + 1, 1, none⟩ = some (.int .i64 0) := (hd _ _ (by go_size)).trans (by first | exact c11 | (first | (go_simp; done) | (simp (maxDischargeDepth := 10) [go_sem, *]; done))); have f10 : w2.frozen? ⟨w.heap.size + 1, 0, none⟩ = false := (hg _ _ (by go_size)).trans (by first | exact f10 | (first | (go_simp; done) | (simp (maxDischargeDepth := 10) [go_sem, *]; done))); have f11 : w2.frozen? ⟨w.heap.size + 1, 1, none⟩ = false := (hg _ _ (by go_size)).trans (by first | exact f11 | (first | (go_simp; done) | (simp (maxDischargeDepth := 10) [go_sem, *]; done))); clear hd hg
  clear P1 P2
  cases k1
  · have e := HM.out
    cases e
    go_wp2_with fail
    refine bodyPost_ret (by simp only [results, Try.results24]; go_simp; try rfl) rfl ?_
    exact ⟨rfl, by (repeat' (first | (with_reducible exact Below.refl _ _) | (with_reducible assumption) | (with_reducible refine Below.alloc ?_ ?_ _) | (with_reducible refine Below.drew ?_) | (with_reducible refine bdrewN ?_ _) | (with_reducible refine Below.setCell ?_ ?_ _) | go_size))⟩
  cases k2
  · have e := HM.out
    cases e
    go_wp2_with fail
    refine bodyPost_ret (by simp only [results, Try.results24]; go_simp; try rfl) rfl ?_
    exact ⟨rfl, by (repeat' (first | (with_reducible exact Below.refl _ _) | (with_reducible assumption) | (with_reducible refine Below.alloc ?_ ?_ _) | (with_reducible refine Below.drew ?_) | (with_reducible refine bdrewN ?_ _) | (with_reducible refine Below.setCell ?_ ?_ _) | go_size))⟩
  have e := HM.out
  cases e
  go_wp2_with fail
  refine bodyPost_ret (by simp only [results, Try.results24]; go_simp; try rfl) rfl ?_
  exact ⟨rfl, by (repeat' (first | (with_reducible exact Below.refl _ _) | (with_reducible assumption) | (with_reducible refine Below.alloc ?_ ?_ _) | (with_reducible refine Below.drew ?_) | (with_reducible refine bdrewN ?_ _) | (with_reducible refine Below.setCell ?_ ?_ _) | go_size))⟩

set_option maxHeartbeats 1000000 in
theorem ref_Sqrt (n : Int) (h0 : 0 ≤ n) (hn : n ≤ 1152921504606846976) (w : World) : Calls Try.prog 52 #[.int .i64 n] w fun e w' => e = .returned (.int .i64 (rt n)) ∧ w = w' := by
  obtain ⟨r, hr⟩ : ∃ r, rt n = r := ⟨_, rfl⟩
  have R : Hid (∀ l : Nat, l * l ≤ n.toNat → n.toNat < (l + 1) * (l + 1) → r = (l : Int)) := Lib.hid fun l h1 h2 => by
    have s := isqrt_spec n.toNat (by omega)
    rw [← hr]
    unfold rt
    rw [sq_unique _ _ _ s.1 s.2 h1 h2]
  rw [hr]
  clear hr
  go_enter Try.func52, Try.ntmps52
  go_wp2
  go_loop [3, 4] (fun p q => ∃ (l u : Nat), p = .int .i64 (l : Int) ∧ q = .int .i64 (u : Int) ∧ l ≤ u ∧ u ≤ 1073741824 ∧ Hid (l * l ≤ n.toNat) ∧ Hid (n.toNat < (u + 1) * (u + 1))) (fun p q => (intOf q - intOf p).toNat)
  case atStart => exact ⟨0, 1073741824, rfl, rfl, by omega, by omega, Lib.hid (by omega), Lib.hid (by omega)⟩
  case round =>
    obtain ⟨l, u, rfl, rfl, h1, h2, H1, H2⟩ := hrel
    by_cases hlt : l < u
    · have m1 : l < (l + u + 1) / 2 := by omega
      have m2 : (l + u + 1) / 2 ≤ u := by omega
      obtain ⟨m, hm⟩ : ∃ m, (l + u + 1) / 2 = m := ⟨_, rfl⟩
      have hm' : ((l : Int) + (u : Int) + 1) / 2 = (m : Int) := by omega
      rw [hm] at m1 m2
      have sq : (0 : Int) ≤ (m : Int) * (m : Int) ∧ (m : Int) * (m : Int) ≤ 1152921504606846976 := by
        have : m * m ≤ 1073741824 * 1073741824 := Nat.mul_le_mul (by omega) (by omega)
        rw [← Int.natCast_mul]
        omega
      clear hm
      by_cases t : (m : Int) * (m : Int) ≤ n
      · have T := Lib.hid t
        go_wp2
        go_round
        case rel => exact ⟨m, u, by rw [hm'], rfl, by omega, h2, Lib.hid (by have := T.out; rw [← Int.natCast_mul] at this; omega), H2⟩
        case measure => simp [intOf]; omega
      · have T := Lib.hid t
        go_wp2
        go_round
        case rel => exact ⟨l, m - 1, rfl, by go_num, by omega, by omega, H1, Lib.hid (by have := T.out; rw [← Int.natCast_mul] at this; rw [show m - 1 + 1 = m by omega]; omega)⟩
        case measure => simp [intOf]; omega
    · obtain rfl : l = u := by omega
      have E := Lib.hid (R.out l H1.out H2.out)
      go_wp2
      go_ret
      exact ⟨congrArg (fun t => Ending.returned (.int .i64 t)) E.out.symm, rfl⟩

def rootT (a b : Int) : T3 := if a < 0 then (0, 0, 2) else (rt a, (if rt b * rt b < b then rt b + 1 else rt b), 0)
theorem root_same {a b : Int} (h : vspan a b = true) : rootS a b = rootT a b := by unfold rootS rootT; rw [if_pos h]
set_option maxHeartbeats 1000000 in
theorem ref_RootV (a b m0 m1 m2 : Int) (HA : Hid (vspan a b = true)) (HM : Hid (rootT a b = (m0, m1, m2))) (w : World) :
    Calls Try.prog 22 #[.agg #[.int .i64 a, .int .i64 b]] w fun e w' => e = .returned (.tuple #[.agg #[.int .i64 m0, .int .i64 m1], .int .i64 m2]) ∧ Below w.heap.size w w' := by
  have hm := HM.out
  unfold rootT at hm
  by_cases z : a < 0
  · rw [if_pos z] at hm
    cases hm
    go_enter Try.func22, Try.ntmps22
    go_wp2_with fail
    refine bodyPost_ret (by simp only [results, Try.results22]; go_simp; try rfl) rfl ?_
    exact ⟨rfl, by (repeat' (first | (with_reducible exact Below.refl _ _) | (with_reducible assumption) | (with_reducible refine Below.alloc ?_ ?_ _) | (with_reducible refine Below.drew ?_) | (with_reducible refine bdrewN ?_ _) | (with_reducible refine Below.setCell ?_ ?_ _) | go_size))⟩
  rw [if_neg z] at hm
  have hb := vspan_bounds HA.out
  have S1 := Lib.hid fun w => ref_Sqrt a (by omega) (by omega) w
  have S2 := Lib.hid fun w => ref_Sqrt b (by omega) (by omega) w
  have r1 := rt_bounds a (by omega); have r2 := rt_bounds b (by omega)
  have r3 : 0 ≤ rt b * rt b ∧ rt b * rt b ≤ 1152921504606846976 := by
    have h := Int.mul_le_mul r2.2 r2.2 r2.1 (by omega)
    have h' := Int.mul_nonneg r2.1 r2.1
    omega
  generalize rt a = x at *
  generalize rt b = y at *
  by_cases t : y * y < b
  · rw [if_pos t] at hm
    cases hm
    go_enter Try.func22, Try.ntmps22
    go_wp2_with (go_at_call 52; first | (with_reducible refine (S1.out _).mono ?_; rintro e w' ⟨rfl, rfl⟩) | (with_reducible refine (S2.out _).mono ?_; rintro e w' ⟨rfl, rfl⟩))
    refine bodyPost_ret (by simp only [results, Try.results22]; go_simp; try rfl) rfl ?_
    exact ⟨rfl, by (repeat' (first | (with_reducible exact Below.refl _ _) | (with_reducible assumption) | (with_reducible refine Below.alloc ?_ ?_ _) | (with_reducible refine Below.drew ?_) | (with_reducible refine bdrewN ?_ _) | (with_reducible refine Below.setCell ?_ ?_ _) | go_size))⟩
  · rw [if_neg t] at hm
    cases hm
    go_enter Try.func22, Try.ntmps22
    go_wp2_with (go_at_call 52; first | (with_reducible refine (S1.out _).mono ?_; rintro e w' ⟨rfl, rfl⟩) | (with_reducible refine (S2.out _).mono ?_; rintro e w' ⟨rfl, rfl⟩))
    refine bodyPost_ret (by simp only [results, Try.results22]; go_simp; try rfl) rfl ?_
    exact ⟨rfl, by (repeat' (first | (with_reducible exact Below.refl _ _) | (with_reducible assumption) | (with_reducible refine Below.alloc ?_ ?_ _) | (with_reducible refine Below.drew ?_) | (with_reducible refine bdrewN ?_ _) | (with_reducible refine Below.setCell ?_ ?_ _) | go_size))⟩
end Go.Proofs.Ytnknlgbihibmiaa
