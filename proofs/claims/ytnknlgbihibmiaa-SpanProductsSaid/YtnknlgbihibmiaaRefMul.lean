/- The reference's Mul of spans over this seat's program. -/
import Derived.Test.YtnknlgbihibmiaaRefMD
import Derived.Test.YtnknlgbihibmiaaOwn
import Derived.Deep.QuietTactic
import Derived.BigQuiet
namespace Go.Proofs.Ytnknlgbihibmiaa
open Go.RowKit

def mulOk (a b c d : Int) (k : Int) : Prop := (1 ≤ k → pok a c = true) ∧ (2 ≤ k → pok b c = true) ∧ (3 ≤ k → pok a d = true) ∧ (4 ≤ k → pok b d = true)
def mulL (a b c d : Int) (k : Int) : List Int := [pv a c, pv b c, pv a d, pv b d].take k.toNat
theorem mulL_len (a b c d k : Int) : (mulL a b c d k).length ≤ 4 := by unfold mulL; rw [List.length_take]; simp; omega
theorem mulT_no {a b c d : Int} (h : pok a c = false ∨ pok b c = false ∨ pok a d = false ∨ pok b d = false) : mulT a b c d = (0, 0, 5) := by
  unfold mulT
  rcases h with h | h | h | h <;> simp [h]
theorem mulT_yes {a b c d : Int} (h : mulOk a b c d 4) : mulT a b c d = fitsS (min (min (min (pv a c) (pv b c)) (pv a d)) (pv b d)) (max (max (max (pv a c) (pv b c)) (pv a d)) (pv b d)) := by
  unfold mulT
  rw [h.1 (by decide), h.2.1 (by decide), h.2.2.1 (by decide), h.2.2.2 (by decide)]; rfl

set_option maxRecDepth 100000 in
set_option maxHeartbeats 8000000 in
theorem ref_MulV (a b c d m0 m1 m2 : Int) (HA : Hid (-1152921504606846976 ≤ a ∧ a ≤ b ∧ b ≤ 1152921504606846976)) (HC : Hid (-1152921504606846976 ≤ c ∧ c ≤ d ∧ d ≤ 1152921504606846976)) (HM : Hid (mulT a b c d = (m0, m1, m2))) (w : World) :
    Calls Try.prog 16 #[.agg #[.int .i64 a, .int .i64 b], .agg #[.int .i64 c, .int .i64 d]] w fun e w' =>
    e = .returned (.tuple #[.agg #[.int .i64 m0, .int .i64 m1], .int .i64 m2]) ∧ Below w.heap.size w w' := by
  have PP : Hid (∀ (x y : Int) (w : World), (x = a ∨ x = b) → (y = c ∨ y = d) → Calls Try.prog 29 #[.int .i64 x, .int .i64 y, .int .i64 1, .bool false] w fun e w' => e = .returned (.tuple #[.int .i64 (pv x y), .bool (pok x y)]) ∧ Below w.heap.size w w') :=
    Lib.hid fun x y w hx hy => by
      have h1 := HA.out; have h2 := HC.out
      exact ref_Part x y 1 false (by omega) (by omega) (by omega) (by omega) (by omega) (by omega) (by omega) w
  go_enter Try.func16, Try.ntmps16
  go_wp2_with fail
  go_loopw [6, 7] (fun l i wr => ∃ (k : Int), 0 ≤ k ∧ k ≤ 4 ∧ i = .int .i64 k ∧ Hid (mulOk a b c d k) ∧ OwnI wr (w.heap.size + 3) l (mulL a b c d k) ∧ Below w.heap.size w wr ∧ w.heap.size + 3 ≤ wr.heap.size ∧ wr.cell? ⟨w.heap.size, 0, none⟩ = some (.int .i64 a) ∧ wr.cell? ⟨w.heap.size, 1, none⟩ = some (.int .i64 b) ∧ wr.cell? ⟨w.heap.size + 1, 0, none⟩ = some (.int .i64 c) ∧ wr.cell? ⟨w.heap.size + 1, 1, none⟩ = some (.int .i64 d) ∧ wr.cell? ⟨w.heap.size + 1 + 1, 0, none⟩ = some (.int .i64 0) ∧ wr.cell? ⟨w.heap.size + 1 + 1, 1, none⟩ = some (.int .i64 0) ∧ wr.frozen? ⟨w.heap.size + 1 + 1, 0, none⟩ = false ∧ wr.frozen? ⟨w.heap.size + 1 + 1, 1, none⟩ = false)
    (fun _ i _ => (4 - intOf i).toNat)
  case atStart =>
    refine ⟨0, by omega, by omega, rfl, Lib.hid ⟨by omega, by omega, by omega, by omega⟩, OwnI.nil _ _, by (repeat' (first | (with_reducible exact Below.refl _ _) | (with_reducible assumption) | (with_reducible refine Below.alloc ?_ ?_ _) | (with_reducible refine Below.drew ?_) | (with_reducible refine bdrewN ?_ _) | (with_reducible refine Below.setCell ?_ ?_ _) | go_size)), by go_size, ?_, ?_, ?_, ?_, ?_, ?_, ?_, ?_⟩
    all_goals (first | (go_simp; done) | (simp (maxDischargeDepth := 10) [go_sem, *]; done))
  case round =>
    obtain ⟨k, hk0, hk4, rfl, HO, hown, hB, hz, c0, c1, c2, c3, c4, c5, f0, f1⟩ := hrel
    obtain ⟨hs1, hs2, hs3⟩ := kf3 hz
    rcases (by omega : k = 0 ∨ k = 1 ∨ k = 2 ∨ k = 3 ∨ k = 4) with rfl | rfl | rfl | rfl | rfl
    · cases hp : pok a c
      · go_wp2_with fail
        go_quiet (fail)
        go_wp2_with fail
        refine (PP.out a c _ (by omega) (by omega)).mono ?_
        rw [hp]
        rintro e w1 ⟨rfl, hb1⟩
        have hB1 : Below w.heap.size w w1 := Below.trans (by (repeat' (first | (with_reducible exact Below.refl _ _) | (with_reducible assumption) | (with_reducible refine Below.alloc ?_ ?_ _) | (with_reducible refine Below.drew ?_) | (with_reducible refine bdrewN ?_ _) | (with_reducible refine Below.setCell ?_ ?_ _) | go_size))) (hb1.mono (by go_size))
        have hz1 := hb1.size
        (try simp only [World.heap_drewN] at hz1)
        obtain ⟨hd, hg⟩ := bcell hb1
        clear hb1
        have c0 : w1.cell? ⟨w.heap.size, 0, none⟩ = some (.int .i64 a) := (hd _ _ (by go_size)).trans c0; have c1 : w1.cell? ⟨w.heap.size, 1, none⟩ = some (.int .i64 b) := (hd _ _ (by go_size)).trans c1; have c2 : w1.cell? ⟨w.heap.size + 1, 0, none⟩ = some (.int .i64 c) := (hd _ _ (by go_size)).trans c2; have c3 : w1.cell? ⟨w.heap.size + 1, 1, none⟩ = some (.int .i64 d) := (hd _ _ (by go_size)).trans c3; have c4 : w1.cell? ⟨w.heap.size + 1 + 1, 0, none⟩ = some (.int .i64 0) := (hd _ _ (by go_size)).trans c4; have c5 : w1.cell? ⟨w.heap.size + 1 + 1, 1, none⟩ = some (.int .i64 0) := (hd _ _ (by go_size)).trans c5; have f0 : w1.frozen? ⟨w.heap.size + 1 + 1, 0, none⟩ = false := (hg _ _ (by go_size)).trans f0; have f1 : w1.frozen? ⟨w.heap.size + 1 + 1, 1, none⟩ = false := (hg _ _ (by go_size)).trans f1
        clear hd hg
        have e := HM.out
        rw [mulT_no (by simp [hp])] at e
        cases e
        go_wp2_with fail
        refine bodyPost_ret (by simp only [results, Try.results16]; go_simp; try rfl) rfl ?_
        exact ⟨rfl, by (repeat' (first | (with_reducible exact Below.refl _ _) | (with_reducible assumption) | (with_reducible refine Below.alloc ?_ ?_ _) | (with_reducible refine Below.drew ?_) | (with_reducible refine bdrewN ?_ _) | (with_reducible refine Below.setCell ?_ ?_ _) | go_size))⟩
      · go_wp2_with fail
        go_quiet (fail)
        go_wp2_with fail
        refine (PP.out a c _ (by omega) (by omega)).mono ?_
        rw [hp]
        have HP := Lib.hid hp
        clear hp
        rintro e w1 ⟨rfl, hb1⟩
        have hB1 : Below w.heap.size w w1 := Below.trans (by (repeat' (first | (with_reducible exact Below.refl _ _) | (with_reducible assumption) | (with_reducible refine Below.alloc ?_ ?_ _) | (with_reducible refine Below.drew ?_) | (with_reducible refine bdrewN ?_ _) | (with_reducible refine Below.setCell ?_ ?_ _) | go_size))) (hb1.mono (by go_size))
        have hz1 := hb1.size
        (try simp only [World.heap_drewN] at hz1)
        have hown1 : OwnI w1 (w.heap.size + 3) _ (mulL a b c d 0) := OwnI.below (OwnI.drewN hown _) hb1
        obtain ⟨hd, hg⟩ := bcell hb1
        clear hb1
        have c0 : w1.cell? ⟨w.heap.size, 0, none⟩ = some (.int .i64 a) := (hd _ _ (by go_size)).trans c0; have c1 : w1.cell? ⟨w.heap.size, 1, none⟩ = some (.int .i64 b) := (hd _ _ (by go_size)).trans c1; have c2 : w1.cell? ⟨w.heap.size + 1, 0, none⟩ = some (.int .i64 c) := (hd _ _ (by go_size)).trans c2; have c3 : w1.cell? ⟨w.heap.size + 1, 1, none⟩ = some (.int .i64 d) := (hd _ _ (by go_size)).trans c3; have c4 : w1.cell? ⟨w.heap.size + 1 + 1, 0, none⟩ = some (.int .i64 0) := (hd _ _ (by go_size)).trans c4; have c5 : w1.cell? ⟨w.heap.size + 1 + 1, 1, none⟩ = some (.int .i64 0) := (hd _ _ (by go_size)).trans c5; have f0 : w1.frozen? ⟨w.heap.size + 1 + 1, 0, none⟩ = false := (hg _ _ (by go_size)).trans f0; have f1 : w1.frozen? ⟨w.heap.size + 1 + 1, 1, none⟩ = false := (hg _ _ (by go_size)).trans f1
        clear hd hg
        go_wp2_with (at_builtin; refine wpList_pushI _ rfl _ _ rfl (w.heap.size + 3) _ _ rfl (OwnI.alloc hown1 _) _ _ (pv a c) rfl ?h1 ?h2 ?h3 ?_)
        case h1 => (first | (go_simp; done) | (simp (maxDischargeDepth := 10) [go_sem, *]; done))
        case h2 => have := mulL_len a b c d 0; omega
        case h3 => go_size
        intro v2 w2 hown2 hb2
        have hB2 : Below w.heap.size w w2 := Below.trans (by (repeat' (first | (with_reducible exact Below.refl _ _) | (with_reducible assumption) | (with_reducible refine Below.alloc ?_ ?_ _) | (with_reducible refine Below.drew ?_) | (with_reducible refine bdrewN ?_ _) | (with_reducible refine Below.setCell ?_ ?_ _) | go_size))) (hb2.mono (by omega))
        have hz2 := hb2.size
        (try simp only [World.size_alloc] at hz2)
        have hd : ∀ b o, b < w.heap.size + 3 → w2.cell? ⟨b, o, none⟩ = w1.cell? ⟨b, o, none⟩ := fun b o h => (hb2.cell (p := ⟨b, o, none⟩) h).trans (World.cell?_alloc_lt _ _ _ (by show b < _; omega))
        have hg : ∀ b o, b < w.heap.size + 3 → w2.frozen? ⟨b, o, none⟩ = w1.frozen? ⟨b, o, none⟩ := fun b o h => (hb2.frozen (p := ⟨b, o, none⟩) h).trans (World.frozen?_alloc_past _ _ _ (by show b < _; omega))
        clear hb2
        have c0 : w2.cell? ⟨w.heap.size, 0, none⟩ = some (.int .i64 a) := (hd _ _ (by omega)).trans c0; have c1 : w2.cell? ⟨w.heap.size, 1, none⟩ = some (.int .i64 b) := (hd _ _ (by omega)).trans c1; have c2 : w2.cell? ⟨w.heap.size + 1, 0, none⟩ = some (.int .i64 c) := (hd _ _ (by omega)).trans c2; have c3 : w2.cell? ⟨w.heap.size + 1, 1, none⟩ = some (.int .i64 d) := (hd _ _ (by omega)).trans c3; have c4 : w2.cell? ⟨w.heap.size + 1 + 1, 0, none⟩ = some (.int .i64 0) := (hd _ _ (by omega)).trans c4; have c5 : w2.cell? ⟨w.heap.size + 1 + 1, 1, none⟩ = some (.int .i64 0) := (hd _ _ (by omega)).trans c5; have f0 : w2.frozen? ⟨w.heap.size + 1 + 1, 0, none⟩ = false := (hg _ _ (by omega)).trans f0; have f1 : w2.frozen? ⟨w.heap.size + 1 + 1, 1, none⟩ = false := (hg _ _ (by omega)).trans f1
        clear hd hg
        go_wp2_with fail
        go_roundw
        case rel =>
          have hO := HO.out
          exact ⟨1, by omega, by omega, rfl, Lib.hid ⟨fun _ => HP.out, fun h => by omega, fun h => by omega, fun h => by omega⟩, hown2, hB2, by omega, c0, c1, c2, c3, c4, c5, f0, f1⟩
        case measure => simp [intOf]
    · cases hp : pok b c
      · go_wp2_with fail
        go_quiet (fail)
        go_wp2_with fail
        refine (PP.out b c _ (by omega) (by omega)).mono ?_
        rw [hp]
        rintro e w1 ⟨rfl, hb1⟩
        have hB1 : Below w.heap.size w w1 := Below.trans (by (repeat' (first | (with_reducible exact Below.refl _ _) | (with_reducible assumption) | (with_reducible refine Below.alloc ?_ ?_ _) | (with_reducible refine Below.drew ?_) | (with_reducible refine bdrewN ?_ _) | (with_reducible refine Below.setCell ?_ ?_ _) | go_size))) (hb1.mono (by go_size))
        have hz1 := hb1.size
        (try simp only [World.heap_drewN] at hz1)
        obtain ⟨hd, hg⟩ := bcell hb1
        clear hb1
        have c0 : w1.cell? ⟨w.heap.size, 0, none⟩ = some (.int .i64 a) := (hd _ _ (by go_size)).trans c0; have c1 : w1.cell? ⟨w.heap.size, 1, none⟩ = some (.int .i64 b) := (hd _ _ (by go_size)).trans c1; have c2 : w1.cell? ⟨w.heap.size + 1, 0, none⟩ = some (.int .i64 c) := (hd _ _ (by go_size)).trans c2; have c3 : w1.cell? ⟨w.heap.size + 1, 1, none⟩ = some (.int .i64 d) := (hd _ _ (by go_size)).trans c3; have c4 : w1.cell? ⟨w.heap.size + 1 + 1, 0, none⟩ = some (.int .i64 0) := (hd _ _ (by go_size)).trans c4; have c5 : w1.cell? ⟨w.heap.size + 1 + 1, 1, none⟩ = some (.int .i64 0) := (hd _ _ (by go_size)).trans c5; have f0 : w1.frozen? ⟨w.heap.size + 1 + 1, 0, none⟩ = false := (hg _ _ (by go_size)).trans f0; have f1 : w1.frozen? ⟨w.heap.size + 1 + 1, 1, none⟩ = false := (hg _ _ (by go_size)).trans f1
        clear hd hg
        have e := HM.out
        rw [mulT_no (by simp [hp])] at e
        cases e
        go_wp2_with fail
        refine bodyPost_ret (by simp only [results, Try.results16]; go_simp; try rfl) rfl ?_
        exact ⟨rfl, by (repeat' (first | (with_reducible exact Below.refl _ _) | (with_reducible assumption) | (with_reducible refine Below.alloc ?_ ?_ _) | (with_reducible refine Below.drew ?_) | (with_reducible refine bdrewN ?_ _) | (with_reducible refine Below.setCell ?_ ?_ _) | go_size))⟩
      · go_wp2_with fail
        go_quiet (fail)
        go_wp2_with fail
        refine (PP.out b c _ (by omega) (by omega)).mono ?_
        rw [hp]
        have HP := Lib.hid hp
        clear hp
        rintro e w1 ⟨rfl, hb1⟩
        have hB1 : Below w.heap.size w w1 := Below.trans (by (repeat' (first | (with_reducible exact Below.refl _ _) | (with_reducible assumption) | (with_reducible refine Below.alloc ?_ ?_ _) | (with_reducible refine Below.drew ?_) | (with_reducible refine bdrewN ?_ _) | (with_reducible refine Below.setCell ?_ ?_ _) | go_size))) (hb1.mono (by go_size))
        have hz1 := hb1.size
        (try simp only [World.heap_drewN] at hz1)
        have hown1 : OwnI w1 (w.heap.size + 3) _ (mulL a b c d 1) := OwnI.below (OwnI.drewN hown _) hb1
        obtain ⟨hd, hg⟩ := bcell hb1
        clear hb1
        have c0 : w1.cell? ⟨w.heap.size, 0, none⟩ = some (.int .i64 a) := (hd _ _ (by go_size)).trans c0; have c1 : w1.cell? ⟨w.heap.size, 1, none⟩ = some (.int .i64 b) := (hd _ _ (by go_size)).trans c1; have c2 : w1.cell? ⟨w.heap.size + 1, 0, none⟩ = some (.int .i64 c) := (hd _ _ (by go_size)).trans c2; have c3 : w1.cell? ⟨w.heap.size + 1, 1, none⟩ = some (.int .i64 d) := (hd _ _ (by go_size)).trans c3; have c4 : w1.cell? ⟨w.heap.size + 1 + 1, 0, none⟩ = some (.int .i64 0) := (hd _ _ (by go_size)).trans c4; have c5 : w1.cell? ⟨w.heap.size + 1 + 1, 1, none⟩ = some (.int .i64 0) := (hd _ _ (by go_size)).trans c5; have f0 : w1.frozen? ⟨w.heap.size + 1 + 1, 0, none⟩ = false := (hg _ _ (by go_size)).trans f0; have f1 : w1.frozen? ⟨w.heap.size + 1 + 1, 1, none⟩ = false := (hg _ _ (by go_size)).trans f1
        clear hd hg
        go_wp2_with (at_builtin; refine wpList_pushI _ rfl _ _ rfl (w.heap.size + 3) _ _ rfl (OwnI.alloc hown1 _) _ _ (pv b c) rfl ?h1 ?h2 ?h3 ?_)
        case h1 => (first | (go_simp; done) | (simp (maxDischargeDepth := 10) [go_sem, *]; done))
        case h2 => have := mulL_len a b c d 1; omega
        case h3 => go_size
        intro v2 w2 hown2 hb2
        have hB2 : Below w.heap.size w w2 := Below.trans (by (repeat' (first | (with_reducible exact Below.refl _ _) | (with_reducible assumption) | (with_reducible refine Below.alloc ?_ ?_ _) | (with_reducible refine Below.drew ?_) | (with_reducible refine bdrewN ?_ _) | (with_reducible refine Below.setCell ?_ ?_ _) | go_size))) (hb2.mono (by omega))
        have hz2 := hb2.size
        (try simp only [World.size_alloc] at hz2)
        have hd : ∀ b o, b < w.heap.size + 3 → w2.cell? ⟨b, o, none⟩ = w1.cell? ⟨b, o, none⟩ := fun b o h => (hb2.cell (p := ⟨b, o, none⟩) h).trans (World.cell?_alloc_lt _ _ _ (by show b < _; omega))
        have hg : ∀ b o, b < w.heap.size + 3 → w2.frozen? ⟨b, o, none⟩ = w1.frozen? ⟨b, o, none⟩ := fun b o h => (hb2.frozen (p := ⟨b, o, none⟩) h).trans (World.frozen?_alloc_past _ _ _ (by show b < _; omega))
        clear hb2
        have c0 : w2.cell? ⟨w.heap.size, 0, none⟩ = some (.int .i64 a) := (hd _ _ (by omega)).trans c0; have c1 : w2.cell? ⟨w.heap.size, 1, none⟩ = some (.int .i64 b) := (hd _ _ (by omega)).trans c1; have c2 : w2.cell? ⟨w.heap.size + 1, 0, none⟩ = some (.int .i64 c) := (hd _ _ (by omega)).trans c2; have c3 : w2.cell? ⟨w.heap.size + 1, 1, none⟩ = some (.int .i64 d) := (hd _ _ (by omega)).trans c3; have c4 : w2.cell? ⟨w.heap.size + 1 + 1, 0, none⟩ = some (.int .i64 0) := (hd _ _ (by omega)).trans c4; have c5 : w2.cell? ⟨w.heap.size + 1 + 1, 1, none⟩ = some (.int .i64 0) := (hd _ _ (by omega)).trans c5; have f0 : w2.frozen? ⟨w.heap.size + 1 + 1, 0, none⟩ = false := (hg _ _ (by omega)).trans f0; have f1 : w2.frozen? ⟨w.heap.size + 1 + 1, 1, none⟩ = false := (hg _ _ (by omega)).trans f1
        clear hd hg
        go_wp2_with fail
        go_roundw
        case rel =>
          have hO := HO.out
          exact ⟨2, by omega, by omega, rfl, Lib.hid ⟨fun h => hO.1 (by omega), fun _ => HP.out, fun h => by omega, fun h => by omega⟩, hown2, hB2, by omega, c0, c1, c2, c3, c4, c5, f0, f1⟩
        case measure => simp [intOf]
    · cases hp : pok a d
      · go_wp2_with fail
        go_quiet (fail)
        go_wp2_with fail
        refine (PP.out a d _ (by omega) (by omega)).mono ?_
        rw [hp]
        rintro e w1 ⟨rfl, hb1⟩
        have hB1 : Below w.heap.size w w1 := Below.trans (by (repeat' (first | (with_reducible exact Below.refl _ _) | (with_reducible assumption) | (with_reducible refine Below.alloc ?_ ?_ _) | (with_reducible refine Below.drew ?_) | (with_reducible refine bdrewN ?_ _) | (with_reducible refine Below.setCell ?_ ?_ _) | go_size))) (hb1.mono (by go_size))
        have hz1 := hb1.size
        (try simp only [World.heap_drewN] at hz1)
        obtain ⟨hd, hg⟩ := bcell hb1
        clear hb1
        have c0 : w1.cell? ⟨w.heap.size, 0, none⟩ = some (.int .i64 a) := (hd _ _ (by go_size)).trans c0; have c1 : w1.cell? ⟨w.heap.size, 1, none⟩ = some (.int .i64 b) := (hd _ _ (by go_size)).trans c1; have c2 : w1.cell? ⟨w.heap.size + 1, 0, none⟩ = some (.int .i64 c) := (hd _ _ (by go_size)).trans c2; have c3 : w1.cell? ⟨w.heap.size + 1, 1, none⟩ = some (.int .i64 d) := (hd _ _ (by go_size)).trans c3; have c4 : w1.cell? ⟨w.heap.size + 1 + 1, 0, none⟩ = some (.int .i64 0) := (hd _ _ (by go_size)).trans c4; have c5 : w1.cell? ⟨w.heap.size + 1 + 1, 1, none⟩ = some (.int .i64 0) := (hd _ _ (by go_size)).trans c5; have f0 : w1.frozen? ⟨w.heap.size + 1 + 1, 0, none⟩ = false := (hg _ _ (by go_size)).trans f0; have f1 : w1.frozen? ⟨w.heap.size + 1 + 1, 1, none⟩ = false := (hg _ _ (by go_size)).trans f1
        clear hd hg
        have e := HM.out
        rw [mulT_no (by simp [hp])] at e
        cases e
        go_wp2_with fail
        refine bodyPost_ret (by simp only [results, Try.results16]; go_simp; try rfl) rfl ?_
        exact ⟨rfl, by (repeat' (first | (with_reducible exact Below.refl _ _) | (with_reducible assumption) | (with_reducible refine Below.alloc ?_ ?_ _) | (with_reducible refine Below.drew ?_) | (with_reducible refine bdrewN ?_ _) | (with_reducible refine Below.setCell ?_ ?_ _) | go_size))⟩
      · go_wp2_with fail
        go_quiet (fail)
        go_wp2_with fail
        refine (PP.out a d _ (by omega) (by omega)).mono ?_
        rw [hp]
        have HP := Lib.hid hp
        clear hp
        rintro e w1 ⟨rfl, hb1⟩
        have hB1 : Below w.heap.size w w1 := Below.trans (by (repeat' (first | (with_reducible exact Below.refl _ _) | (with_reducible assumption) | (with_reducible refine Below.alloc ?_ ?_ _) | (with_reducible refine Below.drew ?_) | (with_reducible refine bdrewN ?_ _) | (with_reducible refine Below.setCell ?_ ?_ _) | go_size))) (hb1.mono (by go_size))
        have hz1 := hb1.size
        (try simp only [World.heap_drewN] at hz1)
        have hown1 : OwnI w1 (w.heap.size + 3) _ (mulL a b c d 2) := OwnI.below (OwnI.drewN hown _) hb1
        obtain ⟨hd, hg⟩ := bcell hb1
        clear hb1
        have c0 : w1.cell? ⟨w.heap.size, 0, none⟩ = some (.int .i64 a) := (hd _ _ (by go_size)).trans c0; have c1 : w1.cell? ⟨w.heap.size, 1, none⟩ = some (.int .i64 b) := (hd _ _ (by go_size)).trans c1; have c2 : w1.cell? ⟨w.heap.size + 1, 0, none⟩ = some (.int .i64 c) := (hd _ _ (by go_size)).trans c2; have c3 : w1.cell? ⟨w.heap.size + 1, 1, none⟩ = some (.int .i64 d) := (hd _ _ (by go_size)).trans c3; have c4 : w1.cell? ⟨w.heap.size + 1 + 1, 0, none⟩ = some (.int .i64 0) := (hd _ _ (by go_size)).trans c4; have c5 : w1.cell? ⟨w.heap.size + 1 + 1, 1, none⟩ = some (.int .i64 0) := (hd _ _ (by go_size)).trans c5; have f0 : w1.frozen? ⟨w.heap.size + 1 + 1, 0, none⟩ = false := (hg _ _ (by go_size)).trans f0; have f1 : w1.frozen? ⟨w.heap.size + 1 + 1, 1, none⟩ = false := (hg _ _ (by go_size)).trans f1
        clear hd hg
        go_wp2_with (at_builtin; refine wpList_pushI _ rfl _ _ rfl (w.heap.size + 3) _ _ rfl (OwnI.alloc hown1 _) _ _ (pv a d) rfl ?h1 ?h2 ?h3 ?_)
        case h1 => (first | (go_simp; done) | (simp (maxDischargeDepth := 10) [go_sem, *]; done))
        case h2 => have := mulL_len a b c d 2; omega
        case h3 => go_size
        intro v2 w2 hown2 hb2
        have hB2 : Below w.heap.size w w2 := Below.trans (by (repeat' (first | (with_reducible exact Below.refl _ _) | (with_reducible assumption) | (with_reducible refine Below.alloc ?_ ?_ _) | (with_reducible refine Below.drew ?_) | (with_reducible refine bdrewN ?_ _) | (with_reducible refine Below.setCell ?_ ?_ _) | go_size))) (hb2.mono (by omega))
        have hz2 := hb2.size
        (try simp only [World.size_alloc] at hz2)
        have hd : ∀ b o, b < w.heap.size + 3 → w2.cell? ⟨b, o, none⟩ = w1.cell? ⟨b, o, none⟩ := fun b o h => (hb2.cell (p := ⟨b, o, none⟩) h).trans (World.cell?_alloc_lt _ _ _ (by show b < _; omega))
        have hg : ∀ b o, b < w.heap.size + 3 → w2.frozen? ⟨b, o, none⟩ = w1.frozen? ⟨b, o, none⟩ := fun b o h => (hb2.frozen (p := ⟨b, o, none⟩) h).trans (World.frozen?_alloc_past _ _ _ (by show b < _; omega))
        clear hb2
        have c0 : w2.cell? ⟨w.heap.size, 0, none⟩ = some (.int .i64 a) := (hd _ _ (by omega)).trans c0; have c1 : w2.cell? ⟨w.heap.size, 1, none⟩ = some (.int .i64 b) := (hd _ _ (by omega)).trans c1; have c2 : w2.cell? ⟨w.heap.size + 1, 0, none⟩ = some (.int .i64 c) := (hd _ _ (by omega)).trans c2; have c3 : w2.cell? ⟨w.heap.size + 1, 1, none⟩ = some (.int .i64 d) := (hd _ _ (by omega)).trans c3; have c4 : w2.cell? ⟨w.heap.size + 1 + 1, 0, none⟩ = some (.int .i64 0) := (hd _ _ (by omega)).trans c4; have c5 : w2.cell? ⟨w.heap.size + 1 + 1, 1, none⟩ = some (.int .i64 0) := (hd _ _ (by omega)).trans c5; have f0 : w2.frozen? ⟨w.heap.size + 1 + 1, 0, none⟩ = false := (hg _ _ (by omega)).trans f0; have f1 : w2.frozen? ⟨w.heap.size + 1 + 1, 1, none⟩ = false := (hg _ _ (by omega)).trans f1
        clear hd hg
        go_wp2_with fail
        go_roundw
        case rel =>
          have hO := HO.out
          exact ⟨3, by omega, by omega, rfl, Lib.hid ⟨fun h => hO.1 (by omega), fun h => hO.2.1 (by omega), fun _ => HP.out, fun h => by omega⟩, hown2, hB2, by omega, c0, c1, c2, c3, c4, c5, f0, f1⟩
        case measure => simp [intOf]
    · cases hp : pok b d
      · go_wp2_with fail
        go_quiet (fail)
        go_wp2_with fail
        refine (PP.out b d _ (by omega) (by omega)).mono ?_
        rw [hp]
        rintro e w1 ⟨rfl, hb1⟩
        have hB1 : Below w.heap.size w w1 := Below.trans (by (repeat' (first | (with_reducible exact Below.refl _ _) | (with_reducible assumption) | (with_reducible refine Below.alloc ?_ ?_ _) | (with_reducible refine Below.drew ?_) | (with_reducible refine bdrewN ?_ _) | (with_reducible refine Below.setCell ?_ ?_ _) | go_size))) (hb1.mono (by go_size))
        have hz1 := hb1.size
        (try simp only [World.heap_drewN] at hz1)
        obtain ⟨hd, hg⟩ := bcell hb1
        clear hb1
        have c0 : w1.cell? ⟨w.heap.size, 0, none⟩ = some (.int .i64 a) := (hd _ _ (by go_size)).trans c0; have c1 : w1.cell? ⟨w.heap.size, 1, none⟩ = some (.int .i64 b) := (hd _ _ (by go_size)).trans c1; have c2 : w1.cell? ⟨w.heap.size + 1, 0, none⟩ = some (.int .i64 c) := (hd _ _ (by go_size)).trans c2; have c3 : w1.cell? ⟨w.heap.size + 1, 1, none⟩ = some (.int .i64 d) := (hd _ _ (by go_size)).trans c3; have c4 : w1.cell? ⟨w.heap.size + 1 + 1, 0, none⟩ = some (.int .i64 0) := (hd _ _ (by go_size)).trans c4; have c5 : w1.cell? ⟨w.heap.size + 1 + 1, 1, none⟩ = some (.int .i64 0) := (hd _ _ (by go_size)).trans c5; have f0 : w1.frozen? ⟨w.heap.size + 1 + 1, 0, none⟩ = false := (hg _ _ (by go_size)).trans f0; have f1 : w1.frozen? ⟨w.heap.size + 1 + 1, 1, none⟩ = false := (hg _ _ (by go_size)).trans f1
        clear hd hg
        have e := HM.out
        rw [mulT_no (by simp [hp])] at e
        cases e
        go_wp2_with fail
        refine bodyPost_ret (by simp only [results, Try.results16]; go_simp; try rfl) rfl ?_
        exact ⟨rfl, by (repeat' (first | (with_reducible exact Below.refl _ _) | (with_reducible assumption) | (with_reducible refine Below.alloc ?_ ?_ _) | (with_reducible refine Below.drew ?_) | (with_reducible refine bdrewN ?_ _) | (with_reducible refine Below.setCell ?_ ?_ _) | go_size))⟩
      · go_wp2_with fail
        go_quiet (fail)
        go_wp2_with fail
        refine (PP.out b d _ (by omega) (by omega)).mono ?_
        rw [hp]
        have HP := Lib.hid hp
        clear hp
        rintro e w1 ⟨rfl, hb1⟩
        have hB1 : Below w.heap.size w w1 := Below.trans (by (repeat' (first | (with_reducible exact Below.refl _ _) | (with_reducible assumption) | (with_reducible refine Below.alloc ?_ ?_ _) | (with_reducible refine Below.drew ?_) | (with_reducible refine bdrewN ?_ _) | (with_reducible refine Below.setCell ?_ ?_ _) | go_size))) (hb1.mono (by go_size))
        have hz1 := hb1.size
        (try simp only [World.heap_drewN] at hz1)
        have hown1 : OwnI w1 (w.heap.size + 3) _ (mulL a b c d 3) := OwnI.below (OwnI.drewN hown _) hb1
        obtain ⟨hd, hg⟩ := bcell hb1
        clear hb1
        have c0 : w1.cell? ⟨w.heap.size, 0, none⟩ = some (.int .i64 a) := (hd _ _ (by go_size)).trans c0; have c1 : w1.cell? ⟨w.heap.size, 1, none⟩ = some (.int .i64 b) := (hd _ _ (by go_size)).trans c1; have c2 : w1.cell? ⟨w.heap.size + 1, 0, none⟩ = some (.int .i64 c) := (hd _ _ (by go_size)).trans c2; have c3 : w1.cell? ⟨w.heap.size + 1, 1, none⟩ = some (.int .i64 d) := (hd _ _ (by go_size)).trans c3; have c4 : w1.cell? ⟨w.heap.size + 1 + 1, 0, none⟩ = some (.int .i64 0) := (hd _ _ (by go_size)).trans c4; have c5 : w1.cell? ⟨w.heap.size + 1 + 1, 1, none⟩ = some (.int .i64 0) := (hd _ _ (by go_size)).trans c5; have f0 : w1.frozen? ⟨w.heap.size + 1 + 1, 0, none⟩ = false := (hg _ _ (by go_size)).trans f0; have f1 : w1.frozen? ⟨w.heap.size + 1 + 1, 1, none⟩ = false := (hg _ _ (by go_size)).trans f1
        clear hd hg
        go_wp2_with (at_builtin; refine wpList_pushI _ rfl _ _ rfl (w.heap.size + 3) _ _ rfl (OwnI.alloc hown1 _) _ _ (pv b d) rfl ?h1 ?h2 ?h3 ?_)
        case h1 => (first | (go_simp; done) | (simp (maxDischargeDepth := 10) [go_sem, *]; done))
        case h2 => have := mulL_len a b c d 3; omega
        case h3 => go_size
        intro v2 w2 hown2 hb2
        have hB2 : Below w.heap.size w w2 := Below.trans (by (repeat' (first | (with_reducible exact Below.refl _ _) | (with_reducible assumption) | (with_reducible refine Below.alloc ?_ ?_ _) | (with_reducible refine Below.drew ?_) | (with_reducible refine bdrewN ?_ _) | (with_reducible refine Below.setCell ?_ ?_ _) | go_size))) (hb2.mono (by omega))
        have hz2 := hb2.size
        (try simp only [World.size_alloc] at hz2)
        have hd : ∀ b o, b < w.heap.size + 3 → w2.cell? ⟨b, o, none⟩ = w1.cell? ⟨b, o, none⟩ := fun b o h => (hb2.cell (p := ⟨b, o, none⟩) h).trans (World.cell?_alloc_lt _ _ _ (by show b < _; omega))
        have hg : ∀ b o, b < w.heap.size + 3 → w2.frozen? ⟨b, o, none⟩ = w1.frozen? ⟨b, o, none⟩ := fun b o h => (hb2.frozen (p := ⟨b, o, none⟩) h).trans (World.frozen?_alloc_past _ _ _ (by show b < _; omega))
        clear hb2
        have c0 : w2.cell? ⟨w.heap.size, 0, none⟩ = some (.int .i64 a) := (hd _ _ (by omega)).trans c0; have c1 : w2.cell? ⟨w.heap.size, 1, none⟩ = some (.int .i64 b) := (hd _ _ (by omega)).trans c1; have c2 : w2.cell? ⟨w.heap.size + 1, 0, none⟩ = some (.int .i64 c) := (hd _ _ (by omega)).trans c2; have c3 : w2.cell? ⟨w.heap.size + 1, 1, none⟩ = some (.int .i64 d) := (hd _ _ (by omega)).trans c3; have c4 : w2.cell? ⟨w.heap.size + 1 + 1, 0, none⟩ = some (.int .i64 0) := (hd _ _ (by omega)).trans c4; have c5 : w2.cell? ⟨w.heap.size + 1 + 1, 1, none⟩ = some (.int .i64 0) := (hd _ _ (by omega)).trans c5; have f0 : w2.frozen? ⟨w.heap.size + 1 + 1, 0, none⟩ = false := (hg _ _ (by omega)).trans f0; have f1 : w2.frozen? ⟨w.heap.size + 1 + 1, 1, none⟩ = false := (hg _ _ (by omega)).trans f1
        clear hd hg
        go_wp2_with fail
        go_roundw
        case rel =>
          have hO := HO.out
          exact ⟨4, by omega, by omega, rfl, Lib.hid ⟨fun h => hO.1 (by omega), fun h => hO.2.1 (by omega), fun h => hO.2.2.1 (by omega), fun _ => HP.out⟩, hown2, hB2, by omega, c0, c1, c2, c3, c4, c5, f0, f1⟩
        case measure => simp [intOf]
    · have hO := HO.out
      obtain ⟨g, cp, rfl, hg1, hg2, hg3⟩ := OwnI.form (show OwnI wr (w.heap.size + 3) _ [pv a c, pv b c, pv a d, pv b d] from hown) (by simp)
      have l0 := hg3 0 (by simp); have l1 := hg3 1 (by simp); have l2 := hg3 2 (by simp); have l3 := hg3 3 (by simp)
      have HM' := Lib.hid ((mulT_yes hO).symm.trans HM.out)
      clear hg3 hO hown
      go_wp2_with (first
        | (go_at_call 47; refine (ref_Least4 (x := pv a c) (y := pv b c) (z := pv a d) (u := pv b d) l0 l1 l2 l3 cp).mono ?_; rintro e w' ⟨rfl, rfl⟩)
        | (go_at_call 48; refine (ref_Greatest4 (x := pv a c) (y := pv b c) (z := pv a d) (u := pv b d) l0 l1 l2 l3 cp).mono ?_; rintro e w' ⟨rfl, rfl⟩))
      have CF := ref_Fits (min (min (min (pv a c) (pv b c)) (pv a d)) (pv b d)) (max (max (max (pv a c) (pv b c)) (pv a d)) (pv b d)) wr
      rw [HM'.out] at CF
      simp only [Int.min_assoc, Int.max_assoc] at CF
      refine CF.mono ?_
      clear CF
      rintro e w1 ⟨rfl, hb1⟩
      have hB1 : Below w.heap.size w w1 := Below.trans (by (repeat' (first | (with_reducible exact Below.refl _ _) | (with_reducible assumption) | (with_reducible refine Below.alloc ?_ ?_ _) | (with_reducible refine Below.drew ?_) | (with_reducible refine bdrewN ?_ _) | (with_reducible refine Below.setCell ?_ ?_ _) | go_size))) (hb1.mono (by go_size))
      have hz1 := hb1.size
      obtain ⟨hd, hg⟩ := bcell hb1
      clear hb1
      have c0 : w1.cell? ⟨w.heap.size, 0, none⟩ = some (.int .i64 a) := (hd _ _ (by go_size)).trans c0; have c1 : w1.cell? ⟨w.heap.size, 1, none⟩ = some (.int .i64 b) := (hd _ _ (by go_size)).trans c1; have c2 : w1.cell? ⟨w.heap.size + 1, 0, none⟩ = some (.int .i64 c) := (hd _ _ (by go_size)).trans c2; have c3 : w1.cell? ⟨w.heap.size + 1, 1, none⟩ = some (.int .i64 d) := (hd _ _ (by go_size)).trans c3; have c4 : w1.cell? ⟨w.heap.size + 1 + 1, 0, none⟩ = some (.int .i64 0) := (hd _ _ (by go_size)).trans c4; have c5 : w1.cell? ⟨w.heap.size + 1 + 1, 1, none⟩ = some (.int .i64 0) := (hd _ _ (by go_size)).trans c5; have f0 : w1.frozen? ⟨w.heap.size + 1 + 1, 0, none⟩ = false := (hg _ _ (by go_size)).trans f0; have f1 : w1.frozen? ⟨w.heap.size + 1 + 1, 1, none⟩ = false := (hg _ _ (by go_size)).trans f1
      clear hd hg
      go_wp2_with fail
      refine bodyPost_ret (by simp only [results, Try.results16]; go_simp; try rfl) rfl ?_
      exact ⟨rfl, by (repeat' (first | (with_reducible exact Below.refl _ _) | (with_reducible assumption) | (with_reducible refine Below.alloc ?_ ?_ _) | (with_reducible refine Below.drew ?_) | (with_reducible refine bdrewN ?_ _) | (with_reducible refine Below.setCell ?_ ?_ _) | go_size))⟩
end Go.Proofs.Ytnknlgbihibmiaa
