/- The reference's Least and Greatest over this seat's program, and Meet and Hull by them. -/
import Derived.Test.YtnknlgbihibmiaaSpanB
import Derived.Test.YtnknlgbihibmiaaLive
namespace Go.Proofs.Ytnknlgbihibmiaa
open Go.RowKit

def HoldsL (w : World) (b : Nat) (l : List Int) : Prop := ∀ k (h : k < l.length), w.cell? ⟨b, k, none⟩ = some (.int .i64 l[k])

theorem fold_take (f : Int → Int → Int) (x : Int) (l : List Int) (k : Nat) (h : k < l.length) : (l.take (k + 1)).foldl f x = f ((l.take k).foldl f x) l[k] := by
  rw [List.take_succ_eq_append_getElem h, List.foldl_append]; rfl

set_option maxHeartbeats 400000 in
theorem ref_Least (b : Nat) (x : Int) (l : List Int) (cp : Nat) (w : World) (hl : l.length ≤ 1000) (hc : Hid (HoldsL w b (x :: l))) :
    Calls Try.prog 47 #[.slice (some ⟨b, 0, none⟩) (l.length + 1) cp] w fun e w' => e = .returned (.int .i64 (l.foldl min x)) ∧ w = w' := by
  have c0 : w.cell? ⟨b, 0, none⟩ = some (.int .i64 x) := hc.out 0 (by simp)
  go_enter Try.func47, Try.ntmps47
  go_wp2
  go_loop [3, 4] (fun n i => ∃ k : Nat, k ≤ l.length ∧ i = .int .i64 ((k : Int) + 1) ∧ n = .int .i64 ((l.take k).foldl min x)) (fun _ i => l.length + 1 - (intOf i).toNat)
  case atStart => exact ⟨0, Nat.zero_le _, rfl, rfl⟩
  case round =>
    obtain ⟨k, hk, rfl, rfl⟩ := hrel
    by_cases hlt : k < l.length
    · have c1 : w.cell? ⟨b, k + 1, none⟩ = some (.int .i64 l[k]) := hc.out (k + 1) (by simpa using hlt)
      have f := fold_take min x l k hlt
      generalize l[k] = y at c1 f
      generalize (l.take k).foldl min x = n at f ⊢
      have F := Lib.hid f
      clear f
      by_cases t : y < n
      · go_wp2
        go_round
        case rel => exact ⟨k + 1, by omega, by go_num, by rw [F.out]; congr 1; omega⟩
        case measure => simp [intOf]; omega
      · go_wp2
        go_round
        case rel => exact ⟨k + 1, by omega, by go_num, by rw [F.out]; congr 1; omega⟩
        case measure => simp [intOf]; omega
    · have E := Lib.hid (List.take_of_length_le (Nat.le_of_not_lt hlt))
      go_wp2
      go_ret
      exact ⟨congrArg (fun t => Ending.returned (.int .i64 (List.foldl min x t))) E.out, rfl⟩

set_option maxHeartbeats 400000 in
theorem ref_Greatest (b : Nat) (x : Int) (l : List Int) (cp : Nat) (w : World) (hl : l.length ≤ 1000) (hc : Hid (HoldsL w b (x :: l))) :
    Calls Try.prog 48 #[.slice (some ⟨b, 0, none⟩) (l.length + 1) cp] w fun e w' => e = .returned (.int .i64 (l.foldl max x)) ∧ w = w' := by
  have c0 : w.cell? ⟨b, 0, none⟩ = some (.int .i64 x) := hc.out 0 (by simp)
  go_enter Try.func48, Try.ntmps48
  go_wp2
  go_loop [3, 4] (fun n i => ∃ k : Nat, k ≤ l.length ∧ i = .int .i64 ((k : Int) + 1) ∧ n = .int .i64 ((l.take k).foldl max x)) (fun _ i => l.length + 1 - (intOf i).toNat)
  case atStart => exact ⟨0, Nat.zero_le _, rfl, rfl⟩
  case round =>
    obtain ⟨k, hk, rfl, rfl⟩ := hrel
    by_cases hlt : k < l.length
    · have c1 : w.cell? ⟨b, k + 1, none⟩ = some (.int .i64 l[k]) := hc.out (k + 1) (by simpa using hlt)
      have f := fold_take max x l k hlt
      generalize l[k] = y at c1 f
      generalize (l.take k).foldl max x = n at f ⊢
      have F := Lib.hid f
      clear f
      by_cases t : n < y
      · go_wp2
        go_round
        case rel => exact ⟨k + 1, by omega, by go_num, by rw [F.out]; congr 1; omega⟩
        case measure => simp [intOf]; omega
      · go_wp2
        go_round
        case rel => exact ⟨k + 1, by omega, by go_num, by rw [F.out]; congr 1; omega⟩
        case measure => simp [intOf]; omega
    · have E := Lib.hid (List.take_of_length_le (Nat.le_of_not_lt hlt))
      go_wp2
      go_ret
      exact ⟨congrArg (fun t => Ending.returned (.int .i64 (List.foldl max x t))) E.out, rfl⟩

/-- Of two numbers that a block holds. -/
theorem holds2 {w : World} {b : Nat} {x y : Int} (h0 : w.cell? ⟨b, 0, none⟩ = some (.int .i64 x)) (h1 : w.cell? ⟨b, 1, none⟩ = some (.int .i64 y)) : HoldsL w b [x, y] := by
  intro k h
  match k, h with
  | 0, _ => exact h0
  | 1, _ => exact h1
theorem holds4 {w : World} {b : Nat} {x y z u : Int} (h0 : w.cell? ⟨b, 0, none⟩ = some (.int .i64 x)) (h1 : w.cell? ⟨b, 1, none⟩ = some (.int .i64 y)) (h2 : w.cell? ⟨b, 2, none⟩ = some (.int .i64 z)) (h3 : w.cell? ⟨b, 3, none⟩ = some (.int .i64 u)) : HoldsL w b [x, y, z, u] := by
  intro k h
  match k, h with
  | 0, _ => exact h0
  | 1, _ => exact h1
  | 2, _ => exact h2
  | 3, _ => exact h3
theorem ref_Least2 {w : World} {b : Nat} {x y : Int} (h0 : w.cell? ⟨b, 0, none⟩ = some (.int .i64 x)) (h1 : w.cell? ⟨b, 1, none⟩ = some (.int .i64 y)) :
    Calls Try.prog 47 #[.slice (some ⟨b, 0, none⟩) 2 2] w fun e w' => e = .returned (.int .i64 (min x y)) ∧ w = w' := ref_Least b x [y] 2 w (by simp) (Lib.hid (holds2 h0 h1))
theorem ref_Greatest2 {w : World} {b : Nat} {x y : Int} (h0 : w.cell? ⟨b, 0, none⟩ = some (.int .i64 x)) (h1 : w.cell? ⟨b, 1, none⟩ = some (.int .i64 y)) :
    Calls Try.prog 48 #[.slice (some ⟨b, 0, none⟩) 2 2] w fun e w' => e = .returned (.int .i64 (max x y)) ∧ w = w' := ref_Greatest b x [y] 2 w (by simp) (Lib.hid (holds2 h0 h1))
theorem ref_Least4 {w : World} {b : Nat} {x y z u : Int} (h0 : w.cell? ⟨b, 0, none⟩ = some (.int .i64 x)) (h1 : w.cell? ⟨b, 1, none⟩ = some (.int .i64 y)) (h2 : w.cell? ⟨b, 2, none⟩ = some (.int .i64 z)) (h3 : w.cell? ⟨b, 3, none⟩ = some (.int .i64 u)) (cp : Nat := 4) :
    Calls Try.prog 47 #[.slice (some ⟨b, 0, none⟩) 4 cp] w fun e w' => e = .returned (.int .i64 (min (min (min x y) z) u)) ∧ w = w' := ref_Least b x [y, z, u] cp w (by simp) (Lib.hid (holds4 h0 h1 h2 h3))
theorem ref_Greatest4 {w : World} {b : Nat} {x y z u : Int} (h0 : w.cell? ⟨b, 0, none⟩ = some (.int .i64 x)) (h1 : w.cell? ⟨b, 1, none⟩ = some (.int .i64 y)) (h2 : w.cell? ⟨b, 2, none⟩ = some (.int .i64 z)) (h3 : w.cell? ⟨b, 3, none⟩ = some (.int .i64 u)) (cp : Nat := 4) :
    Calls Try.prog 48 #[.slice (some ⟨b, 0, none⟩) 4 cp] w fun e w' => e = .returned (.int .i64 (max (max (max x y) z) u)) ∧ w = w' := ref_Greatest b x [y, z, u] cp w (by simp) (Lib.hid (holds4 h0 h1 h2 h3))

set_option maxHeartbeats 1000000 in
theorem ref_Hull (a b c d : Int) (w : World) : Calls Try.prog 41 #[.agg #[.int .i64 a, .int .i64 b], .agg #[.int .i64 c, .int .i64 d]] w fun e w' =>
    e = .returned (.agg #[.int .i64 (min a c), .int .i64 (max b d)]) ∧ Below w.heap.size w w' := by
  go_enter Try.func41, Try.ntmps41
  go_wp2_with fail
  go_region_held3 (fun w' => w'.cell? ⟨w.heap.size, 0, none⟩ = some (.int .i64 a) ∧ w'.cell? ⟨w.heap.size, 1, none⟩ = some (.int .i64 b) ∧ w'.cell? ⟨w.heap.size + 1, 0, none⟩ = some (.int .i64 c) ∧ w'.cell? ⟨w.heap.size + 1, 1, none⟩ = some (.int .i64 d)) (simp [go_sem, World.cell?_alloc_past])
    (first
      | (go_at_call 47; refine (ref_Least2 (x := a) (y := c) (by (first | (go_simp; done) | (simp (maxDischargeDepth := 10) [go_sem, *]; done))) (by (first | (go_simp; done) | (simp (maxDischargeDepth := 10) [go_sem, *]; done)))).mono ?_; rintro e w' ⟨rfl, rfl⟩)
      | (go_at_call 48; refine (ref_Greatest2 (x := b) (y := d) (by (first | (go_simp; done) | (simp (maxDischargeDepth := 10) [go_sem, *]; done))) (by (first | (go_simp; done) | (simp (maxDischargeDepth := 10) [go_sem, *]; done)))).mono ?_; rintro e w' ⟨rfl, rfl⟩))
  all_goals
    go_wp2
    refine bodyPost_ret (by simp only [results, Try.results41]; go_simp; try rfl) rfl ?_
    exact ⟨rfl, by (repeat' (first | (with_reducible exact Below.refl _ _) | (with_reducible assumption) | (with_reducible refine Below.alloc ?_ ?_ _) | (with_reducible refine Below.drew ?_) | (with_reducible refine bdrewN ?_ _) | (with_reducible refine Below.setCell ?_ ?_ _) | go_size))⟩

def meetT (a b c d : Int) : T3 := if min b d < max a c then (0, 0, 12) else (max a c, min b d, 0)

set_option maxHeartbeats 8000000 in
theorem ref_Meet (a b c d : Int) (w : World) : Calls Try.prog 40 #[.agg #[.int .i64 a, .int .i64 b], .agg #[.int .i64 c, .int .i64 d]] w fun e w' =>
    e = .returned (.tuple #[.agg #[.int .i64 (meetT a b c d).1, .int .i64 (meetT a b c d).2.1], .int .i64 (meetT a b c d).2.2]) ∧ Below w.heap.size w w' := by
  by_cases t : min b d < max a c
  · have e : meetT a b c d = (0, 0, 12) := by rw [meetT, if_pos t]
    rw [e]
    clear e
    go_enter Try.func40, Try.ntmps40
    go_wp2_with fail
    go_region_held3 (fun w' => w'.cell? ⟨w.heap.size, 0, none⟩ = some (.int .i64 a) ∧ w'.cell? ⟨w.heap.size, 1, none⟩ = some (.int .i64 b) ∧ w'.cell? ⟨w.heap.size + 1, 0, none⟩ = some (.int .i64 c) ∧ w'.cell? ⟨w.heap.size + 1, 1, none⟩ = some (.int .i64 d)) (simp [go_sem, World.cell?_alloc_past])
      (first
        | (go_at_call 47; refine (ref_Least2 (x := b) (y := d) (by (first | (go_simp; done) | (simp (maxDischargeDepth := 10) [go_sem, *]; done))) (by (first | (go_simp; done) | (simp (maxDischargeDepth := 10) [go_sem, *]; done)))).mono ?_; rintro e w' ⟨rfl, rfl⟩)
        | (go_at_call 48; refine (ref_Greatest2 (x := a) (y := c) (by (first | (go_simp; done) | (simp (maxDischargeDepth := 10) [go_sem, *]; done))) (by (first | (go_simp; done) | (simp (maxDischargeDepth := 10) [go_sem, *]; done)))).mono ?_; rintro e w' ⟨rfl, rfl⟩))
    all_goals
      go_wp2
      refine bodyPost_ret (by simp only [results, Try.results40]; go_simp; try rfl) rfl ?_
      exact ⟨rfl, by (repeat' (first | (with_reducible exact Below.refl _ _) | (with_reducible assumption) | (with_reducible refine Below.alloc ?_ ?_ _) | (with_reducible refine Below.drew ?_) | (with_reducible refine bdrewN ?_ _) | (with_reducible refine Below.setCell ?_ ?_ _) | go_size))⟩
  · have e : meetT a b c d = (max a c, min b d, 0) := by rw [meetT, if_neg t]
    rw [e]
    clear e
    go_enter Try.func40, Try.ntmps40
    go_wp2_with fail
    go_region_held3 (fun w' => w'.cell? ⟨w.heap.size, 0, none⟩ = some (.int .i64 a) ∧ w'.cell? ⟨w.heap.size, 1, none⟩ = some (.int .i64 b) ∧ w'.cell? ⟨w.heap.size + 1, 0, none⟩ = some (.int .i64 c) ∧ w'.cell? ⟨w.heap.size + 1, 1, none⟩ = some (.int .i64 d)) (simp [go_sem, World.cell?_alloc_past])
      (first
        | (go_at_call 47; refine (ref_Least2 (x := b) (y := d) (by (first | (go_simp; done) | (simp (maxDischargeDepth := 10) [go_sem, *]; done))) (by (first | (go_simp; done) | (simp (maxDischargeDepth := 10) [go_sem, *]; done)))).mono ?_; rintro e w' ⟨rfl, rfl⟩)
        | (go_at_call 48; refine (ref_Greatest2 (x := a) (y := c) (by (first | (go_simp; done) | (simp (maxDischargeDepth := 10) [go_sem, *]; done))) (by (first | (go_simp; done) | (simp (maxDischargeDepth := 10) [go_sem, *]; done)))).mono ?_; rintro e w' ⟨rfl, rfl⟩))
    all_goals
      go_wp2
      refine bodyPost_ret (by simp only [results, Try.results40]; go_simp; try rfl) rfl ?_
      exact ⟨rfl, by (repeat' (first | (with_reducible exact Below.refl _ _) | (with_reducible assumption) | (with_reducible refine Below.alloc ?_ ?_ _) | (with_reducible refine Below.drew ?_) | (with_reducible refine bdrewN ?_ _) | (with_reducible refine Below.setCell ?_ ?_ _) | go_size))⟩
end Go.Proofs.Ytnknlgbihibmiaa
