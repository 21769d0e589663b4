/- Plain facts and the short walks for statement SpanRules of chapter 3. -/
import Derived.Test.YtnknlgbihibmiaaLaw
import Derived.Test.YtnknlgbihibmiaaLive
namespace Go.Proofs.Ytnknlgbihibmiaa.lawSpanRules
open Go.Proofs.Ytnknlgbihibmiaa Go.RowKit

theorem addS_comm (a b c d : Int) : addS c d a b = addS a b c d := by
  unfold addS
  rw [Int.add_comm c a, Int.add_comm d b, Bool.and_comm]

theorem sgnS_comm (a c : Int) : sgnS a c 1 = sgnS c a 1 := by
  unfold sgnS
  cases decide (a < 0) <;> cases decide (c < 0) <;> rfl
theorem scaledS_comm (a c : Int) : scaledS a c 1 = scaledS c a 1 := by
  unfold scaledS
  rw [sgnS_comm, Int.mul_comm (max a (-a))]

theorem hull_four (x y z u : Int × Int × Int) : hullS [x, y, z, u] =
    if (scaledS x.1 x.2.1 x.2.2).2.2 && (scaledS y.1 y.2.1 y.2.2).2.2 && (scaledS z.1 z.2.1 z.2.2).2.2 && (scaledS u.1 u.2.1 u.2.2).2.2 then
      (min (min (min (min 1152921504606846976 (scaledS x.1 x.2.1 x.2.2).1) (scaledS y.1 y.2.1 y.2.2).1) (scaledS z.1 z.2.1 z.2.2).1) (scaledS u.1 u.2.1 u.2.2).1,
       max (max (max (max (-1152921504606846976) (scaledS x.1 x.2.1 x.2.2).2.1) (scaledS y.1 y.2.1 y.2.2).2.1) (scaledS z.1 z.2.1 z.2.2).2.1) (scaledS u.1 u.2.1 u.2.2).2.1, 0)
    else (0, 0, 5) := by
  simp only [hullS, hullGo]
  cases (scaledS x.1 x.2.1 x.2.2).2.2 <;> cases (scaledS y.1 y.2.1 y.2.2).2.2 <;> cases (scaledS z.1 z.2.1 z.2.2).2.2 <;> cases (scaledS u.1 u.2.1 u.2.2).2.2 <;> rfl

theorem mulS_comm (a b c d : Int) : mulS c d a b = mulS a b c d := by
  unfold mulS
  rw [Bool.and_comm, hull_four, hull_four]
  simp only [scaledS_comm c a, scaledS_comm c b, scaledS_comm d a, scaledS_comm d b]
  generalize scaledS a c 1 = p; generalize scaledS a d 1 = q; generalize scaledS b c 1 = r; generalize scaledS b d 1 = s
  have e : (p.2.2 && r.2.2 && q.2.2 && s.2.2) = (p.2.2 && q.2.2 && r.2.2 && s.2.2) := by
    cases p.2.2 <;> cases q.2.2 <;> cases r.2.2 <;> cases s.2.2 <;> rfl
  rw [e]
  congr 2
  refine Prod.ext ?_ (Prod.ext ?_ rfl)
  · show min (min (min (min _ p.1) r.1) q.1) s.1 = min (min (min (min _ p.1) q.1) r.1) s.1; omega
  · show max (max (max (max _ p.2.1) r.2.1) q.2.1) s.2.1 = max (max (max (max _ p.2.1) q.2.1) r.2.1) s.2.1; omega

set_option maxRecDepth 100000 in
theorem walk_invalid (a b c d : Int) (h1 : (vspan a b = true ∧ vspan c d = false) ∨ vspan a b = false) (w : World) :
    Calls Try.prog 9 #[.agg #[.int .i64 a, .int .i64 b], .agg #[.int .i64 c, .int .i64 d]] w fun e w' => e = .returned (.bool true) ∧ Below w.heap.size w w' := by
  rcases h1 with ⟨h1, h2⟩ | h1
  all_goals
    go_enter Try.func9, Try.ntmps9
    go_wp2_with (first | (go_at_call 11; refine (law_awake _).mono ?_; rintro e w1 ⟨rfl, hb1⟩; obtain ⟨hB1, hK1, hd1, hg1⟩ := after (w := w) (w.heap.size + 2) (by (repeat' (first | (with_reducible exact Below.refl _ _) | (with_reducible assumption) | (with_reducible refine Below.alloc ?_ ?_ _) | (with_reducible refine Below.drew ?_) | (with_reducible refine bdrewN ?_ _) | (with_reducible refine Below.setCell ?_ ?_ _) | go_size))) (by go_size) hb1; clear hb1; obtain ⟨hk1, hk2⟩ := kf2 hK1; have hc00 : w1.cell? ⟨w.heap.size, 0, none⟩ = some _ := (hd1 _ _ (by go_size)).trans (by go_simp; try rfl); have hf00 : w1.frozen? ⟨w.heap.size, 0, none⟩ = false := (hg1 _ _ (by go_size)).trans (by go_simp); have hc01 : w1.cell? ⟨w.heap.size, 1, none⟩ = some _ := (hd1 _ _ (by go_size)).trans (by go_simp; try rfl); have hf01 : w1.frozen? ⟨w.heap.size, 1, none⟩ = false := (hg1 _ _ (by go_size)).trans (by go_simp); have hc10 : w1.cell? ⟨w.heap.size + 1, 0, none⟩ = some _ := (hd1 _ _ (by go_size)).trans (by go_simp; try rfl); have hf10 : w1.frozen? ⟨w.heap.size + 1, 0, none⟩ = false := (hg1 _ _ (by go_size)).trans (by go_simp); have hc11 : w1.cell? ⟨w.heap.size + 1, 1, none⟩ = some _ := (hd1 _ _ (by go_size)).trans (by go_simp; try rfl); have hf11 : w1.frozen? ⟨w.heap.size + 1, 1, none⟩ = false := (hg1 _ _ (by go_size)).trans (by go_simp)) | (go_at_call 14; refine (ref_Valid _ _ _).mono ?_; rintro e w1 ⟨rfl, hb1⟩; obtain ⟨hB1, hK1, hd1, hg1⟩ := after (w := w) (w.heap.size + 2) (by (repeat' (first | (with_reducible exact Below.refl _ _) | (with_reducible assumption) | (with_reducible refine Below.alloc ?_ ?_ _) | (with_reducible refine Below.drew ?_) | (with_reducible refine bdrewN ?_ _) | (with_reducible refine Below.setCell ?_ ?_ _) | go_size))) (by go_size) hb1; clear hb1; obtain ⟨hk1, hk2⟩ := kf2 hK1; have hc00 : w1.cell? ⟨w.heap.size, 0, none⟩ = some _ := (hd1 _ _ (by go_size)).trans (by go_simp; try rfl); have hf00 : w1.frozen? ⟨w.heap.size, 0, none⟩ = false := (hg1 _ _ (by go_size)).trans (by go_simp); have hc01 : w1.cell? ⟨w.heap.size, 1, none⟩ = some _ := (hd1 _ _ (by go_size)).trans (by go_simp; try rfl); have hf01 : w1.frozen? ⟨w.heap.size, 1, none⟩ = false := (hg1 _ _ (by go_size)).trans (by go_simp); have hc10 : w1.cell? ⟨w.heap.size + 1, 0, none⟩ = some _ := (hd1 _ _ (by go_size)).trans (by go_simp; try rfl); have hf10 : w1.frozen? ⟨w.heap.size + 1, 0, none⟩ = false := (hg1 _ _ (by go_size)).trans (by go_simp); have hc11 : w1.cell? ⟨w.heap.size + 1, 1, none⟩ = some _ := (hd1 _ _ (by go_size)).trans (by go_simp; try rfl); have hf11 : w1.frozen? ⟨w.heap.size + 1, 1, none⟩ = false := (hg1 _ _ (by go_size)).trans (by go_simp)))
    go_ret
    exact ⟨rfl, by (repeat' (first | (with_reducible exact Below.refl _ _) | (with_reducible assumption) | (with_reducible refine Below.alloc ?_ ?_ _) | (with_reducible refine Below.drew ?_) | (with_reducible refine bdrewN ?_ _) | (with_reducible refine Below.setCell ?_ ?_ _) | go_size))⟩

/-- What the walk asks of sum, difference, hull, and meeting. -/
theorem add_facts (a b c d : Int) (h1 : vspan a b = true) (h2 : vspan c d = true) :
    (addS a b c d = (a + c, b + d, 0) ∧ ∃ x0 x1, (subS (a + c) (b + d) c d = (x0, x1, 0) ∧ insideS a b x0 x1 = true ∨ subS (a + c) (b + d) c d = (x0, x1, 5))) ∨ (addS a b c d = (0, 0, 5)) := by
  have b1 := vspan_bounds h1; have b2 := vspan_bounds h2
  unfold addS madeS
  rw [h1, h2, Bool.and_self, if_pos rfl]
  by_cases t : (wib (a + c) && wib (b + d)) = true
  · rw [if_pos t]
    refine Or.inl ⟨rfl, ?_⟩
    have v : vspan (a + c) (b + d) = true := by
      simp only [wib, Bool.and_eq_true, decide_eq_true_eq] at t
      simp only [vspan, Bool.and_eq_true, decide_eq_true_eq]
      omega
    unfold subS madeS
    rw [v, h2, Bool.and_self, if_pos rfl]
    by_cases u : (wib (a + c - d) && wib (b + d - c)) = true
    · rw [if_pos u]
      refine ⟨_, _, Or.inl ⟨rfl, ?_⟩⟩
      simp only [insideS, Bool.and_eq_true, decide_eq_true_eq]
      omega
    · rw [if_neg u]
      exact ⟨_, _, Or.inr rfl⟩
  · rw [if_neg t]
    exact Or.inr rfl

theorem inside_true {a b c d : Int} (h1 : c ≤ a) (h2 : b ≤ d) : insideS a b c d = true := by
  simp [insideS, h1, h2]

theorem meet_dis {a b c d : Int} (h1 : vspan a b = true) (h2 : vspan c d = true) (h : b < c ∨ d < a) : meetS a b c d = (0, 0, 12) := by
  have b1 := vspan_bounds h1; have b2 := vspan_bounds h2
  rw [meetS, h1, h2, Bool.and_self, if_pos rfl, if_pos (by omega)]
theorem meet_con {a b c d : Int} (h1 : vspan a b = true) (h2 : vspan c d = true) (h : ¬ b < c) (h' : ¬ d < a) : meetS a b c d = (max a c, min b d, 0) := by
  have b1 := vspan_bounds h1; have b2 := vspan_bounds h2
  rw [meetS, h1, h2, Bool.and_self, if_pos rfl, if_neg (by omega)]
theorem hull_con {a b c d : Int} (h1 : vspan a b = true) (h2 : vspan c d = true) (h : ¬ b < c) (h' : ¬ d < a) : hullS2 (max a c) (min b d) a b = (a, b, 0) := by
  have b1 := vspan_bounds h1; have b2 := vspan_bounds h2
  have v : vspan (max a c) (min b d) = true := by
    simp only [vspan, Bool.and_eq_true, decide_eq_true_eq]; omega
  rw [hullS2, v, h1, Bool.and_self, if_pos rfl, show min (max a c) a = a by omega, show max (min b d) b = b by omega]
theorem hull_dis {a b : Int} (h1 : vspan a b = true) : hullS2 a b a b = (a, b, 0) := by
  rw [hullS2, h1, Bool.and_self, if_pos rfl, show min a a = a by omega, show max b b = b by omega]

end Go.Proofs.Ytnknlgbihibmiaa.lawSpanRules
