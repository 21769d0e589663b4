/- Statement SpanRules of chapter 3: sums and products do not depend on the order, and hull and meeting are what they must be, for all spans. -/
import Derived.Test.YtnknlgbihibmiaaRulesA
import Derived.Test.YtnknlgbihibmiaaRulesB
import Derived.Test.YtnknlgbihibmiaaRulesC
import Derived.ProofKit
import Derived.OpenShut
import Derived.Lib.SmallJoins
namespace Go.Proofs.Ytnknlgbihibmiaa.lawSpanRules
open Go.Proofs.Ytnknlgbihibmiaa Go.ChangeShapes Go.WideShapes Go.ChangeAt Go.RowKit Go.Joins

theorem spanRules_walk (a b c d : Int) (_wa : (Lit.int .i64 a).wf = true) (_wb : (Lit.int .i64 b).wf = true) (_wc : (Lit.int .i64 c).wf = true) (_wd : (Lit.int .i64 d).wf = true) (w : World) :
    Calls Try.prog 9 #[.agg #[.int .i64 a, .int .i64 b], .agg #[.int .i64 c, .int .i64 d]] w fun e w' => e = .returned (.bool true) ∧ Below w.heap.size w w' := by
  rcases valid_ways a b c d with ⟨h1, h2⟩ | h | h
  · have b1 := vspan_bounds h1; have b2 := vspan_bounds h2
    obtain ⟨m0, m1, m2, hm⟩ : ∃ m0 m1 m2, meetS a b c d = (m0, m1, m2) := ⟨_, _, _, rfl⟩
    obtain ⟨n0, n1, n2, hn⟩ : ∃ n0 n1 n2, hullS2 m0 m1 a b = (n0, n1, n2) := ⟨_, _, _, rfl⟩
    have hd : b < c ∧ (m2 == 12) = true ∨ ¬ b < c ∧ d < a ∧ (m2 == 12) = true ∨ ¬ b < c ∧ ¬ d < a ∧ m2 = 0 ∧ insideS m0 m1 a b = true ∧ insideS m0 m1 c d = true ∧ n0 = a ∧ n1 = b ∧ n2 = 0 := by
      by_cases t : b < c
      · have e := (meet_dis h1 h2 (Or.inl t)).symm.trans hm
        simp only [Prod.mk.injEq] at e
        exact Or.inl ⟨t, by simp [← e.2.2]⟩
      · by_cases u : d < a
        · have e := (meet_dis h1 h2 (Or.inr u)).symm.trans hm
          simp only [Prod.mk.injEq] at e
          exact Or.inr (Or.inl ⟨t, u, by simp [← e.2.2]⟩)
        · have e := (meet_con h1 h2 t u).symm.trans hm
          simp only [Prod.mk.injEq] at e
          obtain ⟨rfl, rfl, rfl⟩ := e
          have f := (hull_con h1 h2 t u).symm.trans hn
          simp only [Prod.mk.injEq] at f
          obtain ⟨rfl, rfl, rfl⟩ := f
          exact Or.inr (Or.inr ⟨t, u, rfl, inside_true (by omega) (by omega), inside_true (by omega) (by omega), rfl, rfl, rfl⟩)
    rcases add_facts a b c d h1 h2 with ⟨hs, x0, x1, ⟨hx, hi⟩ | hx⟩ | hs
    · exact walk_00 a b c d _ _ x0 x1 m0 m1 m2 n0 n1 n2 h1 h2 hs (Lib.hid hx) hi (by omega) (by omega) w (Lib.hid hm) (Lib.hid hn) hd
    · exact walk_05 a b c d _ _ x0 x1 m0 m1 m2 n0 n1 n2 h1 h2 hs (Lib.hid hx) (by omega) (by omega) w (Lib.hid hm) (Lib.hid hn) hd
    · exact walk_5 a b c d _ _ m0 m1 m2 n0 n1 n2 h1 h2 hs (by omega) (by omega) w (Lib.hid hm) (Lib.hid hn) hd
  · exact walk_invalid a b c d (Or.inl h) w
  · exact walk_invalid a b c d (Or.inr h) w

/-! The row's step, after the guide's template. -/
theorem own : ownKnob Try.prog.godebug = none := by kernel_rfl

theorem cellsS : Try.prog.cellsOf 23 = 2 := by kernel_rfl
set_option maxRecDepth 100000 in
theorem lifted (os : Os) (started : os.Started) (H : Type) (enc : TypeId × Value → H) :
    ReturnsInHanded {} Try.checked os 9 .any (Rows.spanRulesSpec.pre6 enc Try.prog Try.f9 Rows.spanRulesRow.domain false) (Rows.spanRulesSpec.post enc Try.prog Try.f9 false true false false) := by
  refine returnsInHanded_of_change (C := Try.checked) own started (by kernel_rfl) Try.func9
    (ChangeSpec.witness6 (enc := enc) (C := Try.checked) false ⟨#[], #[.agg #[.int .i64 0, .int .i64 0], .agg #[.int .i64 0, .int .i64 0]], []⟩ 8 (by kernel_rfl) (by kernel_rfl) (by kernel_rfl) (by kernel_rfl)) ?_
  intro W base args ds gs before hval0 hW hcnd _
  have hval : ∀ (j : Nat) t v, Try.f9.params[j]? = some t → args[j]? = some v → Value.okWide Try.prog W .any base t v := hval0
  have hW' := hW
  obtain ⟨p, q, hA0, hV, rfl, hfz, hnd⟩ := hW
  have hA : DataW.TrodAll enc Try.prog W 0 (fun _ => true) true Try.f9.params.toList args.toList ds p := hA0
  rw [Try.params9] at hA hval
  obtain ⟨v0, vs0, d0, ds0, p0, q0, hargs, rfl, rfl, h0, r0⟩ := trodAll_cons hA
  obtain ⟨v1, vs1, d1, ds1, p1, q1, rfl, rfl, rfl, h1, r1⟩ := trodAll_cons r0
  obtain ⟨rfl, rfl, rfl⟩ := trodAll_nil r1
  obtain rfl : args = #[v0, v1] := by cases args; simp_all
  obtain ⟨rfl, rfl⟩ := trodVars_none hV
  obtain ⟨x0, y0, z0, t0, n0, rfl, rfl, rfl, hx0, hy0⟩ := open_agg2 Try.underlying23 (by kernel_rfl) cellsS (hval 0 23 v0 rfl rfl) h0
  obtain ⟨a0, ea0, rfl, wa0⟩ := DataW.trod_int Try.underlying3 hx0
  obtain ⟨b0, eb0, rfl, wb0⟩ := DataW.trod_int Try.underlying3 hy0
  simp at ea0 eb0
  subst ea0 eb0
  obtain ⟨x1, y1, z1, t1, n1, rfl, rfl, rfl, hx1, hy1⟩ := open_agg2 Try.underlying23 (by kernel_rfl) cellsS (hval 1 23 v1 rfl rfl) h1
  obtain ⟨a1, ea1, rfl, wa1⟩ := DataW.trod_int Try.underlying3 hx1
  obtain ⟨b1, eb1, rfl, wb1⟩ := DataW.trod_int Try.underlying3 hy1
  simp at ea1 eb1
  subst ea1 eb1
  clear hA0 hval0
  simp only [List.append_nil] at hW'
  refine (spanRules_walk a0 b0 a1 b1 wa0 wb0 wa1 wb1 W).mono fun e W' ⟨he, bel⟩ => ?_
  subst he
  exact ⟨_, rfl, _, _, _, [], [], [], hW', trodAll_mk1 (shut_bool Try.underlying4 _), (trodAll_cons_mk (shut_agg2 (y0 := (.lit (.int .i64 a0), [])) (y1 := (.lit (.int .i64 b0), [])) Try.underlying23 (by kernel_rfl) cellsS ⟨1, by simp [DataW.trod, Try.underlying3, wa0]⟩ ⟨1, by simp [DataW.trod, Try.underlying3, wb0]⟩) (trodAll_cons_mk (shut_agg2 (y0 := (.lit (.int .i64 a1), [])) (y1 := (.lit (.int .i64 b1), [])) Try.underlying23 (by kernel_rfl) cellsS ⟨1, by simp [DataW.trod, Try.underlying3, wa1]⟩ ⟨1, by simp [DataW.trod, Try.underlying3, wb1]⟩) trodAll_mk0)), rfl, bel.frame _, fun h => by cases h⟩

theorem over : Rows.spanRulesRow.holds Try.pinned (OpenSpec.ofChange Rows.spanRulesSpec) :=
  OpenClaim.holds_of_wide 9 Try.f9 rfl rfl rfl rfl rfl rfl rfl ⟨rfl, rfl, rfl, rfl, rfl⟩ rfl rfl rfl rfl rfl (by kernel_rfl) Try.func9 (by kernel_rfl)
    (of_decide_eq_true (by kernel_rfl)) (by unfold Func.isWrapper; first | (rw [if_pos (by decide +kernel)]; kernel_rfl) | (rw [if_neg (by decide +kernel)]; exact ⟨rfl, rfl⟩))
    (fun os started H enc _ => lifted os started H enc)

/-- The given statement. -/
theorem proved : Rows.SpanRulesSaid := over
#print axioms proved
end Go.Proofs.Ytnknlgbihibmiaa.lawSpanRules
