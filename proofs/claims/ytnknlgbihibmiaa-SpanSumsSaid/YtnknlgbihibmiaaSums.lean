/- Statement SpanSums of chapter 3: sums, differences, hull and meeting against the reference, for all spans. -/
import Derived.Test.YtnknlgbihibmiaaSumsV
import Derived.Test.YtnknlgbihibmiaaSumsB
import Derived.ProofKit
import Derived.OpenShut
import Derived.Lib.SmallJoins
namespace Go.Proofs.Ytnknlgbihibmiaa.lawSpanSums
open Go.Proofs.Ytnknlgbihibmiaa Go.ChangeShapes Go.WideShapes Go.ChangeAt Go.RowKit Go.Joins

theorem bad_all {a b c d : Int} (h : (vspan a b && vspan c d) = false) : addS a b c d = (0, 0, 1) ∧ subS a b c d = (0, 0, 1) ∧ hullS2 a b c d = (0, 0, 1) ∧ meetS a b c d = (0, 0, 1) := by
  simp [addS, subS, hullS2, meetS, h]

theorem spanSums_walk (a b c d : Int) (_wa : (Lit.int .i64 a).wf = true) (_wb : (Lit.int .i64 b).wf = true) (_wc : (Lit.int .i64 c).wf = true) (_wd : (Lit.int .i64 d).wf = true) (w : World) :
    Calls Try.prog 8 #[.agg #[.int .i64 a, .int .i64 b], .agg #[.int .i64 c, .int .i64 d]] w fun e w' => e = .returned (.bool true) ∧ Below w.heap.size w w' := by
  by_cases h : (vspan a b && vspan c d) = true
  · have h' := h
    rw [Bool.and_eq_true] at h'
    obtain ⟨h1, h2⟩ := h'
    have b1 := vspan_bounds h1; have b2 := vspan_bounds h2
    have ea : addS a b c d = madeS (a + c) (b + d) := by rw [addS, if_pos h]
    have es : subS a b c d = madeS (a - d) (b - c) := by rw [subS, if_pos h]
    have eh : hullS2 a b c d = (min a c, max b d, 0) := by rw [hullS2, if_pos h]
    have em : meetS a b c d = meetT a b c d := by rw [meetS, if_pos h, meetT]
    have fa : fitsS (a + c) (b + d) = madeS (a + c) (b + d) := sums_same (by omega)
    have fs : fitsS (a - d) (b - c) = madeS (a - d) (b - c) := sums_same (by omega)
    obtain ⟨x0, x1, x2, hx⟩ : ∃ x y z, madeS (a + c) (b + d) = (x, y, z) := ⟨_, _, _, rfl⟩
    obtain ⟨y0, y1, y2, hy⟩ : ∃ x y z, madeS (a - d) (b - c) = (x, y, z) := ⟨_, _, _, rfl⟩
    obtain ⟨m0, m1, m2, hm⟩ : ∃ x y z, meetT a b c d = (x, y, z) := ⟨_, _, _, rfl⟩
    exact walk_valid a b c d x0 x1 x2 y0 y1 y2 _ _ m0 m1 m2 (Lib.hid h1) (Lib.hid h2) (Lib.hid (ea.trans hx)) (Lib.hid (es.trans hy)) (Lib.hid eh) (Lib.hid (em.trans hm)) (Lib.hid (fa.trans hx)) (Lib.hid (fs.trans hy)) (Lib.hid hm) (Lib.hid rfl) (Lib.hid rfl) w
  · have h' : (vspan a b && vspan c d) = false := by simpa using h
    obtain ⟨ha, hs, hh, hm⟩ := bad_all h'
    exact walk_bad a b c d _ _ (by revert h'; cases vspan a b <;> cases vspan c d <;> simp) (Lib.hid rfl) (Lib.hid rfl) (Lib.hid ha) (Lib.hid hs) (Lib.hid hh) (Lib.hid hm) w

/-! The row's step, after the guide's template. -/
theorem own : ownKnob Try.prog.godebug = none := by kernel_rfl

theorem cellsS : Try.prog.cellsOf 23 = 2 := by kernel_rfl
set_option maxRecDepth 100000 in
theorem lifted (os : Os) (started : os.Started) (H : Type) (enc : TypeId × Value → H) :
    ReturnsInHanded {} Try.checked os 8 .any (Rows.spanSumsSpec.pre6 enc Try.prog Try.f8 Rows.spanSumsRow.domain false) (Rows.spanSumsSpec.post enc Try.prog Try.f8 false true false false) := by
  refine returnsInHanded_of_change (C := Try.checked) own started (by kernel_rfl) Try.func8
    (ChangeSpec.witness6 (enc := enc) (C := Try.checked) false ⟨#[], #[.agg #[.int .i64 0, .int .i64 0], .agg #[.int .i64 0, .int .i64 0]], []⟩ 8 (by kernel_rfl) (by kernel_rfl) (by kernel_rfl) (by kernel_rfl)) ?_
  intro W base args ds gs before hval0 hW hcnd _
  have hval : ∀ (j : Nat) t v, Try.f8.params[j]? = some t → args[j]? = some v → Value.okWide Try.prog W .any base t v := hval0
  have hW' := hW
  obtain ⟨p, q, hA0, hV, rfl, hfz, hnd⟩ := hW
  have hA : DataW.TrodAll enc Try.prog W 0 (fun _ => true) true Try.f8.params.toList args.toList ds p := hA0
  rw [Try.params8] at hA hval
  obtain ⟨v0, vs0, d0, ds0, p0, q0, hargs, rfl, rfl, h0, r0⟩ := trodAll_cons hA
  obtain ⟨v1, vs1, d1, ds1, p1, q1, rfl, rfl, rfl, h1, r1⟩ := trodAll_cons r0
  obtain ⟨rfl, rfl, rfl⟩ := trodAll_nil r1
  obtain rfl : args = #[v0, v1] := by cases args; simp_all
  obtain ⟨rfl, rfl⟩ := trodVars_none hV
  obtain ⟨x0, y0, z0, t0, n0, rfl, rfl, rfl, hx0, hy0⟩ := open_agg2 Try.underlying23 (by kernel_rfl) cellsS (hval 0 23 v0 rfl rfl) h0
  obtain ⟨a0, ea0, rfl, wa0⟩ := DataW.trod_int Try.underlying3 hx0
  obtain ⟨b0, eb0, rfl, wb0⟩ := DataW.trod_int Try.underlying3 hy0
  simp at ea0 eb0
  subst ea0 eb0
  obtain ⟨x1, y1, z1, t1, n1, rfl, rfl, rfl, hx1, hy1⟩ := open_agg2 Try.underlying23 (by kernel_rfl) cellsS (hval 1 23 v1 rfl rfl) h1
  obtain ⟨a1, ea1, rfl, wa1⟩ := DataW.trod_int Try.underlying3 hx1
  obtain ⟨b1, eb1, rfl, wb1⟩ := DataW.trod_int Try.underlying3 hy1
  simp at ea1 eb1
  subst ea1 eb1
  clear hA0 hval0
  simp only [List.append_nil] at hW'
  refine (spanSums_walk a0 b0 a1 b1 wa0 wb0 wa1 wb1 W).mono fun e W' ⟨he, bel⟩ => ?_
  subst he
  exact ⟨_, rfl, _, _, _, [], [], [], hW', trodAll_mk1 (shut_bool Try.underlying4 _), (trodAll_cons_mk (shut_agg2 (y0 := (.lit (.int .i64 a0), [])) (y1 := (.lit (.int .i64 b0), [])) Try.underlying23 (by kernel_rfl) cellsS ⟨1, by simp [DataW.trod, Try.underlying3, wa0]⟩ ⟨1, by simp [DataW.trod, Try.underlying3, wb0]⟩) (trodAll_cons_mk (shut_agg2 (y0 := (.lit (.int .i64 a1), [])) (y1 := (.lit (.int .i64 b1), [])) Try.underlying23 (by kernel_rfl) cellsS ⟨1, by simp [DataW.trod, Try.underlying3, wa1]⟩ ⟨1, by simp [DataW.trod, Try.underlying3, wb1]⟩) trodAll_mk0)), rfl, bel.frame _, fun h => by cases h⟩

theorem over : Rows.spanSumsRow.holds Try.pinned (OpenSpec.ofChange Rows.spanSumsSpec) :=
  OpenClaim.holds_of_wide 8 Try.f8 rfl rfl rfl rfl rfl rfl rfl ⟨rfl, rfl, rfl, rfl, rfl⟩ rfl rfl rfl rfl rfl (by kernel_rfl) Try.func8 (by kernel_rfl)
    (of_decide_eq_true (by kernel_rfl)) (by unfold Func.isWrapper; first | (rw [if_pos (by decide +kernel)]; kernel_rfl) | (rw [if_neg (by decide +kernel)]; exact ⟨rfl, rfl⟩))
    (fun os started H enc _ => lifted os started H enc)

/-- The given statement. -/
theorem proved : Rows.SpanSumsSaid := over
#print axioms proved
end Go.Proofs.Ytnknlgbihibmiaa.lawSpanSums
