/- Statement SpanNarrow over the program: the law returns true, for every input. -/
import Derived.Test.YtjjpjgnoanfaoaaSPT
import Derived.Test.YtjjpjgnoanfaoaaRowS
import Derived.Test.YtjjpjgnoanfaoaaMake
import Derived.Test.YtjjpjgnoanfaoaaRows
import Derived.ProofKit
import Derived.OpenShut
import Derived.Lib.SmallJoins
set_option linter.all false
namespace Go.Proofs.Ytjjpjgnoanfaoaa.lawSpanNarrow
open Go.Proofs.Ytjjpjgnoanfaoaa Go.Proofs.Ytjjpjgnoanfaoaa.T Go.ChangeShapes Go.WideShapes Go.ChangeAt Go.RowKit Go.Joins

/-! The row's step, after the guide's template. -/
theorem own : ownKnob Try.prog.godebug = none := by kernel_rfl
set_option maxRecDepth 100000 in
theorem lifted (os : Os) (started : os.Started) (H : Type) (enc : TypeId × Value → H) :
    ReturnsInHanded {} Try.checked os 3 .any (Rows.spanNarrowSpec.pre6 enc Try.prog Try.f3 Rows.spanNarrowRow.domain false) (Rows.spanNarrowSpec.post enc Try.prog Try.f3 false true false false) := by
  refine returnsInHanded_of_change (C := Try.checked) own started (by kernel_rfl) Try.func3
    (ChangeSpec.witness6 (enc := enc) (C := Try.checked) false ⟨#[], #[.agg #[.int .i64 0, .int .i64 0], .agg #[.int .i64 0, .int .i64 0], .int .u64 0, .int .u64 0, .int .u64 0, .int .u64 0], []⟩ 8 (by kernel_rfl) (by kernel_rfl) (by kernel_rfl) (by kernel_rfl)) ?_
  intro W base args ds gs before hval0 hW hcnd _
  have hval : ∀ (j : Nat) t v, Try.f3.params[j]? = some t → args[j]? = some v → Value.okWide Try.prog W .any base t v := hval0
  have hW' := hW
  have hlt := hW.lt
  obtain ⟨p, q, hA0, hV, rfl, hfz, hnd⟩ := hW
  have hA : DataW.TrodAll enc Try.prog W 0 (fun _ => true) true Try.f3.params.toList args.toList ds p := hA0
  have hA2 := hA
  rw [Try.params3] at hA hval hA2
  obtain ⟨u0, vs0, d0, ds0, p0, q0, hargs, rfl, rfl, k0, r0⟩ := trodAll_cons hA
  obtain ⟨u1, vs1, d1, ds1, p1, q1, rfl, rfl, rfl, k1, r1⟩ := trodAll_cons r0
  obtain ⟨u2, vs2, d2, ds2, p2, q2, rfl, rfl, rfl, k2, r2⟩ := trodAll_cons r1
  obtain ⟨u3, vs3, d3, ds3, p3, q3, rfl, rfl, rfl, k3, r3⟩ := trodAll_cons r2
  obtain ⟨u4, vs4, d4, ds4, p4, q4, rfl, rfl, rfl, k4, r4⟩ := trodAll_cons r3
  obtain ⟨u5, vs5, d5, ds5, p5, q5, rfl, rfl, rfl, k5, r5⟩ := trodAll_cons r4
  obtain ⟨rfl, rfl, rfl⟩ := trodAll_nil r5
  obtain rfl : args = #[u0, u1, u2, u3, u4, u5] := by cases args; simp_all
  obtain ⟨rfl, rfl⟩ := trodVars_none hV
  obtain ⟨v0, rep0⟩ := arg_span k0 (hval 0 23 u0 rfl rfl)
  obtain ⟨v1, rep1⟩ := arg_span k1 (hval 1 23 u1 rfl rfl)
  obtain ⟨e2, rep2, v2, se2, h2⟩ := arg_one (Opn.int Try.underlying24) k2 (by obtain ⟨z, rfl, _⟩ := open_int Try.underlying24 (hval 2 24 u2 rfl rfl) k2; rfl) fun ds ⟨v, e, _⟩ => ⟨_, e⟩
  obtain rfl : e2 = _ := by simpa using se2
  obtain ⟨e3, rep3, v3, se3, h3⟩ := arg_one (Opn.int Try.underlying24) k3 (by obtain ⟨z, rfl, _⟩ := open_int Try.underlying24 (hval 3 24 u3 rfl rfl) k3; rfl) fun ds ⟨v, e, _⟩ => ⟨_, e⟩
  obtain rfl : e3 = _ := by simpa using se3
  obtain ⟨e4, rep4, v4, se4, h4⟩ := arg_one (Opn.int Try.underlying24) k4 (by obtain ⟨z, rfl, _⟩ := open_int Try.underlying24 (hval 4 24 u4 rfl rfl) k4; rfl) fun ds ⟨v, e, _⟩ => ⟨_, e⟩
  obtain rfl : e4 = _ := by simpa using se4
  obtain ⟨e5, rep5, v5, se5, h5⟩ := arg_one (Opn.int Try.underlying24) k5 (by obtain ⟨z, rfl, _⟩ := open_int Try.underlying24 (hval 5 24 u5 rfl rfl) k5; rfl) fun ds ⟨v, e, _⟩ => ⟨_, e⟩
  obtain rfl : e5 = _ := by simpa using se5
  clear hA0 hval0
  simp only [List.append_nil] at hW' hlt hA2
  have hcall : Callable Try.prog 3 := ⟨Try.f3, Try.func3, rfl, rfl⟩
  refine (law_calls (args := #[u0, u1, u2, u3, u4, u5]) hcall (law_narrow v0 v1 _ _ _ _ (u64_of h2) (u64_of h3) (u64_of h4) (u64_of h5)) (by simp only [RepL]; exact ⟨_, _, rfl, rep0, _, _, rfl, rep1, _, _, rfl, rep2, _, _, rfl, rep3, _, _, rfl, rep4, _, _, rfl, rep5, rfl⟩)).mono fun e W' ⟨he, bel⟩ => ?_
  subst he
  exact ⟨_, rfl, _, _, _, [], _, [], hW', trodAll_mk1 (shut_bool Try.underlying4 _), trodAll_below (by kernel_rfl : laidOutB Try.prog = true) bel (by decide +kernel) hA2 hlt, rfl, bel.frame _, fun h => by cases h⟩

theorem over : Rows.spanNarrowRow.holds Try.pinned (OpenSpec.ofChange Rows.spanNarrowSpec) :=
  OpenClaim.holds_of_wide 3 Try.f3 rfl rfl rfl rfl rfl rfl rfl ⟨rfl, rfl, rfl, rfl, rfl⟩ rfl rfl rfl rfl rfl (by kernel_rfl) Try.func3 (by unfold joinedFacts; rw [word_enterP, word_liftsP, word_makeP]; kernel_rfl)
    (of_decide_eq_true (by kernel_rfl)) (by unfold Func.isWrapper; first | (rw [if_pos (by decide +kernel)]; kernel_rfl) | (rw [if_neg (by decide +kernel)]; exact ⟨rfl, rfl⟩))
    (fun os started H enc _ => lifted os started H enc)

/-- The given statement. -/
theorem proved : Rows.SpanNarrowSaid := over
#print axioms proved
end Go.Proofs.Ytjjpjgnoanfaoaa.lawSpanNarrow
