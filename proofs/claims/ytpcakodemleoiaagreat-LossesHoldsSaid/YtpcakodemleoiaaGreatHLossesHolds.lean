/- Statement LossesHolds over the program: the law returns true, for every input. -/
import Derived.Test.YtpcakodemleoiaaGreatHVUHMake
import Derived.Test.YtpcakodemleoiaaGreatRows
import Derived.ProofKit
import Derived.OpenShut
import Derived.Lib.SmallJoins
set_option linter.all false
namespace Go.Proofs.YtpcakodemleoiaaGreat.lawLossesHolds
open Go.Proofs.YtpcakodemleoiaaGreat Go.Proofs.YtpcakodemleoiaaGreat.T Go.ChangeShapes Go.WideShapes Go.ChangeAt Go.RowKit Go.Joins

/-! The row's step, after the guide's template. -/
theorem own : ownKnob Tryz.prog.godebug = none := by kernel_rfl
set_option maxRecDepth 100000 in
theorem lifted (os : Os) (started : os.Started) (H : Type) (enc : TypeId × Value → H) :
    ReturnsInHanded {} Tryz.checked os 6 .any (Rows.lossesHoldsSpec.pre6 enc Tryz.prog Tryz.f6 Rows.lossesHoldsRow.domain false) (Rows.lossesHoldsSpec.post enc Tryz.prog Tryz.f6 false true false false) := by
  refine returnsInHanded_of_change (C := Tryz.checked) own started (by kernel_rfl) Tryz.func6
    (ChangeSpec.witness6 (enc := enc) (C := Tryz.checked) false ⟨#[], #[.agg #[.slice none 0 0, .slice none 0 0], .agg #[.int .i64 0, .int .i64 0]], []⟩ 8 (by kernel_rfl) (by kernel_rfl) (by kernel_rfl) (by kernel_rfl)) ?_
  intro W base args ds gs before hval0 hW hcnd _
  have hval : ∀ (j : Nat) t v, Tryz.f6.params[j]? = some t → args[j]? = some v → Value.okWide Tryz.prog W .any base t v := hval0
  have hW' := hW
  have hlt := hW.lt
  obtain ⟨p, q, hA0, hV, rfl, hfz, hnd⟩ := hW
  have hA : DataW.TrodAll enc Tryz.prog W 0 (fun _ => true) true Tryz.f6.params.toList args.toList ds p := hA0
  have hA2 := hA
  rw [Tryz.params6] at hA hval hA2
  obtain ⟨u0, vs0, d0, ds0, p0, q0, hargs, rfl, rfl, k0, r0⟩ := trodAll_cons hA
  obtain ⟨u1, vs1, d1, ds1, p1, q1, rfl, rfl, rfl, k1, r1⟩ := trodAll_cons r0
  obtain ⟨rfl, rfl, rfl⟩ := trodAll_nil r1
  obtain rfl : args = #[u0, u1] := by cases args; simp_all
  obtain ⟨rfl, rfl⟩ := trodVars_none hV
  obtain ⟨v0, rep0⟩ := arg_sys k0 (hval 0 25 u0 rfl rfl)
  obtain ⟨v1, rep1⟩ := arg_frac k1 (hval 1 33 u1 rfl rfl)
  clear hA0 hval0
  simp only [List.append_nil] at hW' hlt hA2
  have hcall : Y4p Tryz.prog 6 := ⟨Tryz.f6, Tryz.func6, rfl, rfl⟩
  refine (law_calls (args := #[u0, u1]) hcall (law_holds14 v0 v1) (by simp only [RepL]; exact ⟨_, _, rfl, rep0, _, _, rfl, rep1, rfl⟩)).mono fun e W' ⟨he, bel⟩ => ?_
  subst he
  exact ⟨_, rfl, _, _, _, [], _, [], hW', trodAll_mk1 (shut_bool Tryz.underlying4 _), Y57 (by kernel_rfl : laidOutB Tryz.prog = true) bel (by decide +kernel) hA2 hlt, rfl, bel.frame _, fun h => by cases h⟩

theorem over : Rows.lossesHoldsRow.holds Tryz.pinned (OpenSpec.ofChange Rows.lossesHoldsSpec) :=
  OpenClaim.holds_of_wide 6 Tryz.f6 rfl rfl rfl rfl rfl rfl rfl ⟨rfl, rfl, rfl, rfl, rfl⟩ rfl rfl rfl rfl rfl (by kernel_rfl) Tryz.func6 (by unfold joinedFacts; rw [word_enterP, word_liftsP, word_makeP]; kernel_rfl)
    (of_decide_eq_true (by kernel_rfl)) (by unfold Func.isWrapper; first | (rw [if_pos (by decide +kernel)]; kernel_rfl) | (rw [if_neg (by decide +kernel)]; exact ⟨rfl, rfl⟩))
    (fun os started H enc _ => lifted os started H enc)

/-- The given statement. -/
theorem proved : Rows.LossesHoldsSaid := over
#print axioms proved
end Go.Proofs.YtpcakodemleoiaaGreat.lawLossesHolds
