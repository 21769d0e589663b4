/- Statement LossesOrder over the program: the law returns true, for every input. -/
import Derived.Test.YtcppnmohgaobdaaGreatRAWLMake
import Derived.Test.YtcppnmohgaobdaaGreatRows
import Derived.ProofKit
import Derived.OpenShut
import Derived.Lib.SmallJoins
set_option linter.all false
namespace Go.Proofs.YtcppnmohgaobdaaGreat.lawLossesOrder
open Go.Proofs.YtcppnmohgaobdaaGreat Go.Proofs.YtcppnmohgaobdaaGreat.T Go.ChangeShapes Go.WideShapes Go.ChangeAt Go.RowKit Go.Joins

/-! The row's step, after the guide's template. -/
theorem own : ownKnob Tryz.prog.godebug = none := by kernel_rfl
set_option maxRecDepth 100000 in
theorem lifted (os : Os) (started : os.Started) (H : Type) (enc : TypeId × Value → H) :
    ReturnsInHanded {} Tryz.checked os 3 .any (Rows.lossesOrderSpec.pre6 enc Tryz.prog Tryz.f3 Rows.lossesOrderRow.domain false) (Rows.lossesOrderSpec.post enc Tryz.prog Tryz.f3 false true false false) := by
  refine returnsInHanded_of_change (C := Tryz.checked) own started (by kernel_rfl) Tryz.func3
    (ChangeSpec.witness6 (enc := enc) (C := Tryz.checked) false ⟨#[], #[.agg #[.slice none 0 0, .slice none 0 0], .int .u8 0, .agg #[.int .i64 0, .int .i64 0]], []⟩ 8 (by kernel_rfl) (by kernel_rfl) (by kernel_rfl) (by kernel_rfl)) ?_
  intro W base args ds gs before hval0 hW hcnd _
  have hval : ∀ (j : Nat) t v, Tryz.f3.params[j]? = some t → args[j]? = some v → Value.okWide Tryz.prog W .any base t v := hval0
  have hW' := hW
  have hlt := hW.lt
  obtain ⟨p, q, hA0, hV, rfl, hfz, hnd⟩ := hW
  have hA : DataW.TrodAll enc Tryz.prog W 0 (fun _ => true) true Tryz.f3.params.toList args.toList ds p := hA0
  have hA2 := hA
  rw [Tryz.params3] at hA hval hA2
  obtain ⟨u0, vs0, d0, ds0, p0, q0, hargs, rfl, rfl, k0, r0⟩ := trodAll_cons hA
  obtain ⟨u1, vs1, d1, ds1, p1, q1, rfl, rfl, rfl, k1, r1⟩ := trodAll_cons r0
  obtain ⟨u2, vs2, d2, ds2, p2, q2, rfl, rfl, rfl, k2, r2⟩ := trodAll_cons r1
  obtain ⟨rfl, rfl, rfl⟩ := trodAll_nil r2
  obtain rfl : args = #[u0, u1, u2] := by cases args; simp_all
  obtain ⟨rfl, rfl⟩ := trodVars_none hV
  obtain ⟨v0, rep0⟩ := arg_sys k0 (hval 0 25 u0 rfl rfl)
  obtain ⟨e1, rep1, v1, se1, h1⟩ := arg_one (Opn.int Tryz.underlying5) k1 (by obtain ⟨z, rfl, _⟩ := open_int Tryz.underlying5 (hval 1 5 u1 rfl rfl) k1; rfl) fun ds ⟨v, e, _⟩ => ⟨_, e⟩
  obtain rfl : e1 = _ := by simpa using se1
  obtain ⟨v2, rep2⟩ := arg_frac k2 (hval 2 27 u2 rfl rfl)
  clear hA0 hval0
  simp only [List.append_nil] at hW' hlt hA2
  have hcall : Callable Tryz.prog 3 := ⟨Tryz.f3, Tryz.func3, rfl, rfl⟩
  refine (law_calls (args := #[u0, u1, u2]) hcall (law_order14 v0 _ (u8_of h1) v2) (by simp only [RepL]; exact ⟨_, _, rfl, rep0, _, _, rfl, rep1, _, _, rfl, rep2, rfl⟩)).mono fun e W' ⟨he, bel⟩ => ?_
  subst he
  exact ⟨_, rfl, _, _, _, [], _, [], hW', trodAll_mk1 (shut_bool Tryz.underlying4 _), trodAll_below (by kernel_rfl : laidOutB Tryz.prog = true) bel (by decide +kernel) hA2 hlt, rfl, bel.frame _, fun h => by cases h⟩

theorem over : Rows.lossesOrderRow.holds Tryz.pinned (OpenSpec.ofChange Rows.lossesOrderSpec) :=
  OpenClaim.holds_of_wide 3 Tryz.f3 rfl rfl rfl rfl rfl rfl rfl ⟨rfl, rfl, rfl, rfl, rfl⟩ rfl rfl rfl rfl rfl (by kernel_rfl) Tryz.func3 (by unfold joinedFacts; rw [word_enterP, word_liftsP, word_makeP]; kernel_rfl)
    (of_decide_eq_true (by kernel_rfl)) (by unfold Func.isWrapper; first | (rw [if_pos (by decide +kernel)]; kernel_rfl) | (rw [if_neg (by decide +kernel)]; exact ⟨rfl, rfl⟩))
    (fun os started H enc _ => lifted os started H enc)

/-- The given statement. -/
theorem proved : Rows.LossesOrderSaid := over
#print axioms proved
end Go.Proofs.YtcppnmohgaobdaaGreat.lawLossesOrder
