/- Statement MotionChecks over the program: the law returns true, for every input. -/
import Derived.Test.YtifmgjieplmbnaaGreatMT
import Derived.Test.YtifmgjieplmbnaaGreatRowS
import Derived.Test.YtifmgjieplmbnaaGreatMake
import Derived.Test.YtifmgjieplmbnaaGreatRows
import Derived.ProofKit
import Derived.OpenShut
import Derived.Lib.SmallJoins
set_option linter.all false
namespace Go.Proofs.YtifmgjieplmbnaaGreat.lawMotionChecks
open Go.Proofs.YtifmgjieplmbnaaGreat Go.Proofs.YtifmgjieplmbnaaGreat.T Go.ChangeShapes Go.WideShapes Go.ChangeAt Go.RowKit Go.Joins

/-! The row's step, after the guide's template. -/
theorem own : ownKnob Tryz.prog.godebug = none := by kernel_rfl
set_option maxRecDepth 100000 in
theorem lifted (os : Os) (started : os.Started) (H : Type) (enc : TypeId × Value → H) :
    ReturnsInHanded {} Tryz.checked os 6 .any (Rows.motionChecksSpec.pre6 enc Tryz.prog Tryz.f6 Rows.motionChecksRow.domain false) (Rows.motionChecksSpec.post enc Tryz.prog Tryz.f6 false true false false) := by
  refine returnsInHanded_of_change (C := Tryz.checked) own started (by kernel_rfl) Tryz.func6
    (ChangeSpec.witness6 (enc := enc) (C := Tryz.checked) false ⟨#[], #[.agg #[.slice none 0 0, .slice none 0 0], .slice none 0 0, .slice none 0 0, .slice none 0 0], []⟩ 8 (by kernel_rfl) (by kernel_rfl) (by kernel_rfl) (by kernel_rfl)) ?_
  intro W base args ds gs before hval0 hW hcnd _
  have hval : ∀ (j : Nat) t v, Tryz.f6.params[j]? = some t → args[j]? = some v → Value.okWide Tryz.prog W .any base t v := hval0
  have hW' := hW
  have hlt := hW.lt
  obtain ⟨p, q, hA0, hV, rfl, hfz, hnd⟩ := hW
  have hA : DataW.TrodAll enc Tryz.prog W 0 (fun _ => true) true Tryz.f6.params.toList args.toList ds p := hA0
  have hA2 := hA
  rw [Tryz.params6] at hA hval hA2
  obtain ⟨u0, vs0, d0, ds0, p0, q0, hargs, rfl, rfl, k0, r0⟩ := trodAll_cons hA
  obtain ⟨u1, vs1, d1, ds1, p1, q1, rfl, rfl, rfl, k1, r1⟩ := trodAll_cons r0
  obtain ⟨u2, vs2, d2, ds2, p2, q2, rfl, rfl, rfl, k2, r2⟩ := trodAll_cons r1
  obtain ⟨u3, vs3, d3, ds3, p3, q3, rfl, rfl, rfl, k3, r3⟩ := trodAll_cons r2
  obtain ⟨rfl, rfl, rfl⟩ := trodAll_nil r3
  obtain rfl : args = #[u0, u1, u2, u3] := by cases args; simp_all
  obtain ⟨rfl, rfl⟩ := trodVars_none hV
  obtain ⟨v0, rep0⟩ := arg_sys k0 (hval 0 25 u0 rfl rfl)
  obtain ⟨e1, rep1, v1, se1, h1⟩ := arg_one (opn_ints) k1 (slice_one Tryz.underlying59 (hval 1 59 u1 rfl rfl)) fun ds ⟨v, e, _⟩ => ⟨_, e⟩
  obtain rfl : e1 = _ := by simpa using se1
  obtain ⟨e2, rep2, v2, se2, h2⟩ := arg_one (opn_ints) k2 (slice_one Tryz.underlying59 (hval 2 59 u2 rfl rfl)) fun ds ⟨v, e, _⟩ => ⟨_, e⟩
  obtain rfl : e2 = _ := by simpa using se2
  obtain ⟨e3, rep3, v3, se3, h3⟩ := arg_one (opn_fracs) k3 (slice_one Tryz.underlying40 (hval 3 40 u3 rfl rfl)) fun ds ⟨v, e, _⟩ => ⟨_, e⟩
  obtain rfl : e3 = _ := by simpa using se3
  clear hA0 hval0
  simp only [List.append_nil] at hW' hlt hA2
  have hcall : Callable Tryz.prog 6 := ⟨Tryz.f6, Tryz.func6, rfl, rfl⟩
  refine (law_calls (args := #[u0, u1, u2, u3]) hcall (law_checks12 v0 v1 v2 v3) (by simp only [RepL]; exact ⟨_, _, rfl, rep0, _, _, rfl, rep1, _, _, rfl, rep2, _, _, rfl, rep3, rfl⟩)).mono fun e W' ⟨he, bel⟩ => ?_
  subst he
  exact ⟨_, rfl, _, _, _, [], _, [], hW', trodAll_mk1 (shut_bool Tryz.underlying4 _), trodAll_below (by kernel_rfl : laidOutB Tryz.prog = true) bel (by decide +kernel) hA2 hlt, rfl, bel.frame _, fun h => by cases h⟩

theorem over : Rows.motionChecksRow.holds Tryz.pinned (OpenSpec.ofChange Rows.motionChecksSpec) :=
  OpenClaim.holds_of_wide 6 Tryz.f6 rfl rfl rfl rfl rfl rfl rfl ⟨rfl, rfl, rfl, rfl, rfl⟩ rfl rfl rfl rfl rfl (by kernel_rfl) Tryz.func6 (by unfold joinedFacts; rw [word_enterP, word_liftsP, word_makeP]; kernel_rfl)
    (of_decide_eq_true (by kernel_rfl)) (by unfold Func.isWrapper; first | (rw [if_pos (by decide +kernel)]; kernel_rfl) | (rw [if_neg (by decide +kernel)]; exact ⟨rfl, rfl⟩))
    (fun os started H enc _ => lifted os started H enc)

/-- The given statement. -/
theorem proved : Rows.MotionChecksSaid := over
#print axioms proved
end Go.Proofs.YtifmgjieplmbnaaGreat.lawMotionChecks
