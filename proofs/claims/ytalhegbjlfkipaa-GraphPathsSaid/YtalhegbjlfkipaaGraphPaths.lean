/- Statement GraphPaths over the program: the law returns true, for every input. -/
import Derived.Test.YtalhegbjlfkipaaGWY
import Derived.Test.YtalhegbjlfkipaaRowG
import Derived.Test.YtalhegbjlfkipaaMake
import Derived.Test.YtalhegbjlfkipaaRows
import Derived.ProofKit
import Derived.OpenShut
import Derived.Lib.SmallJoins
set_option linter.all false
namespace Go.Proofs.Ytalhegbjlfkipaa.lawGraphPaths
open Go.Proofs.Ytalhegbjlfkipaa Go.Proofs.Ytalhegbjlfkipaa.T Go.ChangeShapes Go.WideShapes Go.ChangeAt Go.RowKit Go.Joins

/-! The row's step, after the guide's template. -/
theorem own : ownKnob Try.prog.godebug = none := by kernel_rfl
set_option maxRecDepth 100000 in
theorem lifted (os : Os) (started : os.Started) (H : Type) (enc : TypeId × Value → H) :
    ReturnsInHanded {} Try.checked os 5 .any (Rows.graphPathsSpec.pre6 enc Try.prog Try.f5 Rows.graphPathsRow.domain false) (Rows.graphPathsSpec.post enc Try.prog Try.f5 false true false false) := by
  refine returnsInHanded_of_change (C := Try.checked) own started (by kernel_rfl) Try.func5
    (ChangeSpec.witness6 (enc := enc) (C := Try.checked) false ⟨#[], #[.int .i64 0, .slice none 0 0, .int .i64 0, .int .i64 0, .int .i64 0], []⟩ 8 (by kernel_rfl) (by kernel_rfl) (by kernel_rfl) (by kernel_rfl)) ?_
  intro W base args ds gs before hval0 hW hcnd _
  have hval : ∀ (j : Nat) t v, Try.f5.params[j]? = some t → args[j]? = some v → Value.okWide Try.prog W .any base t v := hval0
  have hW' := hW
  have hlt := hW.lt
  obtain ⟨p, q, hA0, hV, rfl, hfz, hnd⟩ := hW
  have hA : DataW.TrodAll enc Try.prog W 0 (fun _ => true) true Try.f5.params.toList args.toList ds p := hA0
  have hA2 := hA
  rw [Try.params5] at hA hval hA2
  obtain ⟨u0, vs0, d0, ds0, p0, q0, hargs, rfl, rfl, k0, r0⟩ := trodAll_cons hA
  obtain ⟨u1, vs1, d1, ds1, p1, q1, rfl, rfl, rfl, k1, r1⟩ := trodAll_cons r0
  obtain ⟨u2, vs2, d2, ds2, p2, q2, rfl, rfl, rfl, k2, r2⟩ := trodAll_cons r1
  obtain ⟨u3, vs3, d3, ds3, p3, q3, rfl, rfl, rfl, k3, r3⟩ := trodAll_cons r2
  obtain ⟨u4, vs4, d4, ds4, p4, q4, rfl, rfl, rfl, k4, r4⟩ := trodAll_cons r3
  obtain ⟨rfl, rfl, rfl⟩ := trodAll_nil r4
  obtain rfl : args = #[u0, u1, u2, u3, u4] := by cases args; simp_all
  obtain ⟨rfl, rfl⟩ := trodVars_none hV
  obtain ⟨e0, rep0, v0, se0, h0⟩ := arg_one (Opn.int Try.underlying3) k0 (by obtain ⟨z, rfl, _⟩ := open_int Try.underlying3 (hval 0 3 u0 rfl rfl) k0; rfl) fun ds ⟨v, e, _⟩ => ⟨_, e⟩
  obtain rfl : e0 = _ := by simpa using se0
  obtain ⟨e1, rep1, v1, se1, h1⟩ := arg_one (opn_eds) k1 (slice_one Try.underlying22 (hval 1 22 u1 rfl rfl)) fun ds ⟨v, e, _⟩ => ⟨_, e⟩
  obtain rfl : e1 = _ := by simpa using se1
  obtain ⟨e2, rep2, v2, se2, h2⟩ := arg_one (Opn.int Try.underlying3) k2 (by obtain ⟨z, rfl, _⟩ := open_int Try.underlying3 (hval 2 3 u2 rfl rfl) k2; rfl) fun ds ⟨v, e, _⟩ => ⟨_, e⟩
  obtain rfl : e2 = _ := by simpa using se2
  obtain ⟨e3, rep3, v3, se3, h3⟩ := arg_one (Opn.int Try.underlying3) k3 (by obtain ⟨z, rfl, _⟩ := open_int Try.underlying3 (hval 3 3 u3 rfl rfl) k3; rfl) fun ds ⟨v, e, _⟩ => ⟨_, e⟩
  obtain rfl : e3 = _ := by simpa using se3
  obtain ⟨e4, rep4, v4, se4, h4⟩ := arg_one (Opn.int Try.underlying3) k4 (by obtain ⟨z, rfl, _⟩ := open_int Try.underlying3 (hval 4 3 u4 rfl rfl) k4; rfl) fun ds ⟨v, e, _⟩ => ⟨_, e⟩
  obtain rfl : e4 = _ := by simpa using se4
  clear hA0 hval0
  simp only [List.append_nil] at hW' hlt hA2
  have hcall : Callable Try.prog 5 := ⟨Try.f5, Try.func5, rfl, rfl⟩
  refine (law_calls (args := #[u0, u1, u2, u3, u4]) hcall (law_paths v0 v1 v2 v3 v4) (by simp only [RepL]; exact ⟨_, _, rfl, rep0, _, _, rfl, rep1, _, _, rfl, rep2, _, _, rfl, rep3, _, _, rfl, rep4, rfl⟩)).mono fun e W' ⟨he, bel⟩ => ?_
  subst he
  exact ⟨_, rfl, _, _, _, [], _, [], hW', trodAll_mk1 (shut_bool Try.underlying4 _), trodAll_below (by kernel_rfl : laidOutB Try.prog = true) bel (by decide +kernel) hA2 hlt, rfl, bel.frame _, fun h => by cases h⟩

theorem over : Rows.graphPathsRow.holds Try.pinned (OpenSpec.ofChange Rows.graphPathsSpec) :=
  OpenClaim.holds_of_wide 5 Try.f5 rfl rfl rfl rfl rfl rfl rfl ⟨rfl, rfl, rfl, rfl, rfl⟩ rfl rfl rfl rfl rfl (by kernel_rfl) Try.func5 (by unfold joinedFacts; rw [word_enterP, word_liftsP, word_makeP]; kernel_rfl)
    (of_decide_eq_true (by kernel_rfl)) (by unfold Func.isWrapper; first | (rw [if_pos (by decide +kernel)]; kernel_rfl) | (rw [if_neg (by decide +kernel)]; exact ⟨rfl, rfl⟩))
    (fun os started H enc _ => lifted os started H enc)

/-- The given statement. -/
theorem proved : Rows.GraphPathsSaid := over
#print axioms proved
end Go.Proofs.Ytalhegbjlfkipaa.lawGraphPaths
