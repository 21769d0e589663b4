/- Statement GraphOpens over the program: the law returns true, for every input. -/
import Derived.Test.YtalhegbjlfkipaaGXO
import Derived.Test.YtalhegbjlfkipaaRowG
import Derived.Test.YtalhegbjlfkipaaMake
import Derived.Test.YtalhegbjlfkipaaRows
import Derived.ProofKit
import Derived.OpenShut
import Derived.Lib.SmallJoins
set_option linter.all false
namespace Go.Proofs.Ytalhegbjlfkipaa.lawGraphOpens
open Go.Proofs.Ytalhegbjlfkipaa Go.Proofs.Ytalhegbjlfkipaa.T Go.ChangeShapes Go.WideShapes Go.ChangeAt Go.RowKit Go.Joins

/-! The row's step, after the guide's template. -/
theorem own : ownKnob Try.prog.godebug = none := by kernel_rfl
set_option maxRecDepth 100000 in
theorem lifted (os : Os) (started : os.Started) (H : Type) (enc : TypeId × Value → H) :
    ReturnsInHanded {} Try.checked os 8 .any (Rows.graphOpensSpec.pre6 enc Try.prog Try.f8 Rows.graphOpensRow.domain false) (Rows.graphOpensSpec.post enc Try.prog Try.f8 false true false false) := by
  refine returnsInHanded_of_change (C := Try.checked) own started (by kernel_rfl) Try.func8
    (ChangeSpec.witness6 (enc := enc) (C := Try.checked) false ⟨#[], #[.int .i64 0, .slice none 0 0], []⟩ 8 (by kernel_rfl) (by kernel_rfl) (by kernel_rfl) (by kernel_rfl)) ?_
  intro W base args ds gs before hval0 hW hcnd _
  have hval : ∀ (j : Nat) t v, Try.f8.params[j]? = some t → args[j]? = some v → Value.okWide Try.prog W .any base t v := hval0
  have hW' := hW
  have hlt := hW.lt
  obtain ⟨p, q, hA0, hV, rfl, hfz, hnd⟩ := hW
  have hA : DataW.TrodAll enc Try.prog W 0 (fun _ => true) true Try.f8.params.toList args.toList ds p := hA0
  have hA2 := hA
  rw [Try.params8] at hA hval hA2
  obtain ⟨u0, vs0, d0, ds0, p0, q0, hargs, rfl, rfl, k0, r0⟩ := trodAll_cons hA
  obtain ⟨u1, vs1, d1, ds1, p1, q1, rfl, rfl, rfl, k1, r1⟩ := trodAll_cons r0
  obtain ⟨rfl, rfl, rfl⟩ := trodAll_nil r1
  obtain rfl : args = #[u0, u1] := by cases args; simp_all
  obtain ⟨rfl, rfl⟩ := trodVars_none hV
  obtain ⟨e0, rep0, v0, se0, h0⟩ := arg_one (Opn.int Try.underlying3) k0 (by obtain ⟨z, rfl, _⟩ := open_int Try.underlying3 (hval 0 3 u0 rfl rfl) k0; rfl) fun ds ⟨v, e, _⟩ => ⟨_, e⟩
  obtain rfl : e0 = _ := by simpa using se0
  obtain ⟨e1, rep1, v1, se1, h1⟩ := arg_one (opn_eds) k1 (slice_one Try.underlying22 (hval 1 22 u1 rfl rfl)) fun ds ⟨v, e, _⟩ => ⟨_, e⟩
  obtain rfl : e1 = _ := by simpa using se1
  clear hA0 hval0
  simp only [List.append_nil] at hW' hlt hA2
  have hcall : Callable Try.prog 8 := ⟨Try.f8, Try.func8, rfl, rfl⟩
  refine (law_calls (args := #[u0, u1]) hcall (law_opens v0 v1) (by simp only [RepL]; exact ⟨_, _, rfl, rep0, _, _, rfl, rep1, rfl⟩)).mono fun e W' ⟨he, bel⟩ => ?_
  subst he
  exact ⟨_, rfl, _, _, _, [], _, [], hW', trodAll_mk1 (shut_bool Try.underlying4 _), trodAll_below (by kernel_rfl : laidOutB Try.prog = true) bel (by decide +kernel) hA2 hlt, rfl, bel.frame _, fun h => by cases h⟩

theorem over : Rows.graphOpensRow.holds Try.pinned (OpenSpec.ofChange Rows.graphOpensSpec) :=
  OpenClaim.holds_of_wide 8 Try.f8 rfl rfl rfl rfl rfl rfl rfl ⟨rfl, rfl, rfl, rfl, rfl⟩ rfl rfl rfl rfl rfl (by kernel_rfl) Try.func8 (by unfold joinedFacts; rw [word_enterP, word_liftsP, word_makeP]; kernel_rfl)
    (of_decide_eq_true (by kernel_rfl)) (by unfold Func.isWrapper; first | (rw [if_pos (by decide +kernel)]; kernel_rfl) | (rw [if_neg (by decide +kernel)]; exact ⟨rfl, rfl⟩))
    (fun os started H enc _ => lifted os started H enc)

/-- The given statement. -/
theorem proved : Rows.GraphOpensSaid := over
#print axioms proved
end Go.Proofs.Ytalhegbjlfkipaa.lawGraphOpens
