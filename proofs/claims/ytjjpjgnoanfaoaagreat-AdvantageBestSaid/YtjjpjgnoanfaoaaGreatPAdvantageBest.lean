import Derived.Test.YtjjpjgnoanfaoaaGreatPWPCMake
import Derived.Test.YtjjpjgnoanfaoaaGreatRows
import Derived.ProofKit
import Derived.OpenShut
import Derived.Lib.SmallJoins
import Derived.ChangeMaps5
/- Statement AdvantageBest over the program: the law returns true, for every input. -/
namespace Go.Proofs.YtjjpjgnoanfaoaaGreat.lawAdvantageBest
open Go.ChangeMaps Go.Proofs.YtjjpjgnoanfaoaaGreat Go.Proofs.YtjjpjgnoanfaoaaGreat.T Go.ChangeShapes Go.WideShapes Go.ChangeAt Go.RowKit Go.Joins

/-! The row's step, after the guide's template. -/
theorem own : ownKnob Tryz.prog.godebug = none := by kernel_rfl
set_option maxRecDepth 100000 in
theorem lifted (os : Os) (started : os.Started) (H : Type) (enc : TypeId × Value → H) :
    ReturnsInHanded {} Tryz.checked os 7 .any (Rows.advantageBestSpec.pre6 enc Tryz.prog Tryz.f7 Rows.advantageBestRow.domain false) (Rows.advantageBestSpec.post enc Tryz.prog Tryz.f7 false true false false) := by
  refine returnsInHanded_of_change (C := Tryz.checked) own started (by kernel_rfl) Tryz.func7
    (ChangeSpec.witness6 (enc := enc) (C := Tryz.checked) false ⟨#[], #[.slice none 0 0, .string ⟨#[]⟩], []⟩ 8 (by kernel_rfl) (by kernel_rfl) (by kernel_rfl) (by kernel_rfl)) ?_
  intro W base args ds gs before hval0 hW hcnd _
  have hval : ∀ (j : Nat) t v, Tryz.f7.params[j]? = some t → args[j]? = some v → Value.okWide Tryz.prog W .any base t v := hval0
  have hW' := hW
  have hlt := hW.lt
  obtain ⟨p, q, hA0, hV, rfl, hfz, hnd⟩ := hW
  have hA : DataW.TrodAll enc Tryz.prog W 0 (fun _ => true) true Tryz.f7.params.toList args.toList ds p := hA0
  have hA2 := hA
  rw [Tryz.params7] at hA hval hA2
  obtain ⟨u0, vs0, d0, ds0, p0, q0, hargs, rfl, rfl, k0, r0⟩ := trodAll_cons hA
  obtain ⟨u1, vs1, d1, ds1, p1, q1, rfl, rfl, rfl, k1, r1⟩ := trodAll_cons r0
  obtain ⟨rfl, rfl, rfl⟩ := trodAll_nil r1
  obtain rfl : args = #[u0, u1] := by cases args; simp_all
  obtain ⟨rfl, rfl⟩ := trodVars_none hV
  obtain ⟨e0, rep0, v0, se0, h0⟩ := arg_one (opn_syss) k0 (slice_one Tryz.underlying62 (hval 0 62 u0 rfl rfl)) fun ds ⟨v, e, _⟩ => ⟨_, e⟩
  obtain rfl : e0 = _ := by simpa using se0
  obtain ⟨e1, rep1, v1, se1, h1⟩ := arg_one (Opn.str Tryz.underlying9) k1 (by obtain ⟨z, rfl, _⟩ := open_string Tryz.underlying9 (hval 1 9 u1 rfl rfl) k1; rfl) fun ds ⟨v, e, _⟩ => ⟨_, e⟩
  obtain rfl : e1 = _ := by simpa using se1
  clear hA0 hval0
  simp only [List.append_nil] at hW' hlt hA2
  have hcall : Callable Tryz.prog 7 := ⟨Tryz.f7, Tryz.func7, rfl, rfl⟩
  refine (law_calls (args := #[u0, u1]) hcall (law_best13 v0 v1) (by simp only [RepL]; exact ⟨_, _, rfl, rep0, _, _, rfl, rep1, rfl⟩)).mono fun e W' ⟨he, bel⟩ => ?_
  subst he
  exact ⟨_, rfl, _, _, _, [], _, [], hW', trodAll_mk1 (shut_bool Tryz.underlying4 _), trodAll_below (by kernel_rfl : laidOutB Tryz.prog = true) bel (by decide +kernel) hA2 hlt, rfl, bel.frame _, fun h => by cases h⟩

theorem over : Rows.advantageBestRow.holds Tryz.pinned (OpenSpec.ofChange Rows.advantageBestSpec) :=
  OpenClaim.holds_of_wide 7 Tryz.f7 rfl rfl rfl rfl rfl rfl rfl ⟨rfl, rfl, rfl, rfl, rfl⟩ rfl rfl rfl rfl rfl (by kernel_rfl) Tryz.func7 (by unfold joinedFacts; rw [word_enterP, word_liftsP, word_makeP]; kernel_rfl)
    (of_decide_eq_true (by kernel_rfl)) (by unfold Func.isWrapper; first | (rw [if_pos (by decide +kernel)]; kernel_rfl) | (rw [if_neg (by decide +kernel)]; exact ⟨rfl, rfl⟩))
    (fun os started H enc _ => lifted os started H enc)

/-- The given statement. -/
theorem proved : Rows.AdvantageBestSaid := over
#print axioms proved
end Go.Proofs.YtjjpjgnoanfaoaaGreat.lawAdvantageBest

