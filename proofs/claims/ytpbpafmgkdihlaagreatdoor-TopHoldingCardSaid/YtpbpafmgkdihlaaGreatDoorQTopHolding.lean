/- For every system the law TopHolding returns true and leaves its argument as it was. Conditions: the three listed tables of the library read as the program's own text lays them (the card ties them to that text); nothing else. -/
import Derived.Test.YtpbpafmgkdihlaaGreatDoorQWPCMake
import Derived.Test.YtpbpafmgkdihlaaGreatDoorRows
import Derived.Test.YtpbpafmgkdihlaaGreatDoorTie
import Derived.Test.YtpbpafmgkdihlaaGreatDoorCards
import Derived.ProofKit
import Derived.OpenShut
import Derived.LaidMore
import Derived.MakeChecks
import Derived.SevenTiedAt
import Derived.Lib.LaidTab
import Derived.Stop.LaidErr
import Derived.Lib.SmallJoins
namespace Go.Proofs.YtpbpafmgkdihlaaGreatDoor.lawTopHolding
open Go.Proofs.YtpbpafmgkdihlaaGreatDoor Go.Proofs.YtpbpafmgkdihlaaGreatDoor.T Go.ChangeShapes Go.WideShapes Go.ChangeAt Go.RowKit Go.Joins
/-! What the listed table gives the walk. -/
theorem Yxg {W : World} {nm : String} (hg : Tryz.prog.globalNamed nm = some 2) (h : Lib.TabIs Tryz.prog W nm .u64 Lib.pow10Tab) : Cnd W := by
  unfold Lib.TabIs World.var? at h
  rw [hg] at h
  simp only [Option.bind_some] at h
  split at h
  · rename_i cs t x e
    simp only [Option.some.injEq] at h
    subst h
    exact ⟨t, x, e⟩
  · simp at h
theorem Yyu : (Rows.laid_internal_strconv_uint64pow10 : DataW Unit) = Lib.tabData .u64 Lib.pow10Tab := by kernel_rfl
theorem Y100 {W : World} (h : laidMetH Tryz.prog Rows.topHoldingRow.laid W) : Cnd W := by
  rw [MakeChecks.laidMetH_plain _ _ _ (by kernel_rfl)] at h
  have h3 := h.tail.tail
  rw [Yyu] at h3
  exact Yxg (by kernel_rfl) (Lib.tabIs_of_head (g := 2) (by kernel_rfl) (by kernel_rfl) Tryz.underlying229 Tryz.underlying75 (by kernel_rfl) (by kernel_rfl) h3)
/-- The door's own heap meets the condition. -/
theorem Yu5 (os : Os) (args : Array Value) : laidMetH Tryz.prog Rows.topHoldingRow.laid ((World.doorLaid Tryz.prog 400 os).forCall (fun _ _ => 0) ⟨#[], args, []⟩).memory :=
  laidMetH_of_parts3 (fuel := 8) (laidMet_of_run' 8 (by kernel_rfl) (by kernel_rfl)) (by kernel_rfl) (by kernel_rfl)
/-! The row's step, after the guide's template. -/
theorem own : ownKnob Tryz.prog.godebug = none := by kernel_rfl
set_option maxRecDepth 100000 in
theorem lifted (os : Os) (started : os.Started) (H : Type) (enc : TypeId × Value → H) :
    ReturnsInHanded {} Tryz.checked os 3 .any (fun w args => (Rows.topHoldingSpec.pre enc Tryz.prog Tryz.f3 [] false w args ∧ laidMetH Tryz.prog Rows.topHoldingRow.laid w) ∧ sizedMet enc Tryz.prog Tryz.f3 (OpenSpec.ofChange Rows.topHoldingSpec) false w args) (Rows.topHoldingSpec.post enc Tryz.prog Tryz.f3 false true false false) := by
  refine returnsInHanded_of_change_and (C := Tryz.checked) (X := fun w _ => laidMetH Tryz.prog Rows.topHoldingRow.laid w) (fun _ _ _ hh h => h.of_heap hh) own started (by kernel_rfl) Tryz.func3
    (ChangeSpec.witness_shaped (enc := enc) (C := Tryz.checked) (os := os) (X := fun w _ => laidMetH Tryz.prog Rows.topHoldingRow.laid w) false (World.doorLaid Tryz.prog 400 os) #[.agg #[.slice none 0 0, .slice none 0 0]] 8 rfl (World.shaped_of_RefB (by kernel_rfl) (by kernel_rfl)) (by kernel_rfl) (by kernel_rfl) (by kernel_rfl) (Yu5 os _)) ?_
  intro W base args ds gs before hval0 hW hcnd _ hL _
  have hval : ∀ (j : Nat) t v, Tryz.f3.params[j]? = some t → args[j]? = some v → Value.okWide Tryz.prog W .any base t v := hval0
  have hW' := hW
  have hlt := hW.lt
  obtain ⟨p, q, hA0, hV, rfl, hfz, hnd⟩ := hW
  have hA : DataW.TrodAll enc Tryz.prog W 0 (fun _ => true) true Tryz.f3.params.toList args.toList ds p := hA0
  have hA2 := hA
  rw [Tryz.params3] at hA hval hA2
  obtain ⟨u0, vs0, d0, ds0, p0, q0, hargs, rfl, rfl, k0, r0⟩ := trodAll_cons hA
  obtain ⟨rfl, rfl, rfl⟩ := trodAll_nil r0
  obtain rfl : args = #[u0] := by cases args; simp_all
  obtain ⟨rfl, rfl⟩ := trodVars_none hV
  obtain ⟨v0, rep0⟩ := Yxw k0 (hval 0 25 u0 rfl rfl)
  clear hA0 hval0
  simp only [List.append_nil] at hW' hlt hA2
  have hcall : Y5b Tryz.prog 3 := ⟨Tryz.f3, Tryz.func3, rfl, rfl⟩
  refine (Ypl (args := #[u0]) (Y100 hL) hcall (Yky v0) (by simp only [RepL]; exact ⟨_, _, rfl, rep0, rfl⟩)).mono fun e W' ⟨he, bel⟩ => ?_
  subst he
  exact ⟨_, rfl, _, _, _, [], _, [], hW', trodAll_mk1 (shut_bool Tryz.underlying4 _), Y76 (by kernel_rfl : laidOutB Tryz.prog = true) bel (by decide +kernel) hA2 hlt, rfl, bel.frame _, fun h => by cases h⟩
theorem over : Rows.topHoldingRow.holds Tryz.pinned (OpenSpec.ofChange Rows.topHoldingSpec) :=
  OpenClaim.holds_of_wide 3 Tryz.f3 rfl rfl rfl rfl rfl rfl rfl ⟨rfl, rfl, rfl, rfl, rfl⟩ rfl rfl rfl rfl rfl (by kernel_rfl) Tryz.func3 (by unfold joinedFacts; rw [Ygz, Ygx, Ykr]; kernel_rfl)
    (of_decide_eq_true (by kernel_rfl)) (by unfold Func.isWrapper; first | (rw [if_pos (by decide +kernel)]; kernel_rfl) | (rw [if_neg (by decide +kernel)]; exact ⟨rfl, rfl⟩))
    (fun os started H enc _ => lifted os started H enc)
/-- The row's statement. -/
theorem Y10d : Rows.TopHoldingSaid := over
/-- The given statement: the tied card. -/
theorem proved : Rows.TopHoldingCardSaid :=
  Claim7.holds_tied_plain_at .later [] [.data, .data, .data] true (true, "8b69e65bb4c9f267c5a81c09863b1f094e290ff8de4062d099df6c7e2a6b9b43") true
    Y10d (fun _ h => by cases h) (by kernel_rfl) (fun _ h => by cases h) topHolding_row_tie rfl ⟨rfl, rfl⟩ (by kernel_rfl) rfl
    (fun f fn hf hfn => by
      obtain rfl : f = 3 := Option.some.inj ((show Tryz.prog.funcNamed Rows.topHoldingRow.func = some 3 by kernel_rfl).symm.trans hf) |>.symm
      obtain rfl : fn = Tryz.f3 := (Option.some.inj (Tryz.func3.symm.trans hfn)).symm
      exact ⟨by kernel_rfl, fun j t ht => by
        rw [Tryz.params3] at ht
        have hm : t ∈ [25] := by simpa using Array.mem_of_getElem? ht
        have hall : ([25].all fun u => !Tryz.prog.wantsStandIn u) = true := by kernel_rfl
        exact (show Tryz.prog.wantsStandIn t = false by simpa using List.all_eq_true.1 hall t hm)⟩)
    (by kernel_rfl)
#print axioms proved
end Go.Proofs.YtpbpafmgkdihlaaGreatDoor.lawTopHolding
