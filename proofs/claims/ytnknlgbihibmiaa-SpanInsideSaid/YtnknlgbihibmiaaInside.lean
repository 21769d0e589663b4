/- Statement SpanInside of chapter 3: results for numbers of two spans lie in the spans of the results, for all spans and numbers. No condition. -/
import Derived.Test.YtnknlgbihibmiaaRows
import Derived.Test.YtnknlgbihibmiaaInsideV
import Derived.ProofKit
import Derived.OpenShut
import Derived.Lib.SmallJoins
namespace Go.Proofs.Ytnknlgbihibmiaa.lawSpanInside
open Go.Proofs.Ytnknlgbihibmiaa Go.Proofs.Ytnknlgbihibmiaa.lawSpanSums Go.ChangeShapes Go.WideShapes Go.ChangeAt Go.RowKit Go.Joins

set_option maxRecDepth 100000 in
set_option maxHeartbeats 4000000 in
theorem walk_bad (a b c d i k : Int) (v1 v2 : Bool) (hv : v1 = true ∧ v2 = false ∨ v1 = false ∧ v2 = true ∨ v1 = false ∧ v2 = false) (HA : Hid (vspan a b = v1)) (HC : Hid (vspan c d = v2)) (w : World) : Calls Try.prog 6 #[.agg #[.int .i64 a, .int .i64 b], .agg #[.int .i64 c, .int .i64 d], .int .u64 i, .int .u64 k] w fun e w' => e = .returned (.bool true) ∧ Below w.heap.size w w' := by
  rcases hv with ⟨rfl, rfl⟩ | ⟨rfl, rfl⟩ | ⟨rfl, rfl⟩
  all_goals
    go_enter Try.func6, Try.ntmps6
    go_wp2_with fail
    with_reducible refine (law_awake _).mono ?_; rintro e w1 ⟨rfl, hb⟩; have L1 := Live.step (Live.alloc2 _ _ _ (Live.alloc2 _ _ _ (Live.start w))) hb; clear hb; (try simp only [World.size_alloc] at L1); have B := Live.below L1; obtain ⟨⟨s1, c10⟩, Ra1⟩ := Live.head L1; obtain ⟨⟨-, c11⟩, Rb1⟩ := Live.head Ra1; clear Ra1; obtain ⟨⟨s2, c20⟩, Ra2⟩ := Live.head Rb1; obtain ⟨⟨-, c21⟩, Rb2⟩ := Live.head Ra2; clear Ra2 Rb1; clear Rb2
    go_wp2_with fail
    with_reducible refine (ref_ValidV _ _ _ HA _).mono ?_; rintro e w2 ⟨rfl, hb⟩; have L2 := Live.step (L1) hb; clear hb B L1 s1 c10 c11 s2 c20 c21; (try simp only [World.size_alloc, World.size_setCell, World.size_drew, World.heap_drewN] at L2); have B := Live.below L2; obtain ⟨⟨s1, c10⟩, Ra1⟩ := Live.head L2; obtain ⟨⟨-, c11⟩, Rb1⟩ := Live.head Ra1; clear Ra1; obtain ⟨⟨s2, c20⟩, Ra2⟩ := Live.head Rb1; obtain ⟨⟨-, c21⟩, Rb2⟩ := Live.head Ra2; clear Ra2 Rb1; clear Rb2
    go_wp2_with (go_at_call 14; with_reducible refine (ref_ValidV _ _ _ HC _).mono ?_; rintro e w1 ⟨rfl, hb⟩; (first | (have L := Live.step ‹Live w _ _› hb) | (have L := Live.step (Live.alloc2 _ _ _ ‹Live w _ _›) hb) | (have L := Live.step (Live.alloc2 _ _ _ (Live.alloc2 _ _ _ ‹Live w _ _›)) hb)); clear hb; (try simp only [World.size_alloc, World.size_setCell, World.size_drew, World.heap_drewN] at L); have B := Live.below L; have F := Live.all L; simp only [AllC, and_true] at F)
    go_ret
    exact ⟨rfl, by (repeat' (first | (with_reducible exact Below.refl _ _) | (with_reducible assumption) | (with_reducible refine Below.alloc ?_ ?_ _) | (with_reducible refine Below.drew ?_) | (with_reducible refine bdrewN ?_ _) | (with_reducible refine Below.setCell ?_ ?_ _) | go_size))⟩

theorem hasS_of {a b n : Int} (h1 : a ≤ n) (h2 : n ≤ b) : hasS a b n = true := by simp [hasS, h1, h2]

theorem valid_all (a b c d i k : Int) (HA : vspan a b = true) (HC : vspan c d = true) (hi1 : 0 ≤ i) (hi2 : i ≤ 18446744073709551615) (hk1 : 0 ≤ k) (hk2 : k ≤ 18446744073709551615) (w : World) : Calls Try.prog 6 #[.agg #[.int .i64 a, .int .i64 b], .agg #[.int .i64 c, .int .i64 d], .int .u64 i, .int .u64 k] w fun e w' => e = .returned (.bool true) ∧ Below w.heap.size w w' := by
  obtain ⟨b1, b2, b3⟩ := vspan_bounds HA; obtain ⟨c1, c2, c3⟩ := vspan_bounds HC
  obtain ⟨X, hX⟩ : ∃ X, atS a b i = X := ⟨_, rfl⟩
  obtain ⟨Y, hY⟩ : ∃ Y, atS c d k = Y := ⟨_, rfl⟩
  have ix := atS_in (n := i) b2; have iy := atS_in (n := k) c2
  rw [hX] at ix; rw [hY] at iy
  obtain ⟨u0, u1, u2, HS⟩ : ∃ x y z, addS a b c d = (x, y, z) := ⟨_, _, _, rfl⟩
  obtain ⟨d0, d1, d2, HD⟩ : ∃ x y z, subS a b c d = (x, y, z) := ⟨_, _, _, rfl⟩
  obtain ⟨p0, p1, p2, HP⟩ : ∃ x y z, mulS a b c d = (x, y, z) := ⟨_, _, _, rfl⟩
  obtain ⟨q0, q1, q2, HQ⟩ : ∃ x y z, divS a b c d = (x, y, z) := ⟨_, _, _, rfl⟩
  have hp : p2 = 5 ∨ p2 = 0 ∧ pok X Y = true ∧ hasS p0 p1 (pv X Y) = true := by
    rcases mulS_ok HA HC HP with ⟨h, -⟩ | ⟨h, k1, k2, k3, k4, e0, e1⟩
    · exact .inl h
    · rw [pok_iff] at k1 k2 k3 k4
      have m := mul_inside (m := p0) (M := p1) ix.1 ix.2 iy.1 iy.2 (by omega) (by omega) (by omega) (by omega) (by omega) (by omega) (by omega) (by omega)
      have o : pok X Y = true := (pok_iff X Y).2 (by omega)
      exact .inr ⟨h, o, hasS_of (by rw [pv_mul o]; exact m.1) (by rw [pv_mul o]; exact m.2)⟩
  have hq : q2 = 16 ∧ hasS c d 0 = true ∨ q2 = 0 ∧ hasS c d 0 = false ∧ (0 < c ∨ d < 0) ∧ q0 ≤ floD X Y ∧ ceiD X Y ≤ q1 := by
    rcases divS_ok HA HC HQ with h | ⟨h, h0, h1, e0, e1⟩
    · exact .inl h
    · have m := div_inside (m := q0) (M := q1) b1 ix.1 ix.2 b3 iy.1 iy.2 h1 (by omega) (by omega) (by omega) (by omega) (by omega) (by omega) (by omega) (by omega)
      exact .inr ⟨h, h0, h1, m.1, m.2⟩
  refine walk_valid a b c d i k X Y u0 u1 u2 d0 d1 d2 p0 p1 p2 q0 q1 q2 (Lib.hid HA) (Lib.hid HC) (Lib.hid HS) (Lib.hid HD) (Lib.hid HP) (Lib.hid HQ) (Lib.hid fun w => law_at a b i X (Lib.hid HA) hi1 hi2 (Lib.hid hX) w) (Lib.hid fun w => law_at c d k Y (Lib.hid HC) hk1 hk2 (Lib.hid hY) w)
    (by omega) (by omega) (by omega) (by omega) (Lib.hid ?_) (Lib.hid ?_) (Lib.hid ?_) (Lib.hid ?_) (Lib.hid ?_) (Lib.hid ?_) (Lib.hid ?_) w
  · rcases addS_ok HA HC HS with ⟨h, -⟩ | ⟨h, -, -, e0, e1⟩
    · exact .inl h
    · exact .inr ⟨h, Lib.hid (hasS_of (by omega) (by omega))⟩
  · rcases subS_ok HA HC HD with ⟨h, -⟩ | ⟨h, -, -, e0, e1⟩
    · exact .inl h
    · exact .inr ⟨h, Lib.hid (hasS_of (by omega) (by omega))⟩
  · rcases hp with h | ⟨h, -, o⟩
    · exact .inl h
    · exact .inr ⟨h, Lib.hid o⟩
  · intro h0 w
    rcases hp with h | ⟨h, o, -⟩
    · omega
    · have e := ref_Part X Y 1 false (by omega) (by omega) (by omega) (by omega) (by omega) (by omega) (by omega) w
      have e2 : (partS X Y 1 false).2 = true := o
      rw [e2] at e
      exact e
  · rcases hq with ⟨h, o⟩ | ⟨h, o, -, e⟩
    · exact .inl ⟨h, Lib.hid o⟩
    · exact .inr ⟨h, Lib.hid o, e⟩
  · intro h0 w
    rcases hq with ⟨h, o⟩ | ⟨h, o, h1, e⟩
    · omega
    · exact ref_Floor X Y (by omega) (by omega) (by omega) (by omega) (by omega) w
  · intro h0 w
    rcases hq with ⟨h, o⟩ | ⟨h, o, h1, e⟩
    · omega
    · exact ref_Ceil X Y (by omega) (by omega) (by omega) (by omega) (by omega) w

theorem spanInside_walk (a b c d i k : Int) (_ha : (Lit.int .i64 a).wf = true) (_hb : (Lit.int .i64 b).wf = true) (_hc : (Lit.int .i64 c).wf = true) (_hd : (Lit.int .i64 d).wf = true) (hi : (Lit.int .u64 i).wf = true) (hk : (Lit.int .u64 k).wf = true) (w : World) : Calls Try.prog 6 #[.agg #[.int .i64 a, .int .i64 b], .agg #[.int .i64 c, .int .i64 d], .int .u64 i, .int .u64 k] w fun e w' => e = .returned (.bool true) ∧ Below w.heap.size w w' := by
  have ii : 0 ≤ i ∧ i ≤ 18446744073709551615 := by simp [Lit.wf] at hi; have e1 : IntKind.u64.min = 0 := rfl; have e2 : IntKind.u64.max = 18446744073709551615 := rfl; omega
  have kk : 0 ≤ k ∧ k ≤ 18446744073709551615 := by simp [Lit.wf] at hk; have e1 : IntKind.u64.min = 0 := rfl; have e2 : IntKind.u64.max = 18446744073709551615 := rfl; omega
  cases h1 : vspan a b <;> cases h2 : vspan c d
  · exact walk_bad a b c d i k false false (by simp) (Lib.hid h1) (Lib.hid h2) w
  · exact walk_bad a b c d i k false true (by simp) (Lib.hid h1) (Lib.hid h2) w
  · exact walk_bad a b c d i k true false (by simp) (Lib.hid h1) (Lib.hid h2) w
  · exact valid_all a b c d i k h1 h2 ii.1 ii.2 kk.1 kk.2 w

/-! The row's step, after the guide's template. -/
theorem own : ownKnob Try.prog.godebug = none := by kernel_rfl

theorem cellsS : Try.prog.cellsOf 23 = 2 := by kernel_rfl
set_option maxRecDepth 100000 in
theorem lifted (os : Os) (started : os.Started) (H : Type) (enc : TypeId × Value → H) :
    ReturnsInHanded {} Try.checked os 6 .any (Rows.spanInsideSpec.pre6 enc Try.prog Try.f6 Rows.spanInsideRow.domain false) (Rows.spanInsideSpec.post enc Try.prog Try.f6 false true false false) := by
  refine returnsInHanded_of_change (C := Try.checked) own started (by kernel_rfl) Try.func6
    (ChangeSpec.witness6 (enc := enc) (C := Try.checked) false ⟨#[], #[.agg #[.int .i64 0, .int .i64 0], .agg #[.int .i64 0, .int .i64 0], .int .u64 0, .int .u64 0], []⟩ 8 (by kernel_rfl) (by kernel_rfl) (by kernel_rfl) (by kernel_rfl)) ?_
  intro W base args ds gs before hval0 hW hcnd _
  have hval : ∀ (j : Nat) t v, Try.f6.params[j]? = some t → args[j]? = some v → Value.okWide Try.prog W .any base t v := hval0
  have hW' := hW
  obtain ⟨p, q, hA0, hV, rfl, hfz, hnd⟩ := hW
  have hA : DataW.TrodAll enc Try.prog W 0 (fun _ => true) true Try.f6.params.toList args.toList ds p := hA0
  rw [Try.params6] at hA hval
  obtain ⟨v0, vs0, d0, ds0, p0, q0, hargs, rfl, rfl, h0, r0⟩ := trodAll_cons hA
  obtain ⟨v1, vs1, d1, ds1, p1, q1, rfl, rfl, rfl, h1, r1⟩ := trodAll_cons r0
  obtain ⟨v2, vs2, d2, ds2, p2, q2, rfl, rfl, rfl, h2, r2⟩ := trodAll_cons r1
  obtain ⟨v3, vs3, d3, ds3, p3, q3, rfl, rfl, rfl, h3, r3⟩ := trodAll_cons r2
  obtain ⟨rfl, rfl, rfl⟩ := trodAll_nil r3
  obtain rfl : args = #[v0, v1, v2, v3] := by cases args; simp_all
  obtain ⟨rfl, rfl⟩ := trodVars_none hV
  obtain ⟨x0, y0, z0, t0, n0, rfl, rfl, rfl, hx0, hy0⟩ := open_agg2 Try.underlying23 (by kernel_rfl) cellsS (hval 0 23 v0 rfl rfl) h0
  obtain ⟨a0, ea0, rfl, wa0⟩ := DataW.trod_int Try.underlying3 hx0
  obtain ⟨b0, eb0, rfl, wb0⟩ := DataW.trod_int Try.underlying3 hy0
  simp at ea0 eb0
  subst ea0 eb0
  obtain ⟨x1, y1, z1, t1, n1, rfl, rfl, rfl, hx1, hy1⟩ := open_agg2 Try.underlying23 (by kernel_rfl) cellsS (hval 1 23 v1 rfl rfl) h1
  obtain ⟨a1, ea1, rfl, wa1⟩ := DataW.trod_int Try.underlying3 hx1
  obtain ⟨b1, eb1, rfl, wb1⟩ := DataW.trod_int Try.underlying3 hy1
  simp at ea1 eb1
  subst ea1 eb1
  obtain ⟨a2, rfl, rfl, rfl, wa2⟩ := open_int Try.underlying43 (hval 2 43 v2 rfl rfl) h2
  obtain ⟨a3, rfl, rfl, rfl, wa3⟩ := open_int Try.underlying43 (hval 3 43 v3 rfl rfl) h3
  clear hA0 hval0
  simp only [List.append_nil] at hW'
  refine (spanInside_walk a0 b0 a1 b1 a2 a3 wa0 wb0 wa1 wb1 wa2 wa3 W).mono fun e W' ⟨he, bel⟩ => ?_
  subst he
  exact ⟨_, rfl, _, _, _, [], [], [], hW', trodAll_mk1 (shut_bool Try.underlying4 _), (trodAll_cons_mk (shut_agg2 (y0 := (.lit (.int .i64 a0), [])) (y1 := (.lit (.int .i64 b0), [])) Try.underlying23 (by kernel_rfl) cellsS ⟨1, by simp [DataW.trod, Try.underlying3, wa0]⟩ ⟨1, by simp [DataW.trod, Try.underlying3, wb0]⟩) (trodAll_cons_mk (shut_agg2 (y0 := (.lit (.int .i64 a1), [])) (y1 := (.lit (.int .i64 b1), [])) Try.underlying23 (by kernel_rfl) cellsS ⟨1, by simp [DataW.trod, Try.underlying3, wa1]⟩ ⟨1, by simp [DataW.trod, Try.underlying3, wb1]⟩) (trodAll_cons_mk (shut_int Try.underlying43 wa2) (trodAll_cons_mk (shut_int Try.underlying43 wa3) trodAll_mk0)))), rfl, bel.frame _, fun h => by cases h⟩

theorem over : Rows.spanInsideRow.holds Try.pinned (OpenSpec.ofChange Rows.spanInsideSpec) :=
  OpenClaim.holds_of_wide 6 Try.f6 rfl rfl rfl rfl rfl rfl rfl ⟨rfl, rfl, rfl, rfl, rfl⟩ rfl rfl rfl rfl rfl (by kernel_rfl) Try.func6 (by kernel_rfl)
    (of_decide_eq_true (by kernel_rfl)) (by unfold Func.isWrapper; first | (rw [if_pos (by decide +kernel)]; kernel_rfl) | (rw [if_neg (by decide +kernel)]; exact ⟨rfl, rfl⟩))
    (fun os started H enc _ => lifted os started H enc)

/-- The given statement. -/
theorem proved : Rows.SpanInsideSaid := over
#print axioms proved
end Go.Proofs.Ytnknlgbihibmiaa.lawSpanInside
