import Derived.Test.YtpcakodemleoiaaTB
set_option linter.all false
namespace Go.Proofs.Ytpcakodemleoiaa.T
open Go Go.RowKit
set_option linter.unusedSimpArgs false

/-! A call whose result holds a slice of a block of its own among plain values. -/
theorem RepL_split {F : Mem} {G : Ghost} {d : D} {b : List D} : ∀ {a : List D} {us : List Value}, RepL F G (a ++ d :: b) us → ∃ ua u ub, us = ua ++ u :: ub ∧ RepL F G a ua ∧ Rep F G d u ∧ RepL F G b ub
  | [], us, h => by
    simp only [List.nil_append, RepL] at h
    obtain ⟨u, us', e, h1, h2⟩ := h
    exact ⟨[], u, us', e, by simp [RepL], h1, h2⟩
  | x :: a, us, h => by
    simp only [List.cons_append, RepL] at h
    obtain ⟨u, us', rfl, h1, h2⟩ := h
    obtain ⟨ua, v, ub, rfl, k1, k2, k3⟩ := RepL_split h2
    exact ⟨u :: ua, v, ub, rfl, by simp only [RepL]; exact ⟨u, ua, rfl, h1, k1⟩, k2, k3⟩
theorem RepL_join {F : Mem} {G : Ghost} {d : D} {b : List D} {u : Value} {ub : List Value} (h2 : Rep F G d u) (h3 : RepL F G b ub) : ∀ {a : List D} {ua : List Value}, RepL F G a ua → RepL F G (a ++ d :: b) (ua ++ u :: ub)
  | [], ua, h => by
    simp only [RepL] at h
    subst h
    simp only [List.nil_append, RepL]
    exact ⟨u, ub, rfl, h2, h3⟩
  | x :: a, ua, h => by
    simp only [RepL] at h
    obtain ⟨v, us', rfl, h1, h4⟩ := h
    simp only [List.cons_append, RepL]
    exact ⟨v, _, rfl, h1, RepL_join h2 h3 h4⟩
def wrapD (tup : Bool) (pre post : List D) (o : D) : D := if tup = true then .tup (pre ++ o :: post) else .agg (pre ++ o :: post)
theorem wrap_split {F : Mem} {G : Ghost} {tup : Bool} {pre post : List D} {o : D} {u : Value} (h1 : plainL pre = true) (h2 : plainL post = true) (h : Rep F G (wrapD tup pre post o) u) : ∃ v, Rep F G o v ∧ ∀ G' o', Rep F G' o' v → Rep F G' (wrapD tup pre post o') u := by
  unfold wrapD at h ⊢
  cases tup
  · simp only [Bool.false_eq_true, if_false, Rep] at h ⊢
    obtain ⟨vs, rfl, hL⟩ := h
    obtain ⟨ua, v, ub, rfl, k1, k2, k3⟩ := RepL_split hL
    exact ⟨v, k2, fun G' o' ho => ⟨_, rfl, RepL_join ho (plain_repL _ _ h2 k3) (plain_repL _ _ h1 k1)⟩⟩
  · simp only [if_true, Rep] at h ⊢
    obtain ⟨vs, rfl, hL⟩ := h
    obtain ⟨ua, v, ub, rfl, k1, k2, k3⟩ := RepL_split hL
    exact ⟨v, k2, fun G' o' ho => ⟨_, rfl, RepL_join ho (plain_repL _ _ h2 k3) (plain_repL _ _ h1 k1)⟩⟩
section
variable {P : Program}
theorem PFreshX.intro {f : FuncId} {ds : List D} {ty : TypeId} {sz n : Nat} {cells : List D} {tup : Bool} {pre post : List D} (hc : plainL cells = true) (h1 : plainL pre = true) (h2 : plainL post = true)
    (h : ∀ t, ACall P f ds [] t fun d H' _ => ∃ b g, d = wrapD tup pre post (.own sz b g 0 n) ∧ H'[b]? = some (some ⟨ty, g, cells⟩)) : PFreshX P f ds ty sz n cells (wrapD tup pre post) := by
  refine fun F G w us hF hL => ?_
  obtain ⟨t, ht⟩ := top_of G
  have R : Rel w F G [] t w := ⟨Below.refl _ _, hF, Nat.zero_le _, ht, fun i bl h => by simp at h, fun i j bi bj p q r s t u _ h => by simp at h⟩
  refine (h t w F G w us R hL).mono fun e w' hx => ?_
  obtain ⟨F', G', u, d', H', t', rfl, onw, R', hd, b, g, rfl, hb⟩ := hx
  obtain ⟨v, hv, hw⟩ := wrap_split h1 h2 hd
  obtain ⟨p, hp, hg, hl⟩ := R'.own b _ hb
  refine ⟨F', u, v, p, rfl, onw.mem, fun b o hb => onw.old b o hb, R'.mem, R'.below, ⟨rfl, ?_⟩, ?_, hw⟩
  · cases hr : p.r with
    | none => rw [hr] at hl; exact hl
    | some rs =>
      obtain ⟨r, s⟩ := rs
      rw [hr] at hl
      obtain ⟨k1, k2, hl⟩ := hl
      refine ⟨k1, k2, ?_⟩
      cases hpm : p.m with
      | false =>
        rw [hpm] at hl
        obtain ⟨vs, junk, k3, k4, k5⟩ := hl
        exact ⟨vs, junk, k3, k4, plain_repL _ _ hc k5⟩
      | true => rw [hpm] at hl; exact hl
  · simp only [Rep] at hv ⊢
    obtain ⟨k1, p', hp', k2, k3⟩ := hv
    rw [hp] at hp'; cases hp'
    exact ⟨k1, p, rfl, Nat.le_refl _, fun _ => k3 hg⟩
theorem ACall.of_freshX {f : FuncId} {ds ds' : List D} {ty : TypeId} {sz n : Nat} {cells : List D} {wf : D → D} {H : Hp} {t : Nat} {K : D → Hp → Nat → Prop} (h : PFreshX P f ds' ty sz n cells wf) (hd : ds.map ufa = ds') (hk : K (wf (.own sz H.length (t + 1) 0 n)) (setH H H.length ⟨ty, t + 1, cells⟩) (t + 1)) : ACall P f ds H t K := by
  refine fun w0 F G w us R hL => ?_
  subst hd
  have hL' : RepL F G (ds.map ufa) us := RepL_map (fun d u _ hd => hd.ufa) hL
  have go : ∀ G1, Ghost.le G.length G G1 → G.length ≤ G1.length → Rel w0 F G1 H t w → H.length < G1.length → Runs P f us.toArray w fun e w' => ∃ F' G' u d H' t', e = .returned u ∧ Onw w0 F G F' G' ∧ Rel w0 F' G' H' t' w' ∧ Rep F' G' d u ∧ K d H' t' := fun G1 g1 g2 R1 hlt => by
    obtain ⟨p0, hp0⟩ : ∃ p, G1[H.length]? = some p := ⟨_, List.getElem?_eq_getElem hlt⟩
    have htop := R1.top _ _ hp0
    refine (h F G w us R.mem hL').mono fun e w' hx => ?_
    obtain ⟨F', u, v, p, rfl, h1, h2, h3, h4, h5, h6, h7⟩ := hx
    obtain ⟨k1, k2⟩ := R1.fresh (t' := t + 1) (sp := t + 1) (Nat.le_succ t) (Nat.le_refl _) (Nat.le_refl _) hp0 (by omega) h1 h2 h3 h4 h5 h6
    exact ⟨F', _, u, _, _, _, rfl, ⟨h1, fun b o hb => h2 b o (by have := R.below.size; omega), g1.trans ((Ghost.le_set hp0 (.inr (by simp only; omega)) _).less g2), by simpa using g2⟩, k1, h7 _ _ k2, hk⟩
  rcases Nat.lt_or_ge H.length G.length with hlt | hge
  · exact go G (.refl _ _) (Nat.le_refl _) R hlt
  · have heq : H.length = G.length := Nat.le_antisymm R.len hge
    exact go (G ++ [⟨none, 0, false⟩]) (fun i p hi hp => ⟨p, by rw [List.getElem?_append_left hi]; exact hp, .refl p⟩) (by simp) R.extend (by simp; omega)
end
end Go.Proofs.Ytpcakodemleoiaa.T
