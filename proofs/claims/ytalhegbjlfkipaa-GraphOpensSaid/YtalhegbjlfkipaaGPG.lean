import Derived.Test.YtalhegbjlfkipaaGPF
set_option linter.all false
/- Graphs, in plain Lean: depth first, edge by edge. -/
section
namespace Go.Proofs.Ytalhegbjlfkipaa.Gr
variable {E : List (Nat × Nat)} {n node i f : Nat} {by_ : Int} {s s1 : DF} {p : Nat → Prop} {at_ : Nat → List Nat}
theorem step_mid (ho : Ok n E) (hat : ∀ x k, k ∈ at_ x ↔ ∃ y, oth E k x = some y) (hc : ∀ s z b, Pre n E s z b → unv s ≤ f → s.ct + unv s = n → (visitP E at_ f z b s).ct + unv (visitP E at_ f z b s) = n)
    (hp : Pre n E s node by_) (h : Mid n E s node by_ p s1) (hu : unv s1 ≤ f) (hn : s1.ct + unv s1 = n) (hi : i ∈ at_ node) :
    Mid n E s node by_ (fun k => p k ∨ k = i) (stepV (visitP E at_ f) E node by_ s1 i) ∧ unv (stepV (visitP E at_ f) E node by_ s1 i) ≤ f ∧ (stepV (visitP E at_ f) E node by_ s1 i).ct + unv (stepV (visitP E at_ f) E node by_ s1 i) = n := by
  obtain ⟨z, hz⟩ := (hat node i).1 hi
  unfold stepV
  rw [hz]
  simp only
  split
  · rename_i hb
    obtain ⟨w, e1, e2⟩ := hp.fr i hb.symm
    have hwz : w = z := by
      rcases oth_ends hz e1 with ⟨_, e⟩ | ⟨e, _⟩
      · exact absurd e (oth_lt ho hz).2.2
      · exact e
    subst hwz
    exact ⟨h.same hz (by unfold DF.vis; rw [h.old _ e2]; exact e2) (.inl hb), hu, hn⟩
  · rename_i hb
    split
    · rename_i hv
      exact ⟨h.back hp hz hv hb, hu, hn⟩
    · rename_i hv
      have q := visit_post ho hat f s1 z i (h.pre ho hp hz hv) hu
      refine ⟨h.call ho hp hz hv hb q, ?_, hc _ _ _ (h.pre ho hp hz hv) hu hn⟩
      refine Nat.le_trans (unv_le s1.od _ (by rw [h.len.od]; exact q.len.od.symm) fun x hx => ?_) hu
      have := q.old x hx
      unfold DF.o at this
      show 0 < (visitP E at_ f z (↑i) s1).od.getD x 0
      omega
theorem begin_unv (hp : Pre n E s node by_) : unv (beginV node s) + 1 = unv s :=
  unv_set s.od node (s.ct + 1) (by rw [hp.len.od]; exact hp.lt) (by have := hp.new; unfold DF.vis DF.o at this; omega) (by omega)
theorem fold_mid (ho : Ok n E) (hat : ∀ x k, k ∈ at_ x ↔ ∃ y, oth E k x = some y) (hc : ∀ s z b, Pre n E s z b → unv s ≤ f → s.ct + unv s = n → (visitP E at_ f z b s).ct + unv (visitP E at_ f z b s) = n)
    (hp : Pre n E s node by_) : ∀ (l : List Nat) (p : Nat → Prop) (s1 : DF), (∀ k ∈ l, k ∈ at_ node) → Mid n E s node by_ p s1 → unv s1 ≤ f → s1.ct + unv s1 = n →
    (∃ p', Mid n E s node by_ p' (l.foldl (stepV (visitP E at_ f) E node by_) s1)) ∧ unv (l.foldl (stepV (visitP E at_ f) E node by_) s1) ≤ f ∧ (l.foldl (stepV (visitP E at_ f) E node by_) s1).ct + unv (l.foldl (stepV (visitP E at_ f) E node by_) s1) = n
  | [], p, s1, _, h, hu, hn => ⟨⟨p, h⟩, hu, hn⟩
  | i :: l, p, s1, hl, h, hu, hn => by
    obtain ⟨h1, h2, h3⟩ := step_mid ho hat hc hp h hu hn (hl i (by simp))
    exact fold_mid ho hat hc hp l _ _ (fun k hk => hl k (by simp [hk])) h1 h2 h3
theorem visit_cnt (ho : Ok n E) (hat : ∀ x k, k ∈ at_ x ↔ ∃ y, oth E k x = some y) : ∀ (f : Nat) (s : DF) (node : Nat) (by_ : Int), Pre n E s node by_ → unv s ≤ f → s.ct + unv s = n → (visitP E at_ f node by_ s).ct + unv (visitP E at_ f node by_ s) = n
  | 0, s, node, by_, hp, hf, hn => hn
  | f + 1, s, node, by_, hp, hf, hn => by
    unfold visitP
    have hb := begin_unv hp
    have hct : (beginV node s).ct = s.ct + 1 := rfl
    exact (fold_mid ho hat (visit_cnt ho hat f) hp (at_ node) _ _ (fun _ h => h) hp.begin_ (by omega) (by omega)).2.2
end Go.Proofs.Ytalhegbjlfkipaa.Gr
end
