import Derived.Test.YtpbpafmgkdihlaaGreatDoorQMinJ
set_option linter.all false
namespace Go.Proofs.YtpbpafmgkdihlaaGreatDoor.Lin
theorem IsRank.uniq {A : List Row} {n r s : Nat} (hA : IsRank A n r) (hB : IsRank A n s) : r = s :=
 Nat.le_antisymm (hA.le hB fun _ h => h) (hB.le hA fun _ h => h)
theorem Yt1 {x : Row} {S : List Row} {C : List Nat} (h : w (x :: S) C ≠ 0) : ∃ C', (∀ c ∈ C', c ∈ C) ∧ w S C' ≠ 0 := by
 apply Classical.byContradiction
 intro hn
 apply h
 rw [Y2u, Y4o (h' := fun _ _ => 0) fun c r _ hr => ?_, Yaz]
 have : w S r = 0 := Classical.byContradiction fun h0 => hn ⟨r, hr, h0⟩
 rw [this, Int.mul_zero]
theorem Yet {V V' : List Row} {C : List Nat} (h : V.Perm V') (hne : w V C ≠ 0) : w V' C ≠ 0 := by
 rcases Yuy h with e | e
 ·rw [← e]; exact hne
 ·intro h0; apply hne; rw [e, h0]; rfl
theorem IsRank.grow {A B : List Row} {n r s : Nat} {x : Row} (hA : IsRank A n r) (hB : IsRank B n s) (h : ∀ y ∈ B, y ∈ A ∨ y = x) : s ≤ r + 1 := by
 obtain ⟨S, C, h1, h2, h3, h4, h5, h6⟩ := hB
 by_cases hx : x ∈ S
 ·obtain ⟨V1, V2, rfl⟩ := List.append_of_mem hx
  have hp : (V1 ++ x :: V2).Perm (x :: (V1 ++ V2)) := List.perm_middle
  have h7 := Yet hp h5
  obtain ⟨C', hC, hne⟩ := Yt1 h7
  by_cases hx2 : x ∈ V1 ++ V2
  ·exfalso
   obtain ⟨U1, U2, hU⟩ := List.append_of_mem hx2
   rw [hU] at h7
   have hp2 : (x :: (U1 ++ x :: U2)).Perm (x :: x :: (U1 ++ U2)) := List.perm_middle.cons x
   have h8 := Yet hp2 h7
   have := Y9v x x (U1 ++ U2) C
   omega
  ·have := hA.max (S' := V1 ++ V2) (C' := C') (fun y hy => by
    rcases h y (h1 y (hp.mem_iff.2 (List.mem_cons_of_mem _ hy))) with h | rfl
    ·exact h
    ·exact absurd hy hx2) (fun c hc => h4 c (hC c hc)) hne
   simp at h2 this
   omega
 ·have := hA.max (fun y hy => by
   rcases h y (h1 y hy) with h | rfl
   ·exact h
   ·exact absurd hy hx) h4 h5
  omega
theorem Yuz {A S : List Row} {C : List Nat} {n r : Nat} (hA : IsRank A n r) (hS : ∀ s ∈ S, s ∈ A) (hl : S.length = r) (hC : ∀ c ∈ C, c < n) (j : Nat) (hj : j < n) : Van A S C j := fun y hy =>
 Classical.byContradiction fun hne => by
  have := hA.max (S' := y :: S) (C' := j :: C) (fun z hz => by
   rcases List.mem_cons.1 hz with rfl | hz
   ·exact hy
   ·exact hS z hz) (fun c hc => by
   rcases List.mem_cons.1 hc with rfl | hc
   ·exact hj
   ·exact hC c hc) hne
  simp at this
  omega
theorem IsRank.same {K A K' A' : List Row} {n r s s' : Nat} {x : Row} (hK : IsRank K n r) (hA : IsRank A n r) (hK' : IsRank K' n s) (hA' : IsRank A' n s') (h1 : ∀ y ∈ K, y ∈ A)
    (h2 : ∀ y, y ∈ K' ↔ y ∈ K ∨ y = x) (h3 : ∀ y, y ∈ A' ↔ y ∈ A ∨ y = x) : s = s' := by
  have l1 : s ≤ s' := hK'.le hA' fun y hy => by
    rcases (h2 y).1 hy with h | h
    · exact (h3 y).2 (.inl (h1 y h))
    · exact (h3 y).2 (.inr h)
  have l2 : s' ≤ r + 1 := hA.grow hA' fun y hy => (h3 y).1 hy
  have l3 : r ≤ s := hK.le hK' fun y hy => (h2 y).2 (.inl hy)
  by_cases e : s = r
  · subst e
    obtain ⟨S, C, k1, k2, k3, k4, k5, k6⟩ := hK
    have vA := Yuz hA (fun z hz => h1 z (k1 z hz)) k2 k4
    have vK := Yuz hK' (fun z hz => (h2 z).2 (.inl (k1 z hz))) k2 k4
    have : IsRank A' n s := ⟨S, C, fun z hz => (h3 z).2 (.inl (h1 z (k1 z hz))), k2, k3, k4, k5, fun j hj y hy => by
      rcases (h3 y).1 hy with h | h
      · exact vA j hj y h
      · exact vK j hj y ((h2 y).2 (.inr h))⟩
    exact this.uniq hA'
  · omega
end Go.Proofs.YtpbpafmgkdihlaaGreatDoor.Lin
