import Derived.Test.YtcjmknmlfggblaaLSA
set_option linter.all false
namespace Go.Proofs.Ytcjmknmlfggblaa.T
open Go Go.RowKit Lin

/-! Products and sums of fractions in lowest terms: the program's road and the reference's (plain). -/
theorem cop_dvd {a b c d : Nat} (h1 : a ∣ c) (h2 : b ∣ d) (h : Nat.Coprime c d) : Nat.Coprime a b :=
  Nat.Coprime.coprime_dvd_left h1 (Nat.Coprime.coprime_dvd_right h2 h)
theorem fr_bounds {n d : Int} (h : vfrac n d = true) : 1 ≤ d ∧ d ≤ 1152921504606846976 ∧ -1152921504606846976 ≤ n ∧ n ≤ 1152921504606846976 ∧ Nat.Coprime n.natAbs d.natAbs := by
  unfold vfrac at h
  simp only [Bool.and_eq_true, decide_eq_true_eq] at h
  exact ⟨h.1.1.1.1, h.1.1.1.2, h.1.1.2, h.1.2, h.2⟩
theorem made_low {s : Bool} {p q a d : Nat} (hq : 0 < q) (hd : 0 < d) (hc : Nat.Coprime p q) (h : p * d = a * q) : madeP a s d = signP s p q := by
  obtain ⟨h1, h2⟩ := ratio_nat hq hd h
  have e : Nat.gcd p q = 1 := hc
  rw [e, Nat.div_one] at h1 h2
  unfold madeP
  rw [if_neg (by omega), ← h1, ← h2]
def mulR (a b : Int × Int) : (Int × Int) × Int := madeP (a.1.natAbs * b.1.natAbs) (decide (a.1 < 0) != decide (b.1 < 0)) (a.2.natAbs * b.2.natAbs)
def addR (a b : Int × Int) : (Int × Int) × Int :=
  if decide (a.1 < 0) = decide (b.1 < 0) then madeP (a.1.natAbs * b.2.natAbs + b.1.natAbs * a.2.natAbs) (decide (a.1 < 0)) (a.2.natAbs * b.2.natAbs)
  else if a.1.natAbs * b.2.natAbs < b.1.natAbs * a.2.natAbs then madeP (b.1.natAbs * a.2.natAbs - a.1.natAbs * b.2.natAbs) (decide (b.1 < 0)) (a.2.natAbs * b.2.natAbs)
  else madeP (a.1.natAbs * b.2.natAbs - b.1.natAbs * a.2.natAbs) (decide (a.1 < 0)) (a.2.natAbs * b.2.natAbs)
theorem mul_low {N D U V : Nat} (hD : 0 < D) (hV : 0 < V) (c1 : Nat.Coprime N D) (c2 : Nat.Coprime U V) :
    Nat.Coprime (N / Nat.gcd N V * (U / Nat.gcd U D)) (D / Nat.gcd U D * (V / Nat.gcd N V)) ∧ (N / Nat.gcd N V * (U / Nat.gcd U D)) * (D * V) = (N * U) * (D / Nat.gcd U D * (V / Nat.gcd N V)) ∧ 0 < D / Nat.gcd U D * (V / Nat.gcd N V) := by
  have hg : 0 < Nat.gcd N V := Nat.gcd_pos_of_pos_right _ hV
  have hh : 0 < Nat.gcd U D := Nat.gcd_pos_of_pos_right _ hD
  have k1 := Nat.coprime_div_gcd_div_gcd hg
  have k2 := Nat.coprime_div_gcd_div_gcd hh
  have n1 := Nat.div_mul_cancel (Nat.gcd_dvd_left N V)
  have v1 := Nat.div_mul_cancel (Nat.gcd_dvd_right N V)
  have u1 := Nat.div_mul_cancel (Nat.gcd_dvd_left U D)
  have d1 := Nat.div_mul_cancel (Nat.gcd_dvd_right U D)
  generalize N / Nat.gcd N V = n at *
  generalize V / Nat.gcd N V = v at *
  generalize U / Nat.gcd U D = u at *
  generalize D / Nat.gcd U D = d at *
  generalize Nat.gcd N V = g at *
  generalize Nat.gcd U D = h at *
  have dn : n ∣ N := ⟨g, n1.symm⟩
  have dv : v ∣ V := ⟨g, v1.symm⟩
  have du : u ∣ U := ⟨h, u1.symm⟩
  have dd : d ∣ D := ⟨h, d1.symm⟩
  have cnd : Nat.Coprime n d := cop_dvd dn dd c1
  have cuv : Nat.Coprime u v := cop_dvd du dv c2
  refine ⟨Nat.Coprime.mul_left (Nat.Coprime.mul_right cnd k1) (Nat.Coprime.mul_right k2 cuv), ?_, ?_⟩
  · rw [← n1, ← u1, ← d1, ← v1]; ac_rfl
  · refine Nat.mul_pos ?_ ?_
    · exact Nat.pos_of_ne_zero fun e => by rw [e] at d1; simp at d1; omega
    · exact Nat.pos_of_ne_zero fun e => by rw [e] at v1; simp at v1; omega
theorem add_low {S D V : Nat} (hD : 0 < D) (hV : 0 < V) (c1 : Nat.Coprime S (D / Nat.gcd D V)) (c2 : Nat.Coprime S (V / Nat.gcd D V)) :
    let g := Nat.gcd D V; let c := Nat.gcd g (S % g)
    0 < c ∧ c ≤ g ∧ Nat.Coprime (S / c) (D / g * (V / c)) ∧ (S / c) * (D * V) = (g * S) * (D / g * (V / c)) ∧ 0 < D / g * (V / c) := by
  intro g c
  have hg : 0 < g := Nat.gcd_pos_of_pos_right _ hV
  have hcg : c = Nat.gcd g S := by
    show Nat.gcd g (S % g) = _
    rw [Nat.gcd_comm g (S % g), ← Nat.gcd_rec]
  have hc : 0 < c := by rw [hcg]; exact Nat.gcd_pos_of_pos_left _ hg
  have hcS : c ∣ S := by rw [hcg]; exact Nat.gcd_dvd_right _ _
  have hcgd : c ∣ g := by rw [hcg]; exact Nat.gcd_dvd_left _ _
  have hgV : g ∣ V := Nat.gcd_dvd_right _ _
  have hgD : g ∣ D := Nat.gcd_dvd_left _ _
  have hcV : c ∣ V := Nat.dvd_trans hcgd hgV
  have s1 := Nat.div_mul_cancel hcS
  have g1 := Nat.div_mul_cancel hcgd
  have v1 := Nat.div_mul_cancel hgV
  have d1 := Nat.div_mul_cancel hgD
  have vc : V / c = V / g * (g / c) := by
    refine Nat.div_eq_of_eq_mul_left hc ?_
    rw [Nat.mul_assoc, g1, v1]
  have k := Nat.coprime_div_gcd_div_gcd (m := g) (n := S) (by rw [← hcg]; exact hc)
  rw [← hcg] at k
  rw [vc]
  change Nat.Coprime S (D / g) at c1
  change Nat.Coprime S (V / g) at c2
  have sd : S / c ∣ S := ⟨c, s1.symm⟩
  have x1 : Nat.Coprime (S / c) (D / g) := cop_dvd sd (Nat.dvd_refl _) c1
  have x2 : Nat.Coprime (S / c) (V / g) := cop_dvd sd (Nat.dvd_refl _) c2
  have pd : 0 < D / g := Nat.div_pos (Nat.le_of_dvd hD hgD) hg
  have pv : 0 < V / g := Nat.div_pos (Nat.le_of_dvd hV hgV) hg
  have pg : 0 < g / c := Nat.div_pos (Nat.le_of_dvd hg hcgd) hc
  refine ⟨hc, Nat.le_of_dvd hg hcgd, Nat.Coprime.mul_right x1 (Nat.Coprime.mul_right x2 k.symm), ?_, Nat.mul_pos pd (Nat.mul_pos pv pg)⟩
  generalize S / c = s at *
  generalize g / c = w at *
  generalize V / g = v at *
  generalize D / g = d at *
  rw [← d1, ← s1, ← v1]
  rw [show (s * ((d * g) * (v * g))) = (s * d * v * g) * g by ac_rfl, show g * (s * c) * (d * (v * w)) = (s * d * v * g) * (w * c) by ac_rfl, g1]
/-- The parts of a sum have nothing in common with a denominator's own part. -/
theorem sum_coprime {N D U V S : Nat} (hV : 0 < V) (c1 : Nat.Coprime N D) (c2 : Nat.Coprime U V) (hS : N * (V / Nat.gcd D V) + U * (D / Nat.gcd D V) = S ∨ N * (V / Nat.gcd D V) + S = U * (D / Nat.gcd D V) ∨ U * (D / Nat.gcd D V) + S = N * (V / Nat.gcd D V)) :
    Nat.Coprime S (D / Nat.gcd D V) ∧ Nat.Coprime S (V / Nat.gcd D V) := by
  have hg : 0 < Nat.gcd D V := Nat.gcd_pos_of_pos_right _ hV
  have k := Nat.coprime_div_gcd_div_gcd hg
  have dd : D / Nat.gcd D V ∣ D := ⟨Nat.gcd D V, (Nat.div_mul_cancel (Nat.gcd_dvd_left D V)).symm⟩
  have dv : V / Nat.gcd D V ∣ V := ⟨Nat.gcd D V, (Nat.div_mul_cancel (Nat.gcd_dvd_right D V)).symm⟩
  generalize D / Nat.gcd D V = d at *
  generalize V / Nat.gcd D V = v at *
  have a1 : Nat.Coprime (N * v) d := Nat.Coprime.mul_left (cop_dvd (Nat.dvd_refl _) dd c1) k.symm
  have a2 : Nat.Coprime (U * d) v := Nat.Coprime.mul_left (cop_dvd (Nat.dvd_refl _) dv c2) k
  have go : ∀ {x y d : Nat}, Nat.Coprime x d → d ∣ y → (x + y = S ∨ x + S = y ∨ y + S = x) → Nat.Coprime S d := fun {x y d} hx hy hs => by
    have h1 : Nat.gcd S d ∣ S := Nat.gcd_dvd_left _ _
    have h2 : Nat.gcd S d ∣ d := Nat.gcd_dvd_right _ _
    have h3 : Nat.gcd S d ∣ y := Nat.dvd_trans h2 hy
    have h4 : Nat.gcd S d ∣ x := by
      rcases hs with e | e | e
      · rw [← e] at h1 ⊢
        exact (Nat.dvd_add_iff_left (by rw [e] at h1 ⊢; exact h3)).2 (by rw [e]; rw [e] at h1; exact h1)
      · rw [← e] at h3
        exact (Nat.dvd_add_iff_left h1).2 h3
      · rw [← e]; exact Nat.dvd_add h3 h1
    have h5 := Nat.dvd_gcd h4 h2
    have e : Nat.gcd x d = 1 := hx
    rw [e] at h5
    exact Nat.dvd_one.1 h5
  refine ⟨go a1 (y := U * d) ⟨U, by ac_rfl⟩ hS, go a2 (y := N * v) ⟨N, by ac_rfl⟩ ?_⟩
  rcases hS with e | e | e
  · exact .inl (by omega)
  · exact .inr (.inr e)
  · exact .inr (.inl e)
end Go.Proofs.Ytcjmknmlfggblaa.T
