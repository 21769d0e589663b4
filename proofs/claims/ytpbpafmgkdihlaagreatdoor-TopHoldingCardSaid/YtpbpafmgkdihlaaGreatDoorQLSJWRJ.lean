import Derived.Test.YtpbpafmgkdihlaaGreatDoorQTB
import Derived.Test.YtpbpafmgkdihlaaGreatDoorQLSA
import Derived.Test.YtpbpafmgkdihlaaGreatDoorQWOP
import Derived.Test.YtpbpafmgkdihlaaGreatDoorQWRS
import Derived.Test.YtpbpafmgkdihlaaGreatDoorQWJK
set_option linter.all false
namespace Go.Proofs.YtpbpafmgkdihlaaGreatDoor.T
open Go Go.RowKit Lin
structure Nx (l : List Nat) (c nx : Nat) : Prop where
 le : nx ≤ l.length
 lt : ∀ j p, l[j]? = some p → (j < nx ↔ p < c)
theorem Nx.zero (l : List Nat) : Nx l 0 0 := ⟨Nat.zero_le _, fun j p _ => by omega⟩
theorem Y8l {a b c d : Nat} (h1 : a ∣ c) (h2 : b ∣ d) (h : Nat.Coprime c d) : Nat.Coprime a b :=
 Nat.Coprime.coprime_dvd_left h1 (Nat.Coprime.coprime_dvd_right h2 h)
theorem Y0c {n d : Int} (h : Y09 n d = true) : 1 ≤ d ∧ d ≤ 1152921504606846976 ∧ -1152921504606846976 ≤ n ∧ n ≤ 1152921504606846976 ∧ Nat.Coprime n.natAbs d.natAbs := by
 unfold Y09 at h
 simp only [Bool.and_eq_true, decide_eq_true_eq] at h
 exact ⟨h.1.1.1.1, h.1.1.1.2, h.1.1.2, h.1.2, h.2⟩
theorem Ydp {s : Bool} {p q a d : Nat} (hq : 0 < q) (hd : 0 < d) (hc : Nat.Coprime p q) (h : p * d = a * q) : Y1o a s d = Y2l s p q := by
 obtain ⟨h1, h2⟩ := Yff hq hd h
 have e : Nat.gcd p q = 1 := hc
 rw [e, Nat.div_one] at h1 h2
 unfold Y1o
 rw [if_neg (by omega), ← h1, ← h2]
def mulR (a b : Int × Int) : (Int × Int) × Int := Y1o (a.1.natAbs * b.1.natAbs) (decide (a.1 < 0) != decide (b.1 < 0)) (a.2.natAbs * b.2.natAbs)
def addR (a b : Int × Int) : (Int × Int) × Int :=
 if decide (a.1 < 0) = decide (b.1 < 0) then Y1o (a.1.natAbs * b.2.natAbs + b.1.natAbs * a.2.natAbs) (decide (a.1 < 0)) (a.2.natAbs * b.2.natAbs)
 else if a.1.natAbs * b.2.natAbs < b.1.natAbs * a.2.natAbs then Y1o (b.1.natAbs * a.2.natAbs - a.1.natAbs * b.2.natAbs) (decide (b.1 < 0)) (a.2.natAbs * b.2.natAbs)
 else Y1o (a.1.natAbs * b.2.natAbs - b.1.natAbs * a.2.natAbs) (decide (a.1 < 0)) (a.2.natAbs * b.2.natAbs)
theorem mul_low {N D U V : Nat} (hD : 0 < D) (hV : 0 < V) (c1 : Nat.Coprime N D) (c2 : Nat.Coprime U V) :
    Nat.Coprime (N / Nat.gcd N V * (U / Nat.gcd U D)) (D / Nat.gcd U D * (V / Nat.gcd N V)) ∧ (N / Nat.gcd N V * (U / Nat.gcd U D)) * (D * V) = (N * U) * (D / Nat.gcd U D * (V / Nat.gcd N V)) ∧ 0 < D / Nat.gcd U D * (V / Nat.gcd N V) := by
  have hg : 0 < Nat.gcd N V := Nat.gcd_pos_of_pos_right _ hV
  have hh : 0 < Nat.gcd U D := Nat.gcd_pos_of_pos_right _ hD
  have k1 := Nat.coprime_div_gcd_div_gcd hg
  have k2 := Nat.coprime_div_gcd_div_gcd hh
  have n1 := Nat.div_mul_cancel (Nat.gcd_dvd_left N V)
  have v1 := Nat.div_mul_cancel (Nat.gcd_dvd_right N V)
  have u1 := Nat.div_mul_cancel (Nat.gcd_dvd_left U D)
  have d1 := Nat.div_mul_cancel (Nat.gcd_dvd_right U D)
  generalize N / Nat.gcd N V = n at *
  generalize V / Nat.gcd N V = v at *
  generalize U / Nat.gcd U D = u at *
  generalize D / Nat.gcd U D = d at *
  generalize Nat.gcd N V = g at *
  generalize Nat.gcd U D = h at *
  have dn : n ∣ N := ⟨g, n1.symm⟩
  have dv : v ∣ V := ⟨g, v1.symm⟩
  have du : u ∣ U := ⟨h, u1.symm⟩
  have dd : d ∣ D := ⟨h, d1.symm⟩
  have cnd : Nat.Coprime n d := Y8l dn dd c1
  have cuv : Nat.Coprime u v := Y8l du dv c2
  refine ⟨Nat.Coprime.mul_left (Nat.Coprime.mul_right cnd k1) (Nat.Coprime.mul_right k2 cuv), ?_, ?_⟩
  · rw [← n1, ← u1, ← d1, ← v1]; ac_rfl
  · refine Nat.mul_pos ?_ ?_
    · exact Nat.pos_of_ne_zero fun e => by rw [e] at d1; simp at d1; omega
    · exact Nat.pos_of_ne_zero fun e => by rw [e] at v1; simp at v1; omega
theorem Yy3 {S D V : Nat} (hD : 0 < D) (hV : 0 < V) (c1 : Nat.Coprime S (D / Nat.gcd D V)) (c2 : Nat.Coprime S (V / Nat.gcd D V)) :
    let g := Nat.gcd D V; let c := Nat.gcd g (S % g)
    0 < c ∧ c ≤ g ∧ Nat.Coprime (S / c) (D / g * (V / c)) ∧ (S / c) * (D * V) = (g * S) * (D / g * (V / c)) ∧ 0 < D / g * (V / c) := by
  intro g c
  have hg : 0 < g := Nat.gcd_pos_of_pos_right _ hV
  have hcg : c = Nat.gcd g S := by
    show Nat.gcd g (S % g) = _
    rw [Nat.gcd_comm g (S % g), ← Nat.gcd_rec]
  have hc : 0 < c := by rw [hcg]; exact Nat.gcd_pos_of_pos_left _ hg
  have hcS : c ∣ S := by rw [hcg]; exact Nat.gcd_dvd_right _ _
  have hcgd : c ∣ g := by rw [hcg]; exact Nat.gcd_dvd_left _ _
  have hgV : g ∣ V := Nat.gcd_dvd_right _ _
  have hgD : g ∣ D := Nat.gcd_dvd_left _ _
  have hcV : c ∣ V := Nat.dvd_trans hcgd hgV
  have s1 := Nat.div_mul_cancel hcS
  have g1 := Nat.div_mul_cancel hcgd
  have v1 := Nat.div_mul_cancel hgV
  have d1 := Nat.div_mul_cancel hgD
  have vc : V / c = V / g * (g / c) := by
    refine Nat.div_eq_of_eq_mul_left hc ?_
    rw [Nat.mul_assoc, g1, v1]
  have k := Nat.coprime_div_gcd_div_gcd (m := g) (n := S) (by rw [← hcg]; exact hc)
  rw [← hcg] at k
  rw [vc]
  change Nat.Coprime S (D / g) at c1
  change Nat.Coprime S (V / g) at c2
  have sd : S / c ∣ S := ⟨c, s1.symm⟩
  have x1 : Nat.Coprime (S / c) (D / g) := Y8l sd (Nat.dvd_refl _) c1
  have x2 : Nat.Coprime (S / c) (V / g) := Y8l sd (Nat.dvd_refl _) c2
  have pd : 0 < D / g := Nat.div_pos (Nat.le_of_dvd hD hgD) hg
  have pv : 0 < V / g := Nat.div_pos (Nat.le_of_dvd hV hgV) hg
  have pg : 0 < g / c := Nat.div_pos (Nat.le_of_dvd hg hcgd) hc
  refine ⟨hc, Nat.le_of_dvd hg hcgd, Nat.Coprime.mul_right x1 (Nat.Coprime.mul_right x2 k.symm), ?_, Nat.mul_pos pd (Nat.mul_pos pv pg)⟩
  generalize S / c = s at *
  generalize g / c = w at *
  generalize V / g = v at *
  generalize D / g = d at *
  rw [← d1, ← s1, ← v1]
  rw [show (s * ((d * g) * (v * g))) = (s * d * v * g) * g by ac_rfl, show g * (s * c) * (d * (v * w)) = (s * d * v * g) * (w * c) by ac_rfl, g1]
theorem Yh5 {N D U V S : Nat} (hV : 0 < V) (c1 : Nat.Coprime N D) (c2 : Nat.Coprime U V) (hS : N * (V / Nat.gcd D V) + U * (D / Nat.gcd D V) = S ∨ N * (V / Nat.gcd D V) + S = U * (D / Nat.gcd D V) ∨ U * (D / Nat.gcd D V) + S = N * (V / Nat.gcd D V)) :
    Nat.Coprime S (D / Nat.gcd D V) ∧ Nat.Coprime S (V / Nat.gcd D V) := by
  have hg : 0 < Nat.gcd D V := Nat.gcd_pos_of_pos_right _ hV
  have k := Nat.coprime_div_gcd_div_gcd hg
  have dd : D / Nat.gcd D V ∣ D := ⟨Nat.gcd D V, (Nat.div_mul_cancel (Nat.gcd_dvd_left D V)).symm⟩
  have dv : V / Nat.gcd D V ∣ V := ⟨Nat.gcd D V, (Nat.div_mul_cancel (Nat.gcd_dvd_right D V)).symm⟩
  generalize D / Nat.gcd D V = d at *
  generalize V / Nat.gcd D V = v at *
  have a1 : Nat.Coprime (N * v) d := Nat.Coprime.mul_left (Y8l (Nat.dvd_refl _) dd c1) k.symm
  have a2 : Nat.Coprime (U * d) v := Nat.Coprime.mul_left (Y8l (Nat.dvd_refl _) dv c2) k
  have go : ∀ {x y d : Nat}, Nat.Coprime x d → d ∣ y → (x + y = S ∨ x + S = y ∨ y + S = x) → Nat.Coprime S d := fun {x y d} hx hy hs => by
    have h1 : Nat.gcd S d ∣ S := Nat.gcd_dvd_left _ _
    have h2 : Nat.gcd S d ∣ d := Nat.gcd_dvd_right _ _
    have h3 : Nat.gcd S d ∣ y := Nat.dvd_trans h2 hy
    have h4 : Nat.gcd S d ∣ x := by
      rcases hs with e | e | e
      · rw [← e] at h1 ⊢
        exact (Nat.dvd_add_iff_left (by rw [e] at h1 ⊢; exact h3)).2 (by rw [e]; rw [e] at h1; exact h1)
      · rw [← e] at h3
        exact (Nat.dvd_add_iff_left h1).2 h3
      · rw [← e]; exact Nat.dvd_add h3 h1
    have h5 := Nat.dvd_gcd h4 h2
    have e : Nat.gcd x d = 1 := hx
    rw [e] at h5
    exact Nat.dvd_one.1 h5
  refine ⟨go a1 (y := U * d) ⟨U, by ac_rfl⟩ hS, go a2 (y := N * v) ⟨N, by ac_rfl⟩ ?_⟩
  rcases hS with e | e | e
  · exact .inl (by omega)
  · exact .inr (.inr e)
  · exact .inr (.inl e)
theorem Y2f (a b : Nat) (ha : a < 18446744073709551616) (hb : b < 18446744073709551616) : PRet Tryz.prog 43 [word a, word b] (uD (a * b)) := by
 have h := Ysy a b (by omega)
 have e1 : (a : Int) * (b : Int) / 18446744073709551616 = uh (a * b) := by unfold uh; rw [← Int.natCast_mul]; rfl
 have e2 : (a : Int) * (b : Int) % 18446744073709551616 = ul (a * b) := by unfold ul; rw [← Int.natCast_mul]; rfl
 rw [e1, e2] at h
 refine pri 2 Tryz.func43 Tryz.ntmps43 fun t => ?_
 simp only [Y04]
 refine gga1 h ?_
 exact exx Tryz.results43
theorem Yrx (a b : Nat) (hab : a + b < 340282366920938463463374607431768211456) : PRet Tryz.prog 161 [uD a, uD b] (uD (a + b)) := by
 have ua := uhl (z := a) (by omega)
 have ub := uhl (z := b) (by omega)
 have us := uhl (z := a + b) hab
 have h1 := Yuq (ul a) (ul b) 0 (by omega)
 have e1 : (ul a + ul b + 0) % 18446744073709551616 = ul (a + b) := by omega
 rw [e1] at h1
 have hc : 0 ≤ (ul a + ul b + 0) / 18446744073709551616 ∧ (ul a + ul b + 0) / 18446744073709551616 ≤ 1 := by omega
 have e2 : (uh a + uh b + (ul a + ul b + 0) / 18446744073709551616) % 18446744073709551616 = uh (a + b) := by omega
 generalize (ul a + ul b + 0) / 18446744073709551616 = c at *
 have h2 := Yuq (uh a) (uh b) c (by omega)
 rw [e2] at h2
 refine pri 2 Tryz.func161 Tryz.ntmps161 fun t => ?_
 simp only [Y04]
 refine gga2 h1 h2 ?_
 exact exx Tryz.results161
theorem Yeq (a b : Nat) (hab : b ≤ a) (ha : a < 340282366920938463463374607431768211456) : PRet Tryz.prog 162 [uD a, uD b] (uD (a - b)) := by
 have ua := uhl (z := a) (by omega)
 have ub := uhl (z := b) (by omega)
 have us := uhl (z := a - b) (by omega)
 have h1 := Yse (ul a) (ul b) 0 (by omega)
 have e1 : (ul a - ul b - 0) % 18446744073709551616 = ul (a - b) := by omega
 rw [e1] at h1
 have hc := Yvj (ul a) (ul b + 0)
 have e2 : (uh a - uh b - bor (ul a) (ul b + 0)) % 18446744073709551616 = uh (a - b) := by omega
 generalize bor (ul a) (ul b + 0) = c at *
 have h2 := Yse (uh a) (uh b) c (by omega)
 rw [e2] at h2
 refine pri 2 Tryz.func162 Tryz.ntmps162 fun t => ?_
 simp only [Y04]
 refine gga2 h1 h2 ?_
 exact exx Tryz.results162
theorem Ycw (a b : Nat) (ha : a < 340282366920938463463374607431768211456) (hb : b < 340282366920938463463374607431768211456) : PRet Tryz.prog 66 [uD a, uD b] (bool (decide (a < b))) := by
 have ua := uhl ha
 have ub := uhl hb
 refine pri 2 Tryz.func66 Tryz.ntmps66 fun t => ?_
 simp only [Y04]
 by_cases k1 : uh a < uh b
 ·refine ggb0 k1 ?_
  refine exq Tryz.results66 ?_
  rw [decide_eq_true (by omega)]
 by_cases k2 : uh a = uh b
 ·have e2 : (uh a == uh b) = true := by simp [k2]
  by_cases k3 : ul a < ul b
  ·((refine ggb0 (F := _∧_∧_) ⟨k1, e2, k3⟩ ?_))
   refine exq Tryz.results66 ?_
   rw [decide_eq_true (by omega)]
  ·((refine ggb0 (F := _∧_∧_) ⟨k1, e2, k3⟩ ?_))
   refine exq Tryz.results66 ?_
   rw [decide_eq_false (by omega)]
 ·have e2 : (uh a == uh b) = false := by simp [k2]
  ((refine ggb0 (F := _∧_) ⟨k1, e2⟩ ?_))
  refine exq Tryz.results66 ?_
  rw [decide_eq_false (by omega)]
theorem Ysq {B H L b : Nat} (hb : 0 < b) (hL : L < B) : (H * B + L) / b = H / b * B + (H % b * B + L) / b ∧ (H * B + L) % b = (H % b * B + L) % b ∧ (H % b * B + L) / b < B := by
 have hm := Nat.mod_lt H hb
 have hdm := Nat.div_add_mod H b
 have e : H * B + L = b * (H / b * B) + (H % b * B + L) := by
  conv => lhs; rw [← hdm]
  rw [Nat.add_mul, Nat.mul_assoc, Nat.add_assoc]
 refine ⟨by rw [e, Nat.mul_add_div hb], by rw [e, Nat.mul_add_mod], Nat.div_lt_of_lt_mul ?_⟩
 have h1 : (H % b + 1) * B ≤ b * B := Nat.mul_le_mul_right _ hm
 rw [Nat.add_mul, Nat.one_mul] at h1
 omega
theorem Ysp {a b : Nat} (hb : 0 < b) :
    (((uh a).tmod b) * 18446744073709551616 + ul a) / (b : Int) = ul (a / b) ∧ (((uh a).tmod b) * 18446744073709551616 + ul a) % (b : Int) = ((a % b : Nat) : Int) ∧ (uh a).tdiv b = uh (a / b) := by
  have m1 : (uh a).tmod b = ((a / 18446744073709551616 % b : Nat) : Int) := rfl
  have m2 : (uh a).tdiv b = ((a / 18446744073709551616 / b : Nat) : Int) := rfl
  rw [m1, m2]
  unfold ul uh
  have ham : a / 18446744073709551616 * 18446744073709551616 + a % 18446744073709551616 = a := Nat.div_add_mod' a _
  have hlo := Nat.mod_lt a (show 18446744073709551616 > 0 by decide)
  obtain ⟨k1, k2, k3⟩ := Ysq (H := a / 18446744073709551616) (b := b) hb hlo
  rw [ham] at k1 k2
  generalize hB : 18446744073709551616 = B at *
  have c1 : ((a / B % b : Nat) : Int) * (18446744073709551616 : Int) + ((a % B : Nat) : Int) = ((a / B % b * B + a % B : Nat) : Int) := by
    rw [Int.natCast_add, Int.natCast_mul, ← hB]; rfl
  rw [c1, ← Int.natCast_ediv, ← Int.natCast_emod, k1, k2]
  have hB0 : 0 < B := by omega
  refine ⟨?_, rfl, ?_⟩
  · congr 1
    rw [Nat.mul_comm (a / B / b) B, Nat.mul_add_mod, Nat.mod_eq_of_lt k3]
  · congr 1
    rw [Nat.mul_comm (a / B / b) B, Nat.mul_add_div hB0, Nat.div_eq_of_lt k3]; rfl
theorem Yj2 (a b : Nat) (ha : a < 340282366920938463463374607431768211456) (hb : 0 < b) (hbl : b < 18446744073709551616) : PRet Tryz.prog 163 [uD a, word b] (.tup [uD (a / b), word (a % b : Nat)]) := by
 obtain ⟨e1, e2, e3⟩ := Ysp (a := a) hb
 have ua := uhl ha
 have hm : 0 ≤ (uh a).tmod b ∧ (uh a).tmod b < b := by
  have m1 : (uh a).tmod b = ((a / 18446744073709551616 % b : Nat) : Int) := rfl
  rw [m1]
  have := Nat.mod_lt (a / 18446744073709551616) hb
  omega
 have h := Yzy ((uh a).tmod b) (ul a) b (by omega)
 rw [e1, e2] at h
 have hle : a / b ≤ a := Nat.div_le_self _ _
 have us := uhl (z := a / b) (by omega)
 generalize hr : (uh a).tmod b = r at h hm e1 e2
 have hb0 : ¬ (b : Int) = 0 := by omega
 refine pri 2 Tryz.func163 Tryz.ntmps163 fun t => ?_
 simp only [Y04]
 refine gga0 ?_
 ((repeat refine Y00 ?_); (refine Y6h (F := _∧_) ⟨hb0, hr⟩ h ?_))
 ((refine ggb0 (F := _∧_) ⟨e3, hb0⟩ ?_))
 exact exx Tryz.results163
def mulP (a b : Int × Int) : (Int × Int) × Int := if Y09 a.1 a.2 = true ∧ Y09 b.1 b.2 = true then mulR a b else ((0, 0), 1)
def addP (a b : Int × Int) : (Int × Int) × Int := if Y09 a.1 a.2 = true ∧ Y09 b.1 b.2 = true then addR a b else ((0, 0), 1)
theorem Y7d {s : Bool} {n d : Nat} (h : 18446744073709551616 ≤ n ∨ 18446744073709551616 ≤ d) : Y2l s n d = ((0, 0), 5) := by
 unfold Y2l; rw [if_pos (by omega)]
theorem Ynw (s : Bool) (n d : Nat) : Y2l (decide (0 < n) && s) n d = Y2l s n d := by
 by_cases h : n = 0
 ·subst h; exact Ybp _ _ _
 ·have : decide (0 < n) = true := by simp; omega
  rw [this, Bool.true_and]
set_option maxHeartbeats 1000000 in
theorem rMul (a b : Int × Int) : PRet Tryz.prog 16 [frD a, frD b] (fe (mulP a b)) := by
 obtain ⟨n, d⟩ := a
 obtain ⟨u, v⟩ := b
 have va := Y5d n d
 have vb := Y5d u v
 refine pri 2 Tryz.func16 Tryz.ntmps16 fun t => ?_
 simp only [Y04, mulP]
 cases ha : Y09 n d
 ·rw [ha] at va
  refine gga1 va ?_
  exact exx Tryz.results16
 cases hb : Y09 u v
 ·rw [ha] at va
  rw [hb] at vb
  refine gga2 va vb ?_
  exact exx Tryz.results16
 rw [ha] at va
 rw [hb] at vb
 obtain ⟨a1, a2, a3, a4, a5⟩ := Y0c ha
 obtain ⟨b1, b2, b3, b4, b5⟩ := Y0c hb
 rw [if_pos ⟨rfl, rfl⟩]
 obtain ⟨D, rfl⟩ : ∃ D : Nat, d = (D : Int) := ⟨d.toNat, by omega⟩
 obtain ⟨V, rfl⟩ : ∃ V : Nat, v = (V : Int) := ⟨v.toNat, by omega⟩
 simp only [Int.natAbs_natCast] at a5 b5
 have hD : 0 < D := by omega
 have hV : 0 < V := by omega
 obtain ⟨l1, l2, l3⟩ := mul_low hD hV a5 b5
 have e : mulR (n, (D : Int)) (u, (V : Int)) = Y2l (decide (n < 0) != decide (u < 0)) (n.natAbs / Nat.gcd n.natAbs V * (u.natAbs / Nat.gcd u.natAbs D)) (D / Nat.gcd u.natAbs D * (V / Nat.gcd n.natAbs V)) := by
  unfold mulR
  simp only [Int.natAbs_natCast]
  exact Ydp l3 (Nat.mul_pos hD hV) l1 l2
 rw [e]
 have s1 := Yfh n (by omega)
 have s2 := Yfh u (by omega)
 have g1 := rGcd n.natAbs V (by omega)
 have g2 := rGcd u.natAbs D (by omega)
 have hg : 0 < Nat.gcd n.natAbs V := Nat.gcd_pos_of_pos_right _ hV
 have hh : 0 < Nat.gcd u.natAbs D := Nat.gcd_pos_of_pos_right _ hD
 have ql1 : n.natAbs / Nat.gcd n.natAbs V ≤ n.natAbs := Nat.div_le_self _ _
 have ql2 : u.natAbs / Nat.gcd u.natAbs D ≤ u.natAbs := Nat.div_le_self _ _
 have ql3 : D / Nat.gcd u.natAbs D ≤ D := Nat.div_le_self _ _
 have ql4 : V / Nat.gcd n.natAbs V ≤ V := Nat.div_le_self _ _
 have t1 : ((n.natAbs : Nat) : Int).tdiv (Nat.gcd n.natAbs V : Nat) = ((n.natAbs / Nat.gcd n.natAbs V : Nat) : Int) := rfl
 have t2 : ((u.natAbs : Nat) : Int).tdiv (Nat.gcd u.natAbs D : Nat) = ((u.natAbs / Nat.gcd u.natAbs D : Nat) : Int) := rfl
 have t3 : ((D : Nat) : Int).tdiv (Nat.gcd u.natAbs D : Nat) = ((D / Nat.gcd u.natAbs D : Nat) : Int) := rfl
 have t4 : ((V : Nat) : Int).tdiv (Nat.gcd n.natAbs V : Nat) = ((V / Nat.gcd n.natAbs V : Nat) : Int) := rfl
 generalize n.natAbs / Nat.gcd n.natAbs V = n1 at *
 generalize u.natAbs / Nat.gcd u.natAbs D = u1 at *
 generalize D / Nat.gcd u.natAbs D = d1 at *
 generalize V / Nat.gcd n.natAbs V = v1 at *
 generalize Nat.gcd n.natAbs V = g at *
 generalize Nat.gcd u.natAbs D = h at *
 have hg0 : ¬ (g : Int) = 0 := by omega
 have hh0 : ¬ (h : Int) = 0 := by omega
 have p1 := Y2f n1 u1 (by omega) (by omega)
 have p2 := Y2f d1 v1 (by omega) (by omega)
 have c1 : n1 * u1 ≤ 1152921504606846976 * 1152921504606846976 := Nat.mul_le_mul (by omega) (by omega)
 have c2 : d1 * v1 ≤ 1152921504606846976 * 1152921504606846976 := Nat.mul_le_mul (by omega) (by omega)
 generalize n1 * u1 = num at *
 generalize d1 * v1 = den at *
 have un := uhl (z := num) (by omega)
 have ud := uhl (z := den) (by omega)
 refine gga2 va vb ?_
 ((repeat refine Y00 ?_); (refine Yx8 s1 s2 g1 g2 ?_))
 ((repeat refine Y00 ?_); (refine Yzl (F := _∧_∧_∧_∧_∧_) ⟨t1, t2, t3, t4, hg0, hh0⟩ s1 s2 p1 p2 ?_))
 by_cases k1 : 0 < uh num
 ·refine ggb0 k1 ?_
  refine exq Tryz.results16 ?_
  rw [Y7d (by omega)]
 by_cases k2 : 0 < uh den
 ·((refine ggb0 (F := _∧_) ⟨k1, k2⟩ ?_))
  refine exq Tryz.results16 ?_
  rw [Y7d (by omega)]
 have z1 : ul num = num := by omega
 have z2 : ul den = den := by omega
 have hs := Yjc (decide (0 < num) && (decide (n < 0) != decide (u < 0))) num den (by omega)
 rw [Ynw] at hs
 by_cases k3 : (0 : Int) < num
 ·have k4 : decide (0 < num) = true := by simp; omega
  rw [k4, Bool.true_and] at hs
  ((refine ggb1 (F := _∧_∧_∧_∧_) ⟨k1, k2, z1, z2, k3⟩ hs ?_))
  exact exx Tryz.results16
 ·have k4 : decide (0 < num) = false := by simp; omega
  rw [k4, Bool.false_and] at hs
  ((refine ggb1 (F := _∧_∧_∧_∧_) ⟨k1, k2, z1, z2, k3⟩ hs ?_))
  exact exx Tryz.results16
theorem Ylo (s : Bool) {d : Nat} (hd : 0 < d) : Y1o 0 s d = ((0, 1), 0) := by
 unfold Y1o
 rw [if_neg (by omega), Nat.gcd_zero_left, Nat.zero_div, Nat.div_self hd]
 unfold Y2l
 rw [if_neg (by omega)]
 cases s <;> rfl
theorem Ynp {N U D V : Nat} (hD : 0 < D) (hV : 0 < V) : let g := Nat.gcd D V
    N * V + U * D = g * (N * (V / g) + U * (D / g)) ∧ (N * V < U * D ↔ N * (V / g) < U * (D / g)) ∧ U * D - N * V = g * (U * (D / g) - N * (V / g)) ∧ N * V - U * D = g * (N * (V / g) - U * (D / g)) := by
  intro g
  have hg : 0 < g := Nat.gcd_pos_of_pos_right _ hV
  have v1 : V / g * g = V := Nat.div_mul_cancel (Nat.gcd_dvd_right D V)
  have d1 : D / g * g = D := Nat.div_mul_cancel (Nat.gcd_dvd_left D V)
  have x : N * V = g * (N * (V / g)) := by conv => lhs; rw [← v1]
                                           ac_rfl
  have y : U * D = g * (U * (D / g)) := by conv => lhs; rw [← d1]
                                           ac_rfl
  refine ⟨by rw [x, y, Nat.mul_add], ?_, by rw [x, y, Nat.mul_sub], by rw [x, y, Nat.mul_sub]⟩
  rw [x, y]
  exact Nat.mul_lt_mul_left hg
set_option maxHeartbeats 2000000 in
theorem rAdd (a b : Int × Int) : PRet Tryz.prog 133 [frD a, frD b] (fe (addP a b)) := by
  obtain ⟨n, d⟩ := a
  obtain ⟨u, v⟩ := b
  have va := Y5d n d
  have vb := Y5d u v
  refine pri 2 Tryz.func133 Tryz.ntmps133 fun t => ?_
  simp only [Y04, addP]
  cases ha : Y09 n d
  · rw [ha] at va
    refine gga1 va ?_
    exact exx Tryz.results133
  cases hb : Y09 u v
  · rw [ha] at va
    rw [hb] at vb
    refine gga2 va vb ?_
    exact exx Tryz.results133
  rw [ha] at va
  rw [hb] at vb
  obtain ⟨a1, a2, a3, a4, a5⟩ := Y0c ha
  obtain ⟨b1, b2, b3, b4, b5⟩ := Y0c hb
  rw [if_pos ⟨rfl, rfl⟩]
  obtain ⟨D, rfl⟩ : ∃ D : Nat, d = (D : Int) := ⟨d.toNat, by omega⟩
  obtain ⟨V, rfl⟩ : ∃ V : Nat, v = (V : Int) := ⟨v.toNat, by omega⟩
  simp only [Int.natAbs_natCast] at a5 b5
  have hD : 0 < D := by omega
  have hV : 0 < V := by omega
  have hsum := fun S hS => Yh5 (S := S) hV a5 b5 hS
  obtain ⟨f1, f2, f3, f4⟩ := Ynp (N := n.natAbs) (U := u.natAbs) hD hV
  have low : ∀ S, Nat.Coprime S (D / Nat.gcd D V) → Nat.Coprime S (V / Nat.gcd D V) → 0 < Nat.gcd (Nat.gcd D V) (S % Nat.gcd D V) ∧ Nat.gcd (Nat.gcd D V) (S % Nat.gcd D V) ≤ Nat.gcd D V ∧ Nat.Coprime (S / Nat.gcd (Nat.gcd D V) (S % Nat.gcd D V)) (D / Nat.gcd D V * (V / Nat.gcd (Nat.gcd D V) (S % Nat.gcd D V))) ∧ (S / Nat.gcd (Nat.gcd D V) (S % Nat.gcd D V)) * (D * V) = (Nat.gcd D V * S) * (D / Nat.gcd D V * (V / Nat.gcd (Nat.gcd D V) (S % Nat.gcd D V))) ∧ 0 < D / Nat.gcd D V * (V / Nat.gcd (Nat.gcd D V) (S % Nat.gcd D V)) := fun S h1 h2 => Yy3 (S := S) hD hV h1 h2
  have hadd : addR (n, (D : Int)) (u, (V : Int)) = if decide (n < 0) = decide (u < 0) then Y1o (Nat.gcd D V * (n.natAbs * (V / Nat.gcd D V) + u.natAbs * (D / Nat.gcd D V))) (decide (n < 0)) (D * V)
      else if n.natAbs * (V / Nat.gcd D V) < u.natAbs * (D / Nat.gcd D V) then Y1o (Nat.gcd D V * (u.natAbs * (D / Nat.gcd D V) - n.natAbs * (V / Nat.gcd D V))) (decide (u < 0)) (D * V)
      else Y1o (Nat.gcd D V * (n.natAbs * (V / Nat.gcd D V) - u.natAbs * (D / Nat.gcd D V))) (decide (n < 0)) (D * V) := by
    unfold addR
    simp only [Int.natAbs_natCast, f1, f2, f3, f4]
  have s1 := Yfh n (by omega)
  have s2 := Yfh u (by omega)
  have g1 := rGcd D V (by omega)
  have hg : 0 < Nat.gcd D V := Nat.gcd_pos_of_pos_right _ hV
  have hgD : Nat.gcd D V ≤ D := Nat.gcd_le_left _ hD
  have ql3 : D / Nat.gcd D V ≤ D := Nat.div_le_self _ _
  have ql4 : V / Nat.gcd D V ≤ V := Nat.div_le_self _ _
  have t3 : ((D : Nat) : Int).tdiv (Nat.gcd D V : Nat) = ((D / Nat.gcd D V : Nat) : Int) := rfl
  have t4 : ((V : Nat) : Int).tdiv (Nat.gcd D V : Nat) = ((V / Nat.gcd D V : Nat) : Int) := rfl
  clear f1 f2 f3 f4
  generalize addR (n, (D : Int)) (u, (V : Int)) = res at *
  generalize D / Nat.gcd D V = d1 at *
  generalize V / Nat.gcd D V = v1 at *
  generalize Nat.gcd D V = g at *
  have hg0 : ¬ (g : Int) = 0 := by omega
  have p1 := Y2f n.natAbs v1 (by omega) (by omega)
  have p2 := Y2f u.natAbs d1 (by omega) (by omega)
  have c1 : n.natAbs * v1 ≤ 1152921504606846976 * 1152921504606846976 := Nat.mul_le_mul (by omega) (by omega)
  have c2 : u.natAbs * d1 ≤ 1152921504606846976 * 1152921504606846976 := Nat.mul_le_mul (by omega) (by omega)
  generalize n.natAbs * v1 = x at *
  generalize u.natAbs * d1 = y at *
  refine gga3 va vb g1 ?_
  ((repeat refine Y00 ?_); (refine Yzl (F := _∧_∧_) ⟨t3, t4, hg0⟩ s1 s2 p1 p2 ?_))
  refine gga0 ?_
  repeat refine Y00 ?_
  refine Y0i (fun s : Bool × Nat × Nat => ⟨[(2, .ptr 0 (t + 1) 0), (3, .ptr 1 (t + 1 + 1) 0), (4, .ptr 2 (t + 1 + 1 + 1) 0), (6, word g), (9, bool s.1), (10, .ptr 5 (t + 1 + 1 + 1 + 1 + 1) 0)],
    [some ⟨33, t + 1, [int n, int D]⟩, some ⟨33, t + 1 + 1, [int u, int V]⟩, some ⟨33, t + 1 + 1 + 1, [int 0, int 0]⟩, none, none, some ⟨84, t + 1 + 1 + 1 + 1 + 1, [word (uh s.2.1), word (ul s.2.1)]⟩], s.2.2⟩)
    (fun s => s.2.1 ≤ x + y ∧ Nat.Coprime s.2.1 d1 ∧ Nat.Coprime s.2.1 v1 ∧ res = Y1o (g * s.2.1) s.1 (D * V)) ?_ ?_
  · refine Y02 ?_
    by_cases hsg : decide (n < 0) = decide (u < 0)
    · have e : (decide (n < 0) == decide (u < 0)) = true := by rw [hsg]; simp
      rw [if_pos hsg] at hadd
      have hp := Yrx x y (by omega)
      obtain ⟨k1, k2⟩ := hsum (x + y) (.inl rfl)
      refine ggb1 e hp ?_
      exact ⟨(decide (n < 0), x + y, t + 1 + 1 + 1 + 1 + 1), ⟨Nat.le_refl _, k1, k2, hadd⟩, ele⟩
    · have e : (decide (n < 0) == decide (u < 0)) = false := by simpa using hsg
      rw [if_neg hsg] at hadd
      have hl := Ycw x y (by omega) (by omega)
      by_cases hlt : x < y
      · rw [decide_eq_true hlt] at hl
        rw [if_pos hlt] at hadd
        have hp := Yeq y x (by omega) (by omega)
        obtain ⟨k1, k2⟩ := hsum (y - x) (.inr (.inl (by omega)))
        have hng : (!decide (n < 0)) = decide (u < 0) := by
          cases h1 : decide (n < 0) <;> cases h2 : decide (u < 0) <;> simp_all
        ((refine ggb2 (F := _∧_) ⟨e, hng⟩ hl hp ?_))
        exact ⟨(decide (u < 0), y - x, t + 1 + 1 + 1 + 1 + 1), ⟨by show y - x ≤ x + y; omega, k1, k2, hadd⟩, ele⟩
      · rw [decide_eq_false hlt] at hl
        rw [if_neg hlt] at hadd
        have hp := Yeq x y (by omega) (by omega)
        obtain ⟨k1, k2⟩ := hsum (x - y) (.inr (.inr (by omega)))
        refine ggb2 e hl hp ?_
        exact ⟨(decide (n < 0), x - y, t + 1 + 1 + 1 + 1 + 1), ⟨by show x - y ≤ x + y; omega, k1, k2, hadd⟩, ele⟩
  rintro ⟨neg, S, t2⟩ ⟨k1, k2, k3, hr⟩
  simp only at k1 k2 k3 hr
  rw [hr]
  clear hadd hr hsum
  have uS := uhl (z := S) (by omega)
  have hDV : 0 < D * V := Nat.mul_pos hD hV
  by_cases hS : S = 0
  · subst hS
    have e : ((uh 0 == 0) && (ul 0 == 0)) = true := rfl
    rw [Nat.mul_zero, Ylo _ hDV]
    refine ggb0 e ?_
    exact exx Tryz.results133
  have e : ((uh S == 0) && (ul S == 0)) = false := by
    by_cases h1 : uh S = 0
    · have h2 : ¬ ul S = 0 := by omega
      simp [h1, h2]
    · simp [h1]
  obtain ⟨l0, lg, l1, l2, l3⟩ := low S k2 k3
  rw [Ydp l3 hDV l1 l2]
  have o1 := Yj2 S g (by omega) hg (by omega)
  have hrem : S % g < g := Nat.mod_lt _ hg
  have g2 := rGcd g (S % g) (by omega)
  have o2 := Yj2 S (Nat.gcd g (S % g)) (by omega) l0 (by omega)
  have t5 : ((V : Nat) : Int).tdiv (Nat.gcd g (S % g) : Nat) = ((V / Nat.gcd g (S % g) : Nat) : Int) := rfl
  have ql5 : V / Nat.gcd g (S % g) ≤ V := Nat.div_le_self _ _
  have ql6 : S / Nat.gcd g (S % g) ≤ S := Nat.div_le_self _ _
  clear l1 l2
  generalize S % Nat.gcd g (S % g) = r2 at *
  generalize V / Nat.gcd g (S % g) = v2 at *
  generalize S / Nat.gcd g (S % g) = num at *
  generalize Nat.gcd g (S % g) = c at *
  have hc0 : ¬ (c : Int) = 0 := by omega
  have p3 := Y2f d1 v2 (by omega) (by omega)
  have c3 : d1 * v2 ≤ 1152921504606846976 * 1152921504606846976 := Nat.mul_le_mul (by omega) (by omega)
  generalize d1 * v2 = den at *
  have un := uhl (z := num) (by omega)
  have ud := uhl (z := den) (by omega)
  refine ggb3 e o1 g2 o2 ?_
  ((repeat refine Y00 ?_); (refine Ybf (F := _∧_∧_∧_) ⟨t3, t5, hg0, hc0⟩ p3 ?_))
  by_cases h1 : 0 < uh num
  · refine ggb0 h1 ?_
    refine exq Tryz.results133 ?_
    rw [Y7d (by omega)]
  by_cases h2 : 0 < uh den
  · ((refine ggb0 (F := _∧_) ⟨h1, h2⟩ ?_))
    refine exq Tryz.results133 ?_
    rw [Y7d (by omega)]
  have z1 : ul num = num := by omega
  have z2 : ul den = den := by omega
  have hs := Yjc neg num den (by omega)
  ((refine ggb1 (F := _∧_∧_∧_) ⟨h1, h2, z1, z2⟩ hs ?_))
  exact exx Tryz.results133
end Go.Proofs.YtpbpafmgkdihlaaGreatDoor.T
