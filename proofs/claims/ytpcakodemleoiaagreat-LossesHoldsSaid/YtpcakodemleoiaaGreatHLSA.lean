import Derived.Test.YtpcakodemleoiaaGreatHWM
import Derived.Test.YtpcakodemleoiaaGreatHWN
set_option linter.all false
namespace Go.Proofs.YtpcakodemleoiaaGreat.T
open Go Go.RowKit Lin
theorem Y7l {a b d e : Nat} (hd : 0 < d) (he : 0 < e) (h : a * e = b * d) : a / Nat.gcd a d = b / Nat.gcd b e ∧ d / Nat.gcd a d = e / Nat.gcd b e := by
 have g1 : 0 < Nat.gcd a d := Nat.gcd_pos_of_pos_right _ hd
 have g2 : 0 < Nat.gcd b e := Nat.gcd_pos_of_pos_right _ he
 have c1 := Nat.coprime_div_gcd_div_gcd g1
 have c2 := Nat.coprime_div_gcd_div_gcd g2
 have a1 := Nat.div_mul_cancel (Nat.gcd_dvd_left a d)
 have d1 := Nat.div_mul_cancel (Nat.gcd_dvd_right a d)
 have b1 := Nat.div_mul_cancel (Nat.gcd_dvd_left b e)
 have e1 := Nat.div_mul_cancel (Nat.gcd_dvd_right b e)
 generalize a / Nat.gcd a d = x at *
 generalize d / Nat.gcd a d = y at *
 generalize b / Nat.gcd b e = z at *
 generalize e / Nat.gcd b e = w at *
 generalize Nat.gcd a d = g at *
 generalize Nat.gcd b e = k at *
 have key : x * w = z * y := by
  have h' : (x * w) * (g * k) = (z * y) * (g * k) := by
   rw [← a1, ← d1, ← b1, ← e1] at h
   calc (x * w) * (g * k) = (x * g) * (w * k) := by ac_rfl
    _ = (z * k) * (y * g) := h
    _ = (z * y) * (g * k) := by ac_rfl
  exact Nat.eq_of_mul_eq_mul_right (Nat.mul_pos g1 g2) h'
 have hx : x = z := Nat.dvd_antisymm (c1.dvd_of_dvd_mul_right (key ▸ Nat.dvd_mul_right x w)) (c2.dvd_of_dvd_mul_right (key ▸ Nat.dvd_mul_right z y))
 have hy : y = w := Nat.dvd_antisymm (c1.symm.dvd_of_dvd_mul_left (key ▸ Nat.dvd_mul_left y z)) (c2.symm.dvd_of_dvd_mul_left (key ▸ Nat.dvd_mul_left w x))
 exact ⟨hx, hy⟩
theorem neg_mul {a d : Int} (ha : a ≠ 0) (hd : d ≠ 0) : (decide (a < 0) != decide (d < 0)) = decide (a * d < 0) := by
 rcases Int.lt_or_gt_of_ne ha with h1 | h1 <;> rcases Int.lt_or_gt_of_ne hd with h2 | h2
 ·have : 0 < a * d := Int.mul_pos_of_neg_of_neg h1 h2
  simp [h1, h2]; omega
 ·have : a * d < 0 := Int.mul_neg_of_neg_of_pos h1 h2
  have h3 : ¬ d < 0 := by omega
  simp [h1, h3, this]
 ·have : a * d < 0 := Int.mul_neg_of_pos_of_neg h1 h2
  have h3 : ¬ a < 0 := by omega
  simp [h2, h3, this]
 ·have : 0 < a * d := Int.mul_pos h1 h2
  have h3 : ¬ a < 0 := by omega
  have h4 : ¬ d < 0 := by omega
  simp [h3, h4]; omega
theorem makeP_same {a b d e : Int} (hd : d ≠ 0) (he : e ≠ 0) (h : a * e = b * d) : makeP a d = makeP b e := by
 have hn : a.natAbs * e.natAbs = b.natAbs * d.natAbs := by rw [← Int.natAbs_mul, ← Int.natAbs_mul, h]
 obtain ⟨h1, h2⟩ := Y7l (by omega) (by omega) hn
 unfold makeP
 rw [if_neg hd, if_neg he, h1, h2]
 congr 1
 by_cases ha : a = 0
 ·subst ha
  have hb : b = 0 := by
   rcases Int.mul_eq_zero.1 (show b * d = 0 by rw [← h]; simp) with h | h
   ·exact h
   ·exact absurd h hd
  subst hb; simp
 ·have hb : b ≠ 0 := fun hb => by
   subst hb
   rcases Int.mul_eq_zero.1 (show a * e = 0 by rw [h]; simp) with h | h
   ·exact ha h
   ·exact he h
  rw [neg_mul ha hd, neg_mul hb he]
  have e1 : (a * d) * (e * e) = (b * e) * (d * d) := by
   calc (a * d) * (e * e) = (a * e) * (d * e) := by ac_rfl
    _ = (b * d) * (d * e) := by rw [h]
    _ = (b * e) * (d * d) := by ac_rfl
  have pe : 0 < e * e := by
   rcases Int.lt_or_gt_of_ne he with h | h
   ·exact Int.mul_pos_of_neg_of_neg h h
   ·exact Int.mul_pos h h
  have pd : 0 < d * d := by
   rcases Int.lt_or_gt_of_ne hd with h | h
   ·exact Int.mul_pos_of_neg_of_neg h h
   ·exact Int.mul_pos h h
  have ha' : decide (a ≠ 0) = true := by simpa using ha
  have hb' : decide (b ≠ 0) = true := by simpa using hb
  rw [ha', hb', Bool.true_and, Bool.true_and]
  rw [Bool.eq_iff_iff, decide_eq_true_eq, decide_eq_true_eq]
  constructor
  ·intro hl
   have := Int.mul_neg_of_neg_of_pos hl pe
   rw [e1] at this
   apply Classical.byContradiction
   intro hge
   have := Int.mul_nonneg (show 0 ≤ b * e by omega) (show 0 ≤ d * d by omega)
   omega
  ·intro hl
   have := Int.mul_neg_of_neg_of_pos hl pd
   rw [← e1] at this
   apply Classical.byContradiction
   intro hge
   have := Int.mul_nonneg (show 0 ≤ a * d by omega) (show 0 ≤ e * e by omega)
   omega
theorem Yb4 (l : List (List Int)) (k n : Nat) : (l.drop k).any (fun r => Lin.at_ r n != 0) = false ↔ ∀ i, k ≤ i → i < l.length → Lin.at_ (Lin.row l i) n = 0 := by
 rw [List.any_eq_false]
 constructor
 ·intro h i hk hi
  have hm : Lin.row l i ∈ l.drop k := by
   rw [Y4v hi]
   refine List.mem_of_getElem? (i := i - k) ?_
   rw [List.getElem?_drop, show k + (i - k) = i by omega, List.getElem?_eq_getElem hi]
  have := h _ hm
  simpa using this
 ·intro h r hr
  obtain ⟨i, hi⟩ := List.mem_iff_getElem?.1 hr
  rw [List.getElem?_drop] at hi
  have hl := (List.getElem?_eq_some_iff.1 hi).1
  have := h (k + i) (by omega) hl
  simp only [Lin.row, hi, Option.getD_some] at this
  simp [this]
theorem Ybu {M : List (List Int)} {n : Nat} {f g : Frm} (hf : Lin.Inv M n n f) (hg : Lin.Inv M n n g) (e : f.pivots = g.pivots) {c : Nat} (hc : c < n) : ∀ k, k ≤ f.pivots.length → nvec f n c k = nvec g n c k
 | 0, _ => rfl
 | k + 1, hk => by
  simp only [nvec]
  rw [Ybu hf hg e hc k (by omega), ← e]
  have := values_agree hf hg e hc (hf.van_lt hc) k (by omega)
  rw [makeP_same (b := -(Lin.at_ (Lin.row g.rows k) c)) hf.den0 hg.den0 (by rw [Int.neg_mul, Int.neg_mul, this])]
theorem Y9d {M : List (List Int)} {n : Nat} {f g : Frm} (hf : Lin.Inv M n n f) (hg : Lin.Inv M n n g) (e : f.pivots = g.pivots) : ∀ c, c ≤ n → nulls f n c = nulls g n c
 | 0, _ => rfl
 | c + 1, hc => by
  simp only [nulls]
  rw [Y9d hf hg e c (by omega), Ybu hf hg e (by omega) f.pivots.length (Nat.le_refl _), e]
end Go.Proofs.YtpcakodemleoiaaGreat.T

