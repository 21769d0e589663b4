import Derived.Test.YtpbpafmgkdihlaaGreatDoorQWM
import Derived.Test.YtpbpafmgkdihlaaGreatDoorQWN
set_option linter.all false
namespace Go.Proofs.YtpbpafmgkdihlaaGreatDoor.T
open Go Go.RowKit Lin
theorem Yff {a b d e : Nat} (hd : 0 < d) (he : 0 < e) (h : a * e = b * d) : a / Nat.gcd a d = b / Nat.gcd b e ∧ d / Nat.gcd a d = e / Nat.gcd b e := by
 have g1 : 0 < Nat.gcd a d := Nat.gcd_pos_of_pos_right _ hd
 have g2 : 0 < Nat.gcd b e := Nat.gcd_pos_of_pos_right _ he
 have c1 := Nat.coprime_div_gcd_div_gcd g1
 have c2 := Nat.coprime_div_gcd_div_gcd g2
 have a1 := Nat.div_mul_cancel (Nat.gcd_dvd_left a d)
 have d1 := Nat.div_mul_cancel (Nat.gcd_dvd_right a d)
 have b1 := Nat.div_mul_cancel (Nat.gcd_dvd_left b e)
 have e1 := Nat.div_mul_cancel (Nat.gcd_dvd_right b e)
 generalize a / Nat.gcd a d = x at *
 generalize d / Nat.gcd a d = y at *
 generalize b / Nat.gcd b e = z at *
 generalize e / Nat.gcd b e = w at *
 generalize Nat.gcd a d = g at *
 generalize Nat.gcd b e = k at *
 have key : x * w = z * y := by
  have h' : (x * w) * (g * k) = (z * y) * (g * k) := by
   rw [← a1, ← d1, ← b1, ← e1] at h
   calc (x * w) * (g * k) = (x * g) * (w * k) := by ac_rfl
    _ = (z * k) * (y * g) := h
    _ = (z * y) * (g * k) := by ac_rfl
  exact Nat.eq_of_mul_eq_mul_right (Nat.mul_pos g1 g2) h'
 have hx : x = z := Nat.dvd_antisymm (c1.dvd_of_dvd_mul_right (key ▸ Nat.dvd_mul_right x w)) (c2.dvd_of_dvd_mul_right (key ▸ Nat.dvd_mul_right z y))
 have hy : y = w := Nat.dvd_antisymm (c1.symm.dvd_of_dvd_mul_left (key ▸ Nat.dvd_mul_left y z)) (c2.symm.dvd_of_dvd_mul_left (key ▸ Nat.dvd_mul_left w x))
 exact ⟨hx, hy⟩
theorem neg_mul {a d : Int} (ha : a ≠ 0) (hd : d ≠ 0) : (decide (a < 0) != decide (d < 0)) = decide (a * d < 0) := by
 rcases Int.lt_or_gt_of_ne ha with h1 | h1 <;> rcases Int.lt_or_gt_of_ne hd with h2 | h2
 ·have : 0 < a * d := Int.mul_pos_of_neg_of_neg h1 h2
  simp [h1, h2]; omega
 ·have : a * d < 0 := Int.mul_neg_of_neg_of_pos h1 h2
  have h3 : ¬ d < 0 := by omega
  simp [h1, h3, this]
 ·have : a * d < 0 := Int.mul_neg_of_pos_of_neg h1 h2
  have h3 : ¬ a < 0 := by omega
  simp [h2, h3, this]
 ·have : 0 < a * d := Int.mul_pos h1 h2
  have h3 : ¬ a < 0 := by omega
  have h4 : ¬ d < 0 := by omega
  simp [h3, h4]; omega
theorem Yen (l : List (List Int)) (k n : Nat) : (l.drop k).any (fun r => Lin.at_ r n != 0) = false ↔ ∀ i, k ≤ i → i < l.length → Lin.at_ (Lin.row l i) n = 0 := by
 rw [List.any_eq_false]
 constructor
 ·intro h i hk hi
  have hm : Lin.row l i ∈ l.drop k := by
   rw [row_get hi]
   refine List.mem_of_getElem? (i := i - k) ?_
   rw [List.getElem?_drop, show k + (i - k) = i by omega, List.getElem?_eq_getElem hi]
  have := h _ hm
  simpa using this
 ·intro h r hr
  obtain ⟨i, hi⟩ := List.mem_iff_getElem?.1 hr
  rw [List.getElem?_drop] at hi
  have hl := (List.getElem?_eq_some_iff.1 hi).1
  have := h (k + i) (by omega) hl
  simp only [Lin.row, hi, Option.getD_some] at this
  simp [this]
end Go.Proofs.YtpbpafmgkdihlaaGreatDoor.T
