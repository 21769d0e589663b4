import Derived.Test.YtjjpjgnoanfaoaaGreatTB
import Derived.Test.YtjjpjgnoanfaoaaGreatQWRJ
import Derived.Test.YtjjpjgnoanfaoaaGreatQWRS
import Derived.Test.YtjjpjgnoanfaoaaGreatWH
import Derived.Test.YtjjpjgnoanfaoaaGreatWN
set_option linter.all false
section
namespace Go.Proofs.YtjjpjgnoanfaoaaGreat.T
open Go Go.RowKit Lin
set_option linter.unusedSimpArgs false

/-! Lists of fractions. -/
def allV (l : List (Int × Int)) : Bool := l.all fun x => vfrac x.1 x.2
/-! Sums of products. -/
def dotF : List Int → List (Int × Int) → Int × Int → (Int × Int) × Int
  | n :: r, f :: x, s => if (mulP (n, 1) f).2 = 0 then (if (addP s (mulP (n, 1) f).1).2 = 0 then dotF r x (addP s (mulP (n, 1) f).1).1 else ((0, 0), (addP s (mulP (n, 1) f).1).2)) else ((0, 0), (mulP (n, 1) f).2)
  | _, _, s => (s, 0)
def prodA (x : List (Int × Int)) (acc : List (Int × Int)) : List (List Int) → List (Int × Int) × Int
  | [] => (acc, 0)
  | r :: m => if (dotF r x (0, 1)).2 = 0 then prodA x (acc ++ [(dotF r x (0, 1)).1]) m else ([], (dotF r x (0, 1)).2)
def prodP (m : List (List Int)) (x : List (Int × Int)) : List (Int × Int) × Int := if validP m = true ∧ allV x = true then (if x.length = wid m then prodA x [] m else ([], 3)) else ([], 1)
theorem madeP_valid {a d : Nat} {s : Bool} (hd : 0 < d) (h : (madeP a s d).2 = 0) : vfrac (madeP a s d).1.1 (madeP a s d).1.2 = true := by
  have hg : 0 < Nat.gcd a d := Nat.gcd_pos_of_pos_right _ hd
  have hc := Nat.coprime_div_gcd_div_gcd hg
  have hp : 0 < d / Nat.gcd a d := Nat.div_pos (Nat.le_of_dvd hd (Nat.gcd_dvd_right _ _)) hg
  have e : madeP a s d = signP s (a / Nat.gcd a d) (d / Nat.gcd a d) := by unfold madeP; rw [if_neg (by omega)]
  rw [e] at h ⊢
  generalize a / Nat.gcd a d = n at *
  generalize d / Nat.gcd a d = k at *
  unfold signP at h ⊢
  split at h
  · simp at h
  · rename_i hs
    rw [if_neg hs]
    have hc' : Nat.gcd n k = 1 := hc
    unfold vfrac
    cases s
    · simp [hc']; omega
    · simp [hc']; omega
theorem mulR_valid {a b : Int × Int} (ha : vfrac a.1 a.2 = true) (hb : vfrac b.1 b.2 = true) (h : (mulR a b).2 = 0) : vfrac (mulR a b).1.1 (mulR a b).1.2 = true := by
  obtain ⟨a1, _⟩ := fr_bounds ha
  obtain ⟨b1, _⟩ := fr_bounds hb
  exact madeP_valid (Nat.mul_pos (by omega) (by omega)) h
theorem addR_valid {a b : Int × Int} (ha : vfrac a.1 a.2 = true) (hb : vfrac b.1 b.2 = true) (h : (addR a b).2 = 0) : vfrac (addR a b).1.1 (addR a b).1.2 = true := by
  obtain ⟨a1, _⟩ := fr_bounds ha
  obtain ⟨b1, _⟩ := fr_bounds hb
  have hp : 0 < a.2.natAbs * b.2.natAbs := Nat.mul_pos (by omega) (by omega)
  unfold addR at h ⊢
  split at h
  · rename_i h1; rw [if_pos h1]; exact madeP_valid hp h
  · rename_i h1
    rw [if_neg h1]
    split at h
    · rename_i h2; rw [if_pos h2]; exact madeP_valid hp h
    · rename_i h2; rw [if_neg h2]; exact madeP_valid hp h
theorem mulP_ok {a b : Int × Int} (ha : vfrac a.1 a.2 = true) (hb : vfrac b.1 b.2 = true) : mulP a b = mulR a b := by unfold mulP; rw [if_pos ⟨ha, hb⟩]
theorem addP_ok {a b : Int × Int} (ha : vfrac a.1 a.2 = true) (hb : vfrac b.1 b.2 = true) : addP a b = addR a b := by unfold addP; rw [if_pos ⟨ha, hb⟩]
theorem vfrac_one {n : Int} (h : -1152921504606846976 ≤ n ∧ n ≤ 1152921504606846976) : vfrac n 1 = true := by
  unfold vfrac; simp; omega
end Go.Proofs.YtjjpjgnoanfaoaaGreat.T
end

section
namespace Go.Proofs.YtjjpjgnoanfaoaaGreat.T
open Go Go.RowKit Lin
set_option linter.unusedSimpArgs false

end Go.Proofs.YtjjpjgnoanfaoaaGreat.T
end

