set_option linter.all false
/- Plain arithmetic: the greatest integer whose square is not greater. No program in sight. -/
namespace Go.Proofs.Ytjjpjgnoanfaoaa

def isqGo (n : Nat) : Nat → Nat → Nat
  | 0, r => r
  | k + 1, r => isqGo n k (if (r + 2 ^ k) * (r + 2 ^ k) ≤ n then r + 2 ^ k else r)
def isqrt (n : Nat) : Nat := isqGo n 31 0

theorem isqGo_spec (n : Nat) : ∀ k r, r * r ≤ n → n < (r + 2 ^ k) * (r + 2 ^ k) → isqGo n k r * isqGo n k r ≤ n ∧ n < (isqGo n k r + 1) * (isqGo n k r + 1)
  | 0, r, h1, h2 => by simpa [isqGo] using And.intro h1 h2
  | k + 1, r, h1, h2 => by
    rw [isqGo]
    by_cases c : (r + 2 ^ k) * (r + 2 ^ k) ≤ n
    · rw [if_pos c]
      refine isqGo_spec n k (r + 2 ^ k) c ?_
      rw [show r + 2 ^ k + 2 ^ k = r + 2 ^ (k + 1) by rw [Nat.pow_succ]; omega]
      exact h2
    · rw [if_neg c]
      exact isqGo_spec n k r h1 (by omega)

theorem isqrt_spec (n : Nat) (h : n < 4611686018427387904) : isqrt n * isqrt n ≤ n ∧ n < (isqrt n + 1) * (isqrt n + 1) := by
  refine isqGo_spec n 31 0 (Nat.zero_le _) ?_
  simpa using h

theorem sq_unique (n r s : Nat) (h1 : r * r ≤ n) (h2 : n < (r + 1) * (r + 1)) (h3 : s * s ≤ n) (h4 : n < (s + 1) * (s + 1)) : r = s := by
  have a : r < s + 1 := Nat.lt_of_not_le fun h => by
    have := Nat.mul_le_mul h h
    omega
  have b : s < r + 1 := Nat.lt_of_not_le fun h => by
    have := Nat.mul_le_mul h h
    omega
  omega

theorem isqrt_le (n : Nat) (h : n ≤ 1152921504606846976) : isqrt n ≤ 1073741824 := by
  refine Nat.le_of_not_lt fun c => ?_
  have := (isqrt_spec n (by omega)).1
  have := Nat.mul_le_mul (Nat.succ_le_of_lt c) (Nat.succ_le_of_lt c)
  omega

end Go.Proofs.Ytjjpjgnoanfaoaa
