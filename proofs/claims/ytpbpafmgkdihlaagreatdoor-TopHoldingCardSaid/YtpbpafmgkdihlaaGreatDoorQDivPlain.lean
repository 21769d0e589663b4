
set_option linter.all false
namespace Go.Proofs.YtpbpafmgkdihlaaGreatDoor.Knuth
theorem Yfx (q y1 y0 r u3 u1 : Nat) (h : q * y1 + r = u3) : q * (y1 * 4294967296 + y0) + (r * 4294967296 + u1) = (u3 * 4294967296 + u1) + q * y0 := by
 subst h
 rw [Nat.mul_add, Nat.add_mul, Nat.mul_assoc]
 omega
theorem init (y1 y0 u3 u1 : Nat) (h1 : 2147483648 ≤ y1) (h2 : y1 < 4294967296) (h3 : y0 < 4294967296) (hu : u3 < y1 * 4294967296 + y0) (hu1 : u1 < 4294967296) :
    u3 / y1 * y1 + u3 % y1 = u3 ∧ (u3 * 4294967296 + u1) / (y1 * 4294967296 + y0) ≤ u3 / y1 ∧ u3 / y1 ≤ 4294967297 ∧ u3 % y1 < 4294967296 := by
  have e := Nat.div_add_mod' u3 y1
  have m : u3 % y1 < y1 := Nat.mod_lt _ (by omega)
  refine ⟨e, ?_, ?_, by omega⟩
  · refine Nat.le_of_lt_succ ((Nat.div_lt_iff_lt_mul (by omega)).2 ?_)
    have a : u3 + 1 ≤ (u3 / y1 + 1) * y1 := by rw [Nat.add_mul]; omega
    have b : (u3 / y1 + 1) * (y1 * 4294967296 + y0) = (u3 / y1 + 1) * y1 * 4294967296 + (u3 / y1 + 1) * y0 := by rw [Nat.mul_add, Nat.mul_assoc]
    rw [Nat.succ_eq_add_one, b]
    omega
  · refine Nat.le_of_lt_succ ((Nat.div_lt_iff_lt_mul (by omega)).2 ?_)
    omega
theorem quot_lt (y1 y0 u3 u1 : Nat) (hu : u3 < y1 * 4294967296 + y0) (hu1 : u1 < 4294967296) : (u3 * 4294967296 + u1) / (y1 * 4294967296 + y0) < 4294967296 :=
 (Nat.div_lt_iff_lt_mul (by omega)).2 (by omega)
theorem step (y1 y0 u3 u1 q r : Nat) (hu : u3 < y1 * 4294967296 + y0) (hu1 : u1 < 4294967296) (h : q * y1 + r = u3)
    (hq : (u3 * 4294967296 + u1) / (y1 * 4294967296 + y0) ≤ q) (t : 4294967296 ≤ q ∨ 4294967296 * r + u1 < q * y0) :
    1 ≤ q ∧ (u3 * 4294967296 + u1) / (y1 * 4294967296 + y0) ≤ q - 1 ∧ (q - 1) * y1 + (r + y1) = u3 := by
  have k : 1 ≤ q := by
    rcases t with t | t
    · omega
    · rcases Nat.eq_zero_or_pos q with e | e
      · subst e; omega
      · exact e
  refine ⟨k, ?_, ?_⟩
  · refine Nat.le_of_lt_succ ?_
    rw [Nat.succ_eq_add_one, Nat.sub_add_cancel k]
    rcases t with t | t
    · have := quot_lt y1 y0 u3 u1 hu hu1; omega
    · refine (Nat.div_lt_iff_lt_mul (by omega)).2 ?_
      have := Yfx q y1 y0 r u3 u1 h
      omega
  · obtain ⟨p, rfl⟩ : ∃ p, q = p + 1 := ⟨q - 1, by omega⟩
    rw [Nat.add_sub_cancel]
    rw [Nat.add_mul] at h
    omega
theorem done (y1 y0 u3 u1 q r : Nat) (h1 : 2147483648 ≤ y1) (h : q * y1 + r = u3)
    (hq : (u3 * 4294967296 + u1) / (y1 * 4294967296 + y0) ≤ q) (t : q * y0 ≤ 4294967296 * r + u1) : q = (u3 * 4294967296 + u1) / (y1 * 4294967296 + y0) := by
  refine Nat.le_antisymm ((Nat.le_div_iff_mul_le (by omega)).2 ?_) hq
  have := Yfx q y1 y0 r u3 u1 h
  omega
theorem Y104 (y1 y0 u3 u1 q r : Nat) (h1 : 2147483648 ≤ y1) (h3 : y0 < 4294967296) (h : q * y1 + r = u3)
    (hq : (u3 * 4294967296 + u1) / (y1 * 4294967296 + y0) ≤ q) (hb : q ≤ 4294967296) (t : 4294967296 ≤ r) : q = (u3 * 4294967296 + u1) / (y1 * 4294967296 + y0) := by
  refine done y1 y0 u3 u1 q r h1 h hq ?_
  have : q * y0 ≤ 4294967296 * y0 := Nat.mul_le_mul_right _ hb
  omega
theorem rest (N y q : Nat) (hq : q = N / y) : N - q * y = N % y ∧ q * y ≤ N := by
 subst hq
 have := Nat.div_add_mod' N y
 omega
theorem Yyc (y N u0 B : Nat) (hy : 0 < y) :
    (N / y) * B + (N % y * B + u0) / y = (N * B + u0) / y ∧ (N % y * B + u0) % y = (N * B + u0) % y := by
  have e : N * B + u0 = (N % y * B + u0) + y * (N / y * B) := by
    have h := Nat.div_add_mod' N y
    have g : y * (N / y * B) = N / y * y * B := by rw [← Nat.mul_assoc, Nat.mul_comm y]
    have k : N * B = N / y * y * B + N % y * B := by rw [← Nat.add_mul, h]
    rw [g, k]
    omega
  generalize N % y * B + u0 = A at e ⊢
  have d : (A + y * (N / y * B)) / y = A / y + N / y * B := Nat.add_mul_div_left _ _ hy
  have m : (A + y * (N / y * B)) % y = A % y := Nat.add_mul_mod_self_left _ _ _
  rw [← e] at d m
  omega
theorem whole (y u3 u1 u0 : Nat) (hy : 0 < y) :
    ((u3 * 4294967296 + u1) / y) * 4294967296 + ((u3 * 4294967296 + u1) % y * 4294967296 + u0) / y = ((u3 * 4294967296 + u1) * 4294967296 + u0) / y ∧
    ((u3 * 4294967296 + u1) % y * 4294967296 + u0) % y = ((u3 * 4294967296 + u1) * 4294967296 + u0) % y :=
  Yyc y (u3 * 4294967296 + u1) u0 4294967296 hy
theorem glue (u3 L : Nat) : (u3 * 4294967296 + L / 4294967296) * 4294967296 + L % 4294967296 = u3 * 18446744073709551616 + L := by
 omega
theorem scaled (n y p : Nat) (hp : 0 < p) : n * p / (y * p) = n / y ∧ n * p % (y * p) / p = n % y := by
 refine ⟨Nat.mul_div_mul_right n y hp, ?_⟩
 rw [Nat.mul_mod_mul_right, Nat.mul_div_cancel _ hp]
theorem ways (y1 y0 u3 u1 q r : Nat) (h1 : 2147483648 ≤ y1) (h3 : y0 < 4294967296) (hu : u3 < y1 * 4294967296 + y0) (hu1 : u1 < 4294967296)
    (h : q * y1 + r = u3) (hq : (u3 * 4294967296 + u1) / (y1 * 4294967296 + y0) ≤ q) (hb : q ≤ 4294967297) :
    ((4294967296 : Int) ≤ (q : Int) ∧ ¬ (4294967296 : Int) ≤ (r : Int) + (y1 : Int) ∧ (1 : Int) ≤ (q : Int) ∧ (q - 1) * y1 + (r + y1) = u3 ∧ (u3 * 4294967296 + u1) / (y1 * 4294967296 + y0) ≤ q - 1 ∧ q - 1 ≤ 4294967297 ∧ r + y1 < 4294967296) ∨
    (((¬ (4294967296 : Int) ≤ (q : Int)) ∧ (q : Int) * (y0 : Int) ≤ 18446744065119617025 ∧ (4294967296 : Int) * (r : Int) + (u1 : Int) < (q : Int) * (y0 : Int)) ∧ ¬ (4294967296 : Int) ≤ (r : Int) + (y1 : Int) ∧ (1 : Int) ≤ (q : Int) ∧ (q - 1) * y1 + (r + y1) = u3 ∧ (u3 * 4294967296 + u1) / (y1 * 4294967296 + y0) ≤ q - 1 ∧ q - 1 ≤ 4294967297 ∧ r + y1 < 4294967296) ∨
    ((4294967296 : Int) ≤ (q : Int) ∧ (4294967296 : Int) ≤ (r : Int) + (y1 : Int) ∧ (1 : Int) ≤ (q : Int) ∧ q - 1 = (u3 * 4294967296 + u1) / (y1 * 4294967296 + y0)) ∨
    (((¬ (4294967296 : Int) ≤ (q : Int)) ∧ (q : Int) * (y0 : Int) ≤ 18446744065119617025 ∧ (4294967296 : Int) * (r : Int) + (u1 : Int) < (q : Int) * (y0 : Int)) ∧ (4294967296 : Int) ≤ (r : Int) + (y1 : Int) ∧ (1 : Int) ≤ (q : Int) ∧ q - 1 = (u3 * 4294967296 + u1) / (y1 * 4294967296 + y0)) ∨
    (((¬ (4294967296 : Int) ≤ (q : Int)) ∧ (q : Int) * (y0 : Int) ≤ 18446744065119617025) ∧ (¬ (4294967296 : Int) * (r : Int) + (u1 : Int) < (q : Int) * (y0 : Int)) ∧ q = (u3 * 4294967296 + u1) / (y1 * 4294967296 + y0)) := by
  by_cases t : 4294967296 ≤ q
  · obtain ⟨s1, s2, s3⟩ := step y1 y0 u3 u1 q r hu hu1 h hq (Or.inl t)
    by_cases u : 4294967296 ≤ r + y1
    · refine Or.inr (Or.inr (Or.inl ⟨by omega, by omega, by omega, ?_⟩))
      exact Y104 y1 y0 u3 u1 (q - 1) (r + y1) h1 h3 s3 s2 (by omega) u
    · exact Or.inl ⟨by omega, by omega, by omega, s3, s2, by omega, by omega⟩
  · have pq : q * y0 ≤ 4294967295 * 4294967295 := Nat.mul_le_mul (by omega) (by omega)
    have pq' : (q : Int) * (y0 : Int) ≤ 18446744065119617025 := by rw [← Int.natCast_mul]; omega
    by_cases t2 : 4294967296 * r + u1 < q * y0
    · have t3 : (4294967296 : Int) * (r : Int) + (u1 : Int) < (q : Int) * (y0 : Int) := by rw [← Int.natCast_mul]; omega
      obtain ⟨s1, s2, s3⟩ := step y1 y0 u3 u1 q r hu hu1 h hq (Or.inr t2)
      by_cases u : 4294967296 ≤ r + y1
      · refine Or.inr (Or.inr (Or.inr (Or.inl ⟨⟨by omega, pq', t3⟩, by omega, by omega, ?_⟩)))
        exact Y104 y1 y0 u3 u1 (q - 1) (r + y1) h1 h3 s3 s2 (by omega) u
      · exact Or.inr (Or.inl ⟨⟨by omega, pq', t3⟩, by omega, by omega, s3, s2, by omega, by omega⟩)
    · have t3 : ¬ (4294967296 : Int) * (r : Int) + (u1 : Int) < (q : Int) * (y0 : Int) := by rw [← Int.natCast_mul]; omega
      exact Or.inr (Or.inr (Or.inr (Or.inr ⟨⟨by omega, pq'⟩, t3, done y1 y0 u3 u1 q r h1 h hq (by omega)⟩)))
end Go.Proofs.YtpbpafmgkdihlaaGreatDoor.Knuth
