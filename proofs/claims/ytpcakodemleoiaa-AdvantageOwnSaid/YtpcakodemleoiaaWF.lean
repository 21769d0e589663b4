import Derived.Test.YtpcakodemleoiaaTB
import Derived.Test.YtpcakodemleoiaaWE
import Derived.Test.YtpcakodemleoiaaRefJ
set_option linter.all false
namespace Go.Proofs.Ytpcakodemleoiaa.T
open Go Go.RowKit Lin
set_option linter.unusedSimpArgs false

/- Values that hold no memory. -/
mutual
def vOf : D → Value
  | .v x => x
  | .agg cs => .agg (vsOf cs).toArray
  | .tup cs => .tuple (vsOf cs).toArray
  | .fn f cs => .func (.func f) #[] (vsOf cs).toArray
  | _ => undef
def vsOf : List D → List Value
  | [] => []
  | d :: ds => vOf d :: vsOf ds
end
mutual
def noMem : D → Bool
  | .v _ => true
  | .agg cs => noMemL cs
  | .tup cs => noMemL cs
  | .fn _ cs => noMemL cs
  | _ => false
def noMemL : List D → Bool
  | [] => true
  | d :: ds => noMem d && noMemL ds
end
mutual
theorem vOf_eq {F : Mem} {G : Ghost} : ∀ (d : D) (u : Value), noMem d = true → Rep F G d u → u = vOf d
  | .v x, u, _, h => by simp only [Rep] at h; simp only [vOf]; exact h
  | .agg cs, u, hn, h => by simp only [Rep, noMem] at h hn; obtain ⟨vs, rfl, hL⟩ := h; simp only [vOf]; rw [vsOf_eq cs vs hn hL]
  | .tup cs, u, hn, h => by simp only [Rep, noMem] at h hn; obtain ⟨vs, rfl, hL⟩ := h; simp only [vOf]; rw [vsOf_eq cs vs hn hL]
  | .fn f cs, u, hn, h => by simp only [Rep, noMem] at h hn; obtain ⟨vs, rfl, hL⟩ := h; simp only [vOf]; rw [vsOf_eq cs vs hn hL]
  | .sl .., u, hn, _ => by simp [noMem] at hn
  | .rp .., u, hn, _ => by simp [noMem] at hn
  | .own .., u, hn, _ => by simp [noMem] at hn
  | .ptr .., u, hn, _ => by simp [noMem] at hn
  | .any, u, hn, _ => by simp [noMem] at hn
theorem vsOf_eq {F : Mem} {G : Ghost} : ∀ (ds : List D) (us : List Value), noMemL ds = true → RepL F G ds us → us = vsOf ds
  | [], us, _, h => by simpa only [RepL, vsOf] using h
  | d :: ds, us, hn, h => by
    simp only [RepL, noMemL, Bool.and_eq_true] at h hn
    obtain ⟨u, us', rfl, h1, h2⟩ := h
    simp only [vsOf]
    rw [vOf_eq d u hn.1 h1, vsOf_eq ds us' hn.2 h2]
end
mutual
theorem vOf_rep {F : Mem} {G : Ghost} : ∀ (d : D), noMem d = true → Rep F G d (vOf d)
  | .v x, _ => by simp only [Rep, vOf]
  | .agg cs, hn => by simp only [Rep, noMem, vOf] at hn ⊢; exact ⟨_, rfl, vsOf_rep cs hn⟩
  | .tup cs, hn => by simp only [Rep, noMem, vOf] at hn ⊢; exact ⟨_, rfl, vsOf_rep cs hn⟩
  | .fn f cs, hn => by simp only [Rep, noMem, vOf] at hn ⊢; exact ⟨_, rfl, vsOf_rep cs hn⟩
  | .sl .., hn => by simp [noMem] at hn
  | .rp .., hn => by simp [noMem] at hn
  | .own .., hn => by simp [noMem] at hn
  | .ptr .., hn => by simp [noMem] at hn
  | .any, hn => by simp [noMem] at hn
theorem vsOf_rep {F : Mem} {G : Ghost} : ∀ (ds : List D), noMemL ds = true → RepL F G ds (vsOf ds)
  | [], _ => by simp only [RepL, vsOf]
  | d :: ds, hn => by
    simp only [RepL, noMemL, vsOf, Bool.and_eq_true] at hn ⊢
    exact ⟨_, _, rfl, vOf_rep d hn.1, vsOf_rep ds hn.2⟩
end
/-- A contract over values that hold no memory. -/
theorem PRet.of_plain {P : Program} {f : FuncId} (ds : List D) (d : D) {us : Array Value} {u : Value} (hc : Callable P f) (h1 : noMemL ds = true) (h2 : noMem d = true) (hus : (vsOf ds).toArray = us) (hu : vOf d = u)
    (h : ∀ w, Calls P f us w fun e w' => e = .returned u ∧ Below w.heap.size w w') : PRet P f ds d := by
  subst hus; subst hu
  exact PRet.of_calls (us := vsOf ds) hc (fun F G vs hL => vsOf_eq ds vs h1 hL) (fun F => vOf_rep d h2) h

/-- A magnitude. -/
abbrev uD (n : Nat) : D := .agg [word (uh n), word (ul n)]
theorem refSize (n : Int) (h : -9223372036854775808 ≤ n ∧ n ≤ 9223372036854775807) : PRet Try.prog 86 [int n] (word n.natAbs) :=
  PRet.of_plain _ _ ⟨_, Try.func86, rfl, rfl⟩ rfl rfl rfl rfl fun w => (ref_Size n h.1 h.2 w).mono fun _ _ => below_same
theorem refMul (x y : Nat) (h : x < 18446744073709551616 ∧ y < 18446744073709551616) : PRet Try.prog 85 [word x, word y] (uD (x * y)) :=
  PRet.of_plain _ _ ⟨_, Try.func85, rfl, rfl⟩ rfl rfl rfl rfl fun w => ref_Mul x y h.1 h.2 w
theorem refPlus (a b : Nat) (h : a + b < 340282366920938463463374607431768211456) : PRet Try.prog 134 [uD a, uD b] (uD (a + b)) :=
  PRet.of_plain _ _ ⟨_, Try.func134, rfl, rfl⟩ rfl rfl rfl rfl fun w => ref_Plus (IsU.split (by omega)) (IsU.split (by omega)) h w
theorem refMinus (a b : Nat) (h : b ≤ a ∧ a < 340282366920938463463374607431768211456) : PRet Try.prog 133 [uD a, uD b] (uD (a - b)) :=
  PRet.of_plain _ _ ⟨_, Try.func133, rfl, rfl⟩ rfl rfl rfl rfl fun w => ref_Minus (IsU.split (by omega)) (IsU.split (by omega)) (by omega) w
theorem refLess (a b : Nat) (h : a < 340282366920938463463374607431768211456 ∧ b < 340282366920938463463374607431768211456) : PRet Try.prog 132 [uD a, uD b] (bool (decide (a < b))) :=
  PRet.of_plain _ _ ⟨_, Try.func132, rfl, rfl⟩ rfl rfl rfl rfl fun w => ref_Less (IsU.split h.1) (IsU.split h.2) w
theorem refDiv0 (a b : Nat) (h : a < 340282366920938463463374607431768211456 ∧ b < 340282366920938463463374607431768211456 ∧ 0 < b) (w : World) : Calls Try.prog 113 #[.agg #[.int .u64 (uh a), .int .u64 (ul a)], .agg #[.int .u64 (uh b), .int .u64 (ul b)]] w fun e w' =>
      e = .returned (.tuple #[.agg #[.int .u64 (uh (a / b)), .int .u64 (ul (a / b))], .agg #[.int .u64 (uh (a % b)), .int .u64 (ul (a % b))]]) ∧ Below w.heap.size w w' := by
  have ha := IsU.split h.1
  have hb := IsU.split h.2.1
  by_cases h1 : uh a = 0
  · by_cases h2 : uh b = 0
    · obtain ⟨a1, a2, a3, a4, a5⟩ := ha
      obtain ⟨b1, b2, b3, b4, b5⟩ := hb
      have := ref_Div_small (al := ul a) (bl := ul b) a3 a4 (by omega) b4 w
      have k1 : ul a = (a : Int) ∧ ul b = (b : Int) := by omega
      have q1 := Nat.div_le_self a b
      have q2 := Nat.mod_le a b
      have e1 : ul a / ul b = ul (a / b) ∧ uh (a / b) = 0 := by
        rw [k1.1, k1.2, ← Int.natCast_ediv]
        generalize a / b = x at *
        unfold ul uh
        omega
      have e2 : ul a % ul b = ul (a % b) ∧ uh (a % b) = 0 := by
        rw [k1.1, k1.2, ← Int.natCast_emod]
        generalize a % b = x at *
        unfold ul uh
        omega
      rw [e1.1, e2.1] at this
      rw [h1, h2, e1.2, e2.2]
      exact this
    · exact ref_Div_big ha hb h.2.2 (.inr ⟨by simpa using h1, by simpa using h2⟩) w
  · exact ref_Div_big ha hb h.2.2 (.inl (by simpa using h1)) w
theorem refDiv (a b : Nat) (h : a < 340282366920938463463374607431768211456 ∧ b < 340282366920938463463374607431768211456 ∧ 0 < b) : PRet Try.prog 113 [uD a, uD b] (.tup [uD (a / b), uD (a % b)]) :=
  PRet.of_plain _ _ ⟨_, Try.func113, rfl, rfl⟩ rfl rfl rfl rfl fun w => refDiv0 a b h w

theorem neg_mul_sg (a b : Int) : -(a * b) = sg (decide (a < 0) == decide (b < 0)) ((a.natAbs : Int) * b.natAbs) := by
  rw [sg_mul a b]
  unfold sg
  cases decide (a < 0) <;> cases decide (b < 0) <;> simp
end Go.Proofs.Ytpcakodemleoiaa.T
