import Derived.Test.YtpbpafmgkdihlaaGreatDoorQTB
import Derived.Test.YtpbpafmgkdihlaaGreatDoorQWE
import Derived.Test.YtpbpafmgkdihlaaGreatDoorQRefJ
set_option linter.all false
namespace Go.Proofs.YtpbpafmgkdihlaaGreatDoor.T
open Go Go.RowKit Lin
mutual
def vOf : D → Value
 | .v x => x
 | .agg cs => .agg (vsOf cs).toArray
 | .tup cs => .tuple (vsOf cs).toArray
 | .fn f cs => .func (.func f) #[] (vsOf cs).toArray
 | _ => undef
def vsOf : List D → List Value
 | [] => []
 | d :: ds => vOf d :: vsOf ds
end
mutual
def Y4z : D → Bool
 | .v _ => true
 | .agg cs => Y7l cs
 | .tup cs => Y7l cs
 | .fn _ cs => Y7l cs
 | _ => false
def Y7l : List D → Bool
 | [] => true
 | d :: ds => Y4z d && Y7l ds
end
mutual
theorem Yyg {F : Mem} {G : Ghost} : ∀ (d : D) (u : Value), Y4z d = true → Rep F G d u → u = vOf d
 | .v x, u, _, h => by simp only [Rep] at h; simp only [vOf]; exact h
 | .agg cs, u, hn, h => by simp only [Rep, Y4z] at h hn; obtain ⟨vs, rfl, hL⟩ := h; simp only [vOf]; rw [Y9z cs vs hn hL]
 | .tup cs, u, hn, h => by simp only [Rep, Y4z] at h hn; obtain ⟨vs, rfl, hL⟩ := h; simp only [vOf]; rw [Y9z cs vs hn hL]
 | .fn f cs, u, hn, h => by simp only [Rep, Y4z] at h hn; obtain ⟨vs, rfl, hL⟩ := h; simp only [vOf]; rw [Y9z cs vs hn hL]
 | .sl .., u, hn, _ => by simp [Y4z] at hn
 | .rp .., u, hn, _ => by simp [Y4z] at hn
 | .own .., u, hn, _ => by simp [Y4z] at hn
 | .ptr .., u, hn, _ => by simp [Y4z] at hn
 | .any, u, hn, _ => by simp [Y4z] at hn
theorem Y9z {F : Mem} {G : Ghost} : ∀ (ds : List D) (us : List Value), Y7l ds = true → RepL F G ds us → us = vsOf ds
 | [], us, _, h => by simpa only [RepL, vsOf] using h
 | d :: ds, us, hn, h => by
  simp only [RepL, Y7l, Bool.and_eq_true] at h hn
  obtain ⟨u, us', rfl, h1, h2⟩ := h
  simp only [vsOf]
  rw [Yyg d u hn.1 h1, Y9z ds us' hn.2 h2]
end
mutual
theorem Ynb {F : Mem} {G : Ghost} : ∀ (d : D), Y4z d = true → Rep F G d (vOf d)
 | .v x, _ => by simp only [Rep, vOf]
 | .agg cs, hn => by simp only [Rep, Y4z, vOf] at hn ⊢; exact ⟨_, rfl, Y97 cs hn⟩
 | .tup cs, hn => by simp only [Rep, Y4z, vOf] at hn ⊢; exact ⟨_, rfl, Y97 cs hn⟩
 | .fn f cs, hn => by simp only [Rep, Y4z, vOf] at hn ⊢; exact ⟨_, rfl, Y97 cs hn⟩
 | .sl .., hn => by simp [Y4z] at hn
 | .rp .., hn => by simp [Y4z] at hn
 | .own .., hn => by simp [Y4z] at hn
 | .ptr .., hn => by simp [Y4z] at hn
 | .any, hn => by simp [Y4z] at hn
theorem Y97 {F : Mem} {G : Ghost} : ∀ (ds : List D), Y7l ds = true → RepL F G ds (vsOf ds)
 | [], _ => by simp only [RepL, vsOf]
 | d :: ds, hn => by
  simp only [RepL, Y7l, vsOf, Bool.and_eq_true] at hn ⊢
  exact ⟨_, _, rfl, Ynb d hn.1, Y97 ds hn.2⟩
end
theorem PRet.of_plain {P : Program} {f : FuncId} (ds : List D) (d : D) {us : Array Value} {u : Value} (hc : Y5b P f) (h1 : Y7l ds = true) (h2 : Y4z d = true) (hus : (vsOf ds).toArray = us) (hu : vOf d = u)
    (h : ∀ w, Calls P f us w fun e w' => e = .returned u ∧ Below w.heap.size w w') : PRet P f ds d := by
  subst hus; subst hu
  exact PRet.of_calls (us := vsOf ds) hc (fun F G vs hL => Y9z ds vs h1 hL) (fun F => Ynb d h2) h
abbrev uD (n : Nat) : D := .agg [word (uh n), word (ul n)]
theorem Ydd (n : Int) (h : -9223372036854775808 ≤ n ∧ n ≤ 9223372036854775807) : PRet Tryz.prog 37 [int n] (word n.natAbs) :=
 PRet.of_plain _ _ ⟨_, Tryz.func37, rfl, rfl⟩ rfl rfl rfl rfl fun w => (Ydb n h.1 h.2 w).mono fun _ _ => Y8m
theorem Yv4 (x y : Nat) (h : x < 18446744073709551616 ∧ y < 18446744073709551616) : PRet Tryz.prog 36 [word x, word y] (uD (x * y)) :=
 PRet.of_plain _ _ ⟨_, Tryz.func36, rfl, rfl⟩ rfl rfl rfl rfl fun w => Ywj x y h.1 h.2 w
theorem Ywl (a b : Nat) (h : a < 340282366920938463463374607431768211456 ∧ b < 340282366920938463463374607431768211456) : PRet Tryz.prog 38 [uD a, uD b] (bool (decide (a < b))) :=
 PRet.of_plain _ _ ⟨_, Tryz.func38, rfl, rfl⟩ rfl rfl rfl rfl fun w => Ydc (IsU.split h.1) (IsU.split h.2) w
end Go.Proofs.YtpbpafmgkdihlaaGreatDoor.T
