import Derived.Test.YtcppnmohgaobdaaGreatRTB
import Derived.Test.YtcppnmohgaobdaaGreatRWE
import Derived.Test.YtcppnmohgaobdaaGreatRRefJ
set_option linter.all false
namespace Go.Proofs.YtcppnmohgaobdaaGreat.T
open Go Go.RowKit Lin
mutual
def vOf : D → Value
  | .v x => x
  | .agg cs => .agg (vsOf cs).toArray
  | .tup cs => .tuple (vsOf cs).toArray
  | .fn f cs => .func (.func f) #[] (vsOf cs).toArray
  | _ => undef
def vsOf : List D → List Value
  | [] => []
  | d :: ds => vOf d :: vsOf ds
end
mutual
def noMem : D → Bool
  | .v _ => true
  | .agg cs => noMemL cs
  | .tup cs => noMemL cs
  | .fn _ cs => noMemL cs
  | _ => false
def noMemL : List D → Bool
  | [] => true
  | d :: ds => noMem d && noMemL ds
end
mutual
theorem vOf_eq {F : Mem} {G : Ghost} : ∀ (d : D) (u : Value), noMem d = true → Rep F G d u → u = vOf d
  | .v x, u, _, h => by simp only [Rep] at h; simp only [vOf]; exact h
  | .agg cs, u, hn, h => by simp only [Rep, noMem] at h hn; obtain ⟨vs, rfl, hL⟩ := h; simp only [vOf]; rw [vsOf_eq cs vs hn hL]
  | .tup cs, u, hn, h => by simp only [Rep, noMem] at h hn; obtain ⟨vs, rfl, hL⟩ := h; simp only [vOf]; rw [vsOf_eq cs vs hn hL]
  | .fn f cs, u, hn, h => by simp only [Rep, noMem] at h hn; obtain ⟨vs, rfl, hL⟩ := h; simp only [vOf]; rw [vsOf_eq cs vs hn hL]
  | .sl .., u, hn, _ => by simp [noMem] at hn
  | .rp .., u, hn, _ => by simp [noMem] at hn
  | .own .., u, hn, _ => by simp [noMem] at hn
  | .ptr .., u, hn, _ => by simp [noMem] at hn
  | .any, u, hn, _ => by simp [noMem] at hn
theorem vsOf_eq {F : Mem} {G : Ghost} : ∀ (ds : List D) (us : List Value), noMemL ds = true → RepL F G ds us → us = vsOf ds
  | [], us, _, h => by simpa only [RepL, vsOf] using h
  | d :: ds, us, hn, h => by
    simp only [RepL, noMemL, Bool.and_eq_true] at h hn
    obtain ⟨u, us', rfl, h1, h2⟩ := h
    simp only [vsOf]
    rw [vOf_eq d u hn.1 h1, vsOf_eq ds us' hn.2 h2]
end
mutual
theorem vOf_rep {F : Mem} {G : Ghost} : ∀ (d : D), noMem d = true → Rep F G d (vOf d)
  | .v x, _ => by simp only [Rep, vOf]
  | .agg cs, hn => by simp only [Rep, noMem, vOf] at hn ⊢; exact ⟨_, rfl, vsOf_rep cs hn⟩
  | .tup cs, hn => by simp only [Rep, noMem, vOf] at hn ⊢; exact ⟨_, rfl, vsOf_rep cs hn⟩
  | .fn f cs, hn => by simp only [Rep, noMem, vOf] at hn ⊢; exact ⟨_, rfl, vsOf_rep cs hn⟩
  | .sl .., hn => by simp [noMem] at hn
  | .rp .., hn => by simp [noMem] at hn
  | .own .., hn => by simp [noMem] at hn
  | .ptr .., hn => by simp [noMem] at hn
  | .any, hn => by simp [noMem] at hn
theorem vsOf_rep {F : Mem} {G : Ghost} : ∀ (ds : List D), noMemL ds = true → RepL F G ds (vsOf ds)
  | [], _ => by simp only [RepL, vsOf]
  | d :: ds, hn => by
    simp only [RepL, noMemL, vsOf, Bool.and_eq_true] at hn ⊢
    exact ⟨_, _, rfl, vOf_rep d hn.1, vsOf_rep ds hn.2⟩
end
theorem PRet.of_plain {P : Program} {f : FuncId} (ds : List D) (d : D) {us : Array Value} {u : Value} (hc : Callable P f) (h1 : noMemL ds = true) (h2 : noMem d = true) (hus : (vsOf ds).toArray = us) (hu : vOf d = u)
    (h : ∀ w, Calls P f us w fun e w' => e = .returned u ∧ Below w.heap.size w w') : PRet P f ds d := by
  subst hus; subst hu
  exact PRet.of_calls (us := vsOf ds) hc (fun F G vs hL => vsOf_eq ds vs h1 hL) (fun F => vOf_rep d h2) h
abbrev uD (n : Nat) : D := .agg [word (uh n), word (ul n)]
end Go.Proofs.YtcppnmohgaobdaaGreat.T

