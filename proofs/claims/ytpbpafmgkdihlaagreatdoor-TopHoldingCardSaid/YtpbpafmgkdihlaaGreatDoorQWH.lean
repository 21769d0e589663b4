import Derived.Test.YtpbpafmgkdihlaaGreatDoorQTB
import Derived.Test.YtpbpafmgkdihlaaGreatDoorQWD
import Derived.Test.YtpbpafmgkdihlaaGreatDoorQWE
import Derived.Test.YtpbpafmgkdihlaaGreatDoorQTN
set_option linter.all false
namespace Go.Proofs.YtpbpafmgkdihlaaGreatDoor.T
open Go Go.RowKit Lin
def wid (m : List (List Int)) : Nat := (m.headD []).length
theorem Y8r {l : List Int} {x : Int} (h : Y0u l x = true) : ∀ n ∈ l, -x ≤ n ∧ n ≤ x := fun n hn => by
 simp only [Y0u, Bool.not_eq_true', List.any_eq_false, Bool.or_eq_true, decide_eq_true_eq, not_or] at h
 have := h n hn
 omega
theorem Y88 {l : List Int} {x : Int} (h : ∀ n ∈ l, -x ≤ n ∧ n ≤ x) : Y0u l x = true := by
 simp only [Y0u, Bool.not_eq_true', List.any_eq_false, Bool.or_eq_true, decide_eq_true_eq, not_or]
 intro n hn
 have := h n hn
 omega
theorem Y0v {m : List (List Int)} : Y1c m = true ↔ (1 ≤ m.length ∧ m.length ≤ 6) ∧ (1 ≤ wid m ∧ wid m ≤ 12) ∧ ∀ r ∈ m, r.length = wid m ∧ ∀ x ∈ r, -32 ≤ x ∧ x ≤ 32 := by
 unfold Y1c wid
 simp only [Bool.and_eq_true, decide_eq_true_eq, List.all_eq_true]
 constructor
 ·rintro ⟨h1, h2, h3⟩
  exact ⟨h1, h2, fun r hr => ⟨(h3 r hr).1, Y8r (h3 r hr).2⟩⟩
 ·rintro ⟨h1, h2, h3⟩
  exact ⟨h1, h2, fun r hr => ⟨(h3 r hr).1, Y88 (h3 r hr).2⟩⟩
theorem Y82 {r : List Int} {x : Int} (hx : 0 ≤ x) (h : ∀ n ∈ r, -x ≤ n ∧ n ≤ x) (j : Nat) : -x ≤ Lin.at_ r j ∧ Lin.at_ r j ≤ x := by
 unfold Lin.at_
 cases hj : r[j]? with
 | none => simp; omega
 | some y => exact h y (List.mem_of_getElem? hj)
theorem Y6o {m : List (List Int)} (h : Y1c m = true) : Small m (wid m) (wid m) := by
 obtain ⟨h1, h2, h3⟩ := Y0v.1 h
 refine ⟨h1.2, fun r hr => (h3 r hr).1, Nat.le_refl _, fun r hr j _ => Y82 (by decide) (h3 r hr).2 j, fun r hr j => ?_⟩
 have := Y82 (x := 32) (by decide) (h3 r hr).2 j
 omega
theorem Small.take {m : List (List Int)} {wd n : Nat} (h : Small m wd n) (i : Nat) : Small (m.take i) wd n :=
 ⟨by have := h.rows; simp; omega, fun r hr => h.lens r (List.mem_of_mem_take hr), h.le, fun r hr => h.num r (List.mem_of_mem_take hr), fun r hr => h.big r (List.mem_of_mem_take hr)⟩
def Yod (m : List (List Int)) (n : Nat) : Nat := (elim m n).pivots.length
theorem Yzw (m : List (List Int)) {w n : Nat} (hs : Small m w n) (hw' : w ≤ 1000) : PRet Tryz.prog 107 [mat m, int n] (Ytr (elim m n)) :=
 Yqk m w n hs.rows hs.lens hw' hs.le (fit hs)
end Go.Proofs.YtpbpafmgkdihlaaGreatDoor.T
