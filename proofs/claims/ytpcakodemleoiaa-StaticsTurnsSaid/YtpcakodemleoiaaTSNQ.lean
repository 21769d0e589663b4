import Derived.Test.YtpcakodemleoiaaSFJ
import Derived.Test.YtpcakodemleoiaaSHJ
import Derived.Test.YtpcakodemleoiaaWPJ
import Derived.Test.YtpcakodemleoiaaTSKM
set_option linter.all false
section
section
namespace Go.Proofs.Ytpcakodemleoiaa.T
open Go Go.RowKit Lin
set_option linter.unusedSimpArgs false

/-! Differences, sums of products. -/
theorem vfrac_neg {a b : Int} (h : vfrac a b = true) : vfrac (-a) b = true := by
  unfold vfrac at h ⊢
  simp only [Bool.and_eq_true, decide_eq_true_eq, Int.natAbs_neg] at h ⊢
  omega
def subP (a b : Int × Int) : (Int × Int) × Int := if vfrac a.1 a.2 = true ∧ vfrac b.1 b.2 = true then addR a (-b.1, b.2) else ((0, 0), 1)
def plusP (s : Int × Int) (n : Int) (f : Int × Int) : (Int × Int) × Int := if (mulP (n, 1) f).2 = 0 then addP s (mulP (n, 1) f).1 else ((0, 0), (mulP (n, 1) f).2)
theorem dotF_plus {r : List Int} {x : List (Int × Int)} {k : Nat} {n : Int} {f : Int × Int} (hr : r[k]? = some n) (hx : x[k]? = some f) (s : Int × Int) : dotF (r.drop k) (x.drop k) s = if (plusP s n f).2 = 0 then dotF (r.drop (k + 1)) (x.drop (k + 1)) (plusP s n f).1 else ((0, 0), (plusP s n f).2) := by
  rw [dotF_step hr hx]
  unfold plusP
  split
  · rfl
  · rfl
theorem plusP_valid {s f : Int × Int} {n : Int} (hs : vfrac s.1 s.2 = true) (hf : vfrac f.1 f.2 = true) (hn : -1152921504606846976 ≤ n ∧ n ≤ 1152921504606846976) (h : (plusP s n f).2 = 0) : vfrac (plusP s n f).1.1 (plusP s n f).1.2 = true := by
  have h1 : vfrac n 1 = true := vfrac_one (by omega)
  unfold plusP at h ⊢
  split at h
  · rename_i h2
    rw [if_pos h2]
    rw [mulP_ok h1 hf] at *
    have hv := mulR_valid (a := (n, 1)) h1 hf h2
    rw [addP_ok hs hv] at *
    exact addR_valid hs hv h
  · rename_i h2; exact absurd h h2
theorem allV_at {l : List (Int × Int)} {k : Nat} {f : Int × Int} (h : allV l = true) (hk : l[k]? = some f) : vfrac f.1 f.2 = true := by
  unfold allV at h
  rw [List.all_eq_true] at h
  exact h f (List.mem_of_getElem? hk)
/-! What is given. -/
def givE (s : Sy) (l : List (Int × Int)) : Int := if validS s = true ∧ allV l = true then (if l.length = s.rs.length then 0 else 3) else 1
end Go.Proofs.Ytpcakodemleoiaa.T
end

section
namespace Go.Proofs.Ytpcakodemleoiaa.T
open Go Go.RowKit Lin
set_option linter.unusedSimpArgs false

/-! The total of tensions. -/
theorem givE_zero {s : Sy} {l : List (Int × Int)} (h : givE s l = 0) : validS s = true ∧ allV l = true ∧ l.length = s.rs.length := by
  unfold givE at h
  split at h
  · rename_i h1
    split at h
    · rename_i h2; exact ⟨h1.1, h1.2, h2⟩
    · cases h
  · cases h
end Go.Proofs.Ytpcakodemleoiaa.T
end

section
namespace Go.Proofs.Ytpcakodemleoiaa.T
open Go Go.RowKit Lin
set_option linter.unusedSimpArgs false

/-! The total of tensions, by the reference. -/
theorem fz_frS (b g : Nat) (cs : List D) : ∀ l : List (Int × Int), fzL b g cs (frC l) = frC l
  | [] => by simp only [frC, List.flatMap_nil, fzL]
  | x :: l => by have := fz_frS b g cs l; simp only [frC, List.flatMap_cons, List.cons_append, List.nil_append, fzL, fz] at this ⊢; rw [this]
end Go.Proofs.Ytpcakodemleoiaa.T
end

section
namespace Go.Proofs.Ytpcakodemleoiaa.T
open Go Go.RowKit Lin
set_option linter.unusedSimpArgs false

/-! Chapter 11: the law of totals. -/
end Go.Proofs.Ytpcakodemleoiaa.T
end
end

section
section
namespace Go.Proofs.Ytpcakodemleoiaa.T
open Go Go.RowKit Lin
set_option linter.unusedSimpArgs false

/-! The residuals. -/
def resA (l : List (Int × Int)) : List (List Int) → List Int → List (Int × Int) → List (Int × Int) × Int
  | r :: m, w :: ws, acc => if (dotF r l (0, 1)).2 = 0 then (if (subP (w, 1) (dotF r l (0, 1)).1).2 = 0 then resA l m ws (acc ++ [(subP (w, 1) (dotF r l (0, 1)).1).1]) else ([], (subP (w, 1) (dotF r l (0, 1)).1).2)) else ([], (dotF r l (0, 1)).2)
  | _, _, acc => (acc, 0)
def resP (s : Sy) (l : List (Int × Int)) : List (Int × Int) × Int := if givE s l = 0 then resA l (matS s) (wtsS s) [] else ([], givE s l)
theorem dotF_valid : ∀ {r : List Int} {x : List (Int × Int)} {s : Int × Int}, (∀ n ∈ r, -1000 ≤ n ∧ n ≤ 1000) → allV x = true → vfrac s.1 s.2 = true → (dotF r x s).2 = 0 → vfrac (dotF r x s).1.1 (dotF r x s).1.2 = true
  | [], x, s, _, _, hs, _ => by cases x <;> exact hs
  | n :: r, [], s, _, _, hs, _ => hs
  | n :: r, f :: x, s, hr, hx, hs, h => by
    have hvf : vfrac f.1 f.2 = true := allV_at (k := 0) hx rfl
    have hx' : allV x = true := by unfold allV at hx ⊢; simp only [List.all_cons, Bool.and_eq_true] at hx; exact hx.2
    have hp := plusP_valid hs hvf (n := n) (by have := hr n (by simp); omega)
    have e := dotF_plus (r := n :: r) (x := f :: x) (k := 0) rfl rfl s
    simp only [List.drop_zero, List.drop_succ_cons, Nat.zero_add] at e
    rw [e] at h ⊢
    split at h
    · rename_i hz
      rw [if_pos hz]
      exact dotF_valid (fun m hm => hr m (List.mem_cons_of_mem _ hm)) hx' (hp hz) h
    · rename_i hz; exact absurd h hz
end Go.Proofs.Ytpcakodemleoiaa.T
end

section
namespace Go.Proofs.Ytpcakodemleoiaa.T
open Go Go.RowKit Lin
set_option linter.unusedSimpArgs false

/-! The residuals, by the reference. -/
end Go.Proofs.Ytpcakodemleoiaa.T
end

section
namespace Go.Proofs.Ytpcakodemleoiaa.T
open Go Go.RowKit Lin
set_option linter.unusedSimpArgs false

/-! The residuals, by the program. -/
end Go.Proofs.Ytpcakodemleoiaa.T
end

section
namespace Go.Proofs.Ytpcakodemleoiaa.T
open Go Go.RowKit Lin
set_option linter.unusedSimpArgs false

/-! Checks. -/
def chkP (s : Sy) (l : List (Int × Int)) : Bool × Int := if (resP s l).2 = 0 then (!(resP s l).1.any (fun x => x.1 != 0), 0) else (false, (resP s l).2)
end Go.Proofs.Ytpcakodemleoiaa.T
end

section
namespace Go.Proofs.Ytpcakodemleoiaa.T
open Go Go.RowKit Lin
set_option linter.unusedSimpArgs false

/-! The reference's check. -/
end Go.Proofs.Ytpcakodemleoiaa.T
end

section
namespace Go.Proofs.Ytpcakodemleoiaa.T
open Go Go.RowKit Lin
set_option linter.unusedSimpArgs false

/-! The reference's check; the law of checks. -/
end Go.Proofs.Ytpcakodemleoiaa.T
end
end

