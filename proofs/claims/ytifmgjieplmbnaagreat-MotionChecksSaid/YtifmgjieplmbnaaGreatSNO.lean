import Derived.Test.YtifmgjieplmbnaaGreatSFJ
import Derived.Test.YtifmgjieplmbnaaGreatSHJ
import Derived.Test.YtifmgjieplmbnaaGreatWPJ
import Derived.Test.YtifmgjieplmbnaaGreatSKM
set_option linter.all false
section
namespace Go.Proofs.YtifmgjieplmbnaaGreat.T
open Go Go.RowKit Lin
set_option linter.unusedSimpArgs false

/-! Differences, sums of products. -/
theorem AW_scope {P : Program} {n : Nat} {c : Code} {Q : Exit → St → Prop} {st : St} (hq : ∀ l s, ¬ Q (.goto l) s) (h : AW P n c Q st) : AW P n (.scope c) Q st := fun w0 F G a w hs => by
  refine wp_scope_straight (wp_mono (h w0 F G a w hs) fun e a' w' l => ?_)
  cases e with
  | goto l' => obtain ⟨_, _, s, _, _, h3⟩ := l; exact absurd h3 (hq _ _)
  | _ => exact l
theorem AW_label {P : Program} {n l : Nat} {Q : Exit → St → Prop} {st : St} (h : Q .normal st) : AW P n (.label l) Q st := fun _w0 F G _ _ hs => wp_label ⟨F, G, st, .refl _ _ _, hs, h⟩
theorem vfrac_neg {a b : Int} (h : vfrac a b = true) : vfrac (-a) b = true := by
  unfold vfrac at h ⊢
  simp only [Bool.and_eq_true, decide_eq_true_eq, Int.natAbs_neg] at h ⊢
  omega
def subP (a b : Int × Int) : (Int × Int) × Int := if vfrac a.1 a.2 = true ∧ vfrac b.1 b.2 = true then addR a (-b.1, b.2) else ((0, 0), 1)
theorem subP_valid {a b : Int × Int} (ha : vfrac a.1 a.2 = true) (hb : vfrac b.1 b.2 = true) (h : (subP a b).2 = 0) : vfrac (subP a b).1.1 (subP a b).1.2 = true := by
  unfold subP at h ⊢
  rw [if_pos ⟨ha, hb⟩] at h ⊢
  exact addR_valid ha (vfrac_neg hb) h
def plusP (s : Int × Int) (n : Int) (f : Int × Int) : (Int × Int) × Int := if (mulP (n, 1) f).2 = 0 then addP s (mulP (n, 1) f).1 else ((0, 0), (mulP (n, 1) f).2)
theorem dotF_plus {r : List Int} {x : List (Int × Int)} {k : Nat} {n : Int} {f : Int × Int} (hr : r[k]? = some n) (hx : x[k]? = some f) (s : Int × Int) : dotF (r.drop k) (x.drop k) s = if (plusP s n f).2 = 0 then dotF (r.drop (k + 1)) (x.drop (k + 1)) (plusP s n f).1 else ((0, 0), (plusP s n f).2) := by
  rw [dotF_step hr hx]
  unfold plusP
  split
  · rfl
  · rfl
theorem plusP_valid {s f : Int × Int} {n : Int} (hs : vfrac s.1 s.2 = true) (hf : vfrac f.1 f.2 = true) (hn : -1000 ≤ n ∧ n ≤ 1000) (h : (plusP s n f).2 = 0) : vfrac (plusP s n f).1.1 (plusP s n f).1.2 = true := by
  have h1 : vfrac n 1 = true := vfrac_one (by omega)
  unfold plusP at h ⊢
  split at h
  · rename_i h2
    rw [if_pos h2]
    rw [mulP_ok h1 hf] at *
    have hv := mulR_valid (a := (n, 1)) h1 hf h2
    rw [addP_ok hs hv] at *
    exact addR_valid hs hv h
  · rename_i h2; exact absurd h h2
theorem allV_at {l : List (Int × Int)} {k : Nat} {f : Int × Int} (h : allV l = true) (hk : l[k]? = some f) : vfrac f.1 f.2 = true := by
  unfold allV at h
  rw [List.all_eq_true] at h
  exact h f (List.mem_of_getElem? hk)
theorem allV_any (l : List (Int × Int)) : (l.any fun x => !vfrac x.1 x.2) = !allV l := by
  unfold allV
  induction l with
  | nil => rfl
  | cons x l ih => simp only [List.any_cons, List.all_cons, ih, Bool.not_and]
/-! What is given. -/
def givE (s : Sy) (l : List (Int × Int)) : Int := if validS s = true ∧ allV l = true then (if l.length = s.rs.length then 0 else 3) else 1
end Go.Proofs.YtifmgjieplmbnaaGreat.T
end

section
namespace Go.Proofs.YtifmgjieplmbnaaGreat.T
open Go Go.RowKit Lin
set_option linter.unusedSimpArgs false

/-! The total of tensions. -/
def pulN (m : List (List Int)) (k i : Nat) : Int := ((m.take i).map fun r => r.getD k 0).sum
def colS (m : List (List Int)) (w : Nat) : List Int := (List.range w).map fun k => pulN m k m.length
theorem pulN_zero (m : List (List Int)) (k : Nat) : pulN m k 0 = 0 := by simp [pulN]
theorem pulN_step {m : List (List Int)} {k i : Nat} {r : List Int} {n : Int} (hr : m[i]? = some r) (hn : r[k]? = some n) : pulN m k (i + 1) = pulN m k i + n := by
  unfold pulN
  rw [List.take_add_one, hr]
  simp [List.getD, hn]
theorem pulN_le {m : List (List Int)} {k : Nat} (h : ∀ r ∈ m, ∀ x ∈ r, -32 ≤ x ∧ x ≤ 32) (hk : ∀ r ∈ m, k < r.length) : ∀ i, i ≤ m.length → -32 * (i : Int) ≤ pulN m k i ∧ pulN m k i ≤ 32 * (i : Int)
  | 0, _ => by rw [pulN_zero]; omega
  | i + 1, hi => by
    obtain ⟨r, hr⟩ : ∃ r, m[i]? = some r := ⟨_, List.getElem?_eq_getElem (by omega)⟩
    have hm := List.mem_of_getElem? hr
    obtain ⟨n, hn⟩ : ∃ n, r[k]? = some n := ⟨_, List.getElem?_eq_getElem (hk r hm)⟩
    have hb := h r hm n (List.mem_of_getElem? hn)
    have ih := pulN_le h hk i (by omega)
    rw [pulN_step hr hn]
    omega
theorem colS_at {m : List (List Int)} {w k : Nat} (h : k < w) : (colS m w)[k]? = some (pulN m k m.length) := by
  unfold colS
  rw [List.getElem?_map, List.getElem?_range h]
  rfl
theorem givE_zero {s : Sy} {l : List (Int × Int)} (h : givE s l = 0) : validS s = true ∧ allV l = true ∧ l.length = s.rs.length := by
  unfold givE at h
  split at h
  · rename_i h1
    split at h
    · rename_i h2; exact ⟨h1.1, h1.2, h2⟩
    · cases h
  · cases h
def totP (s : Sy) (l : List (Int × Int)) : (Int × Int) × Int := if givE s l = 0 then dotF (colS (matS s) s.rs.length) l (0, 1) else ((0, 0), givE s l)
end Go.Proofs.YtifmgjieplmbnaaGreat.T
end

section
namespace Go.Proofs.YtifmgjieplmbnaaGreat.T
open Go Go.RowKit Lin
set_option linter.unusedSimpArgs false

/-! The total of tensions, by the reference. -/
theorem fz_frS (b g : Nat) (cs : List D) : ∀ l : List (Int × Int), fzL b g cs (frC l) = frC l
  | [] => by simp only [frC, List.flatMap_nil, fzL]
  | x :: l => by have := fz_frS b g cs l; simp only [frC, List.flatMap_cons, List.cons_append, List.nil_append, fzL, fz] at this ⊢; rw [this]
theorem colS_len (m : List (List Int)) (w : Nat) : (colS m w).length = w := by simp [colS]
theorem colS_take {m : List (List Int)} {w k : Nat} (h : k < w) : (colS m w).take (k + 1) = (colS m w).take k ++ [pulN m k m.length] := by
  rw [List.take_add_one, colS_at h]; rfl
end Go.Proofs.YtifmgjieplmbnaaGreat.T
end

section
namespace Go.Proofs.YtifmgjieplmbnaaGreat.T
open Go Go.RowKit Lin
set_option linter.unusedSimpArgs false

/-! Chapter 11: the law of totals. -/
end Go.Proofs.YtifmgjieplmbnaaGreat.T
end
