import Derived.Test.YtifmgjieplmbnaaGreatSNO
import Derived.Test.YtifmgjieplmbnaaGreatSKM
set_option linter.all false
section
namespace Go.Proofs.YtifmgjieplmbnaaGreat.T
open Go Go.RowKit Lin
set_option linter.unusedSimpArgs false

/-! The residuals. -/
def resA (l : List (Int × Int)) : List (List Int) → List Int → List (Int × Int) → List (Int × Int) × Int
  | r :: m, w :: ws, acc => if (dotF r l (0, 1)).2 = 0 then (if (subP (w, 1) (dotF r l (0, 1)).1).2 = 0 then resA l m ws (acc ++ [(subP (w, 1) (dotF r l (0, 1)).1).1]) else ([], (subP (w, 1) (dotF r l (0, 1)).1).2)) else ([], (dotF r l (0, 1)).2)
  | _, _, acc => (acc, 0)
theorem resA_step {l : List (Int × Int)} {m : List (List Int)} {ws : List Int} {k : Nat} {r : List Int} {w : Int} (hr : m[k]? = some r) (hw : ws[k]? = some w) (acc : List (Int × Int)) : resA l (m.drop k) (ws.drop k) acc = if (dotF r l (0, 1)).2 = 0 then (if (subP (w, 1) (dotF r l (0, 1)).1).2 = 0 then resA l (m.drop (k + 1)) (ws.drop (k + 1)) (acc ++ [(subP (w, 1) (dotF r l (0, 1)).1).1]) else ([], (subP (w, 1) (dotF r l (0, 1)).1).2)) else ([], (dotF r l (0, 1)).2) := by
  obtain ⟨a1, a2⟩ := List.getElem?_eq_some_iff.1 hr
  obtain ⟨b1, b2⟩ := List.getElem?_eq_some_iff.1 hw
  rw [List.drop_eq_getElem_cons a1, List.drop_eq_getElem_cons b1, a2, b2]
  rfl
def resP (s : Sy) (l : List (Int × Int)) : List (Int × Int) × Int := if givE s l = 0 then resA l (matS s) (wtsS s) [] else ([], givE s l)
theorem dotF_valid : ∀ {r : List Int} {x : List (Int × Int)} {s : Int × Int}, (∀ n ∈ r, -1000 ≤ n ∧ n ≤ 1000) → allV x = true → vfrac s.1 s.2 = true → (dotF r x s).2 = 0 → vfrac (dotF r x s).1.1 (dotF r x s).1.2 = true
  | [], x, s, _, _, hs, _ => by cases x <;> exact hs
  | n :: r, [], s, _, _, hs, _ => hs
  | n :: r, f :: x, s, hr, hx, hs, h => by
    have hvf : vfrac f.1 f.2 = true := allV_at (k := 0) hx rfl
    have hx' : allV x = true := by unfold allV at hx ⊢; simp only [List.all_cons, Bool.and_eq_true] at hx; exact hx.2
    have hp := plusP_valid hs hvf (hr n (by simp))
    have e := dotF_plus (r := n :: r) (x := f :: x) (k := 0) rfl rfl s
    simp only [List.drop_zero, List.drop_succ_cons, Nat.zero_add] at e
    rw [e] at h ⊢
    split at h
    · rename_i hz
      rw [if_pos hz]
      exact dotF_valid (fun m hm => hr m (List.mem_cons_of_mem _ hm)) hx' (hp hz) h
    · rename_i hz; exact absurd h hz
end Go.Proofs.YtifmgjieplmbnaaGreat.T
end

section
namespace Go.Proofs.YtifmgjieplmbnaaGreat.T
open Go Go.RowKit Lin
set_option linter.unusedSimpArgs false

/-! The residuals, by the reference. -/
end Go.Proofs.YtifmgjieplmbnaaGreat.T
end

section
namespace Go.Proofs.YtifmgjieplmbnaaGreat.T
open Go Go.RowKit Lin
set_option linter.unusedSimpArgs false

/-! The residuals, by the program. -/
end Go.Proofs.YtifmgjieplmbnaaGreat.T
end

section
namespace Go.Proofs.YtifmgjieplmbnaaGreat.T
open Go Go.RowKit Lin
set_option linter.unusedSimpArgs false

/-! Checks. -/
theorem resA_allV {l : List (Int × Int)} (hl : allV l = true) : ∀ (m : List (List Int)) (ws : List Int) (acc : List (Int × Int)), (∀ r ∈ m, ∀ n ∈ r, -1000 ≤ n ∧ n ≤ 1000) → (∀ w ∈ ws, vfrac w 1 = true) → allV acc = true → allV (resA l m ws acc).1 = true
  | [], ws, acc, _, _, ha => by simp only [resA]; exact ha
  | r :: m, [], acc, _, _, ha => by simp only [resA]; exact ha
  | r :: m, w :: ws, acc, hm, hw, ha => by
    simp only [resA]
    split
    · rename_i h1
      split
      · rename_i h2
        refine resA_allV hl m ws _ (fun x hx => hm x (List.mem_cons_of_mem _ hx)) (fun x hx => hw x (List.mem_cons_of_mem _ hx)) ?_
        have hv := subP_valid (hw w (by simp)) (dotF_valid (hm r (by simp)) hl (by decide) h1) h2
        unfold allV at ha ⊢
        rw [List.all_append, ha]
        simp [hv]
      · rfl
    · rfl
theorem resA_len {l : List (Int × Int)} : ∀ (m : List (List Int)) (ws : List Int) (acc : List (Int × Int)), (resA l m ws acc).1.length ≤ acc.length + m.length
  | [], ws, acc => by simp [resA]
  | r :: m, [], acc => by simp [resA]
  | r :: m, w :: ws, acc => by
    simp only [resA]
    split
    · split
      · have := resA_len (l := l) m ws (acc ++ [(subP (w, 1) (dotF r l (0, 1)).1).1])
        simp only [List.length_append, List.length_cons, List.length_nil] at this ⊢
        omega
      · simp
    · simp
theorem resP_len (s : Sy) (hb : s.bs.length ≤ 1000) (l : List (Int × Int)) : (resP s l).1.length ≤ 1000 := by
  unfold resP
  split
  · have := resA_len (l := l) (matS s) (wtsS s) []
    have e : (matS s).length = s.bs.length := by simp [matS]
    simp only [List.length_nil] at this
    omega
  · simp
def chkP (s : Sy) (l : List (Int × Int)) : Bool × Int := if (resP s l).2 = 0 then (!(resP s l).1.any (fun x => x.1 != 0), 0) else (false, (resP s l).2)
end Go.Proofs.YtifmgjieplmbnaaGreat.T
end

section
namespace Go.Proofs.YtifmgjieplmbnaaGreat.T
open Go Go.RowKit Lin
set_option linter.unusedSimpArgs false

/-! The reference's check. -/
theorem vfrac_zero {x : Int × Int} (h : vfrac x.1 x.2 = true) (h0 : x.1 = 0) : x.2 = 1 := by
  unfold vfrac at h
  simp only [Bool.and_eq_true, decide_eq_true_eq, h0, Int.natAbs_zero, Nat.gcd_zero_left] at h
  omega
end Go.Proofs.YtifmgjieplmbnaaGreat.T
end

section
namespace Go.Proofs.YtifmgjieplmbnaaGreat.T
open Go Go.RowKit Lin
set_option linter.unusedSimpArgs false

/-! The reference's check; the law of checks. -/
theorem any_take {α : Type} {p : α → Bool} {l : List α} {k : Nat} {x : α} (h : l[k]? = some x) : (l.take (k + 1)).any p = ((l.take k).any p || p x) := by
  rw [List.take_add_one, h]
  simp
theorem any_hit {α : Type} {p : α → Bool} {l : List α} {k : Nat} {x : α} (h : l[k]? = some x) (hp : p x = true) : l.any p = true := List.any_eq_true.2 ⟨x, List.mem_of_getElem? h, hp⟩
theorem resP_allV (s : Sy) (l : List (Int × Int)) : allV (resP s l).1 = true := by
  unfold resP
  split
  · rename_i hg
    obtain ⟨hv, ha, hz⟩ := givE_zero hg
    have ok := validS_ok hv
    obtain ⟨m1, m2, m3⟩ := validP_iff.1 ok.mat_valid
    refine resA_allV ha _ _ _ (fun r hr n hn => by have := (m3 r hr).2 n hn; omega) (fun w hw => vfrac_one (by have := withinP_spec ok.wts_in w hw; omega)) rfl
  · rfl
end Go.Proofs.YtifmgjieplmbnaaGreat.T
end
