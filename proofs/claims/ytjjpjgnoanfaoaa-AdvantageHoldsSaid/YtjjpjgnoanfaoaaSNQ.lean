import Derived.Test.YtjjpjgnoanfaoaaSFJ
import Derived.Test.YtjjpjgnoanfaoaaSHJ
import Derived.Test.YtjjpjgnoanfaoaaWPJ
import Derived.Test.YtjjpjgnoanfaoaaSKM
set_option linter.all false
section
section
namespace Go.Proofs.Ytjjpjgnoanfaoaa.T
open Go Go.RowKit Lin
set_option linter.unusedSimpArgs false

/-! Differences, sums of products. -/
theorem AW_scope {P : Program} {n : Nat} {c : Code} {Q : Exit → St → Prop} {st : St} (hq : ∀ l s, ¬ Q (.goto l) s) (h : AW P n c Q st) : AW P n (.scope c) Q st := fun w0 F G a w hs => by
  refine wp_scope_straight (wp_mono (h w0 F G a w hs) fun e a' w' l => ?_)
  cases e with
  | goto l' => obtain ⟨_, _, s, _, _, h3⟩ := l; exact absurd h3 (hq _ _)
  | _ => exact l
theorem AW_label {P : Program} {n l : Nat} {Q : Exit → St → Prop} {st : St} (h : Q .normal st) : AW P n (.label l) Q st := fun _w0 F G _ _ hs => wp_label ⟨F, G, st, .refl _ _ _, hs, h⟩
theorem vfrac_neg {a b : Int} (h : vfrac a b = true) : vfrac (-a) b = true := by
  unfold vfrac at h ⊢
  simp only [Bool.and_eq_true, decide_eq_true_eq, Int.natAbs_neg] at h ⊢
  omega
def subP (a b : Int × Int) : (Int × Int) × Int := if vfrac a.1 a.2 = true ∧ vfrac b.1 b.2 = true then addR a (-b.1, b.2) else ((0, 0), 1)
theorem subP_valid {a b : Int × Int} (ha : vfrac a.1 a.2 = true) (hb : vfrac b.1 b.2 = true) (h : (subP a b).2 = 0) : vfrac (subP a b).1.1 (subP a b).1.2 = true := by
  unfold subP at h ⊢
  rw [if_pos ⟨ha, hb⟩] at h ⊢
  exact addR_valid ha (vfrac_neg hb) h
def plusP (s : Int × Int) (n : Int) (f : Int × Int) : (Int × Int) × Int := if (mulP (n, 1) f).2 = 0 then addP s (mulP (n, 1) f).1 else ((0, 0), (mulP (n, 1) f).2)
theorem dotF_plus {r : List Int} {x : List (Int × Int)} {k : Nat} {n : Int} {f : Int × Int} (hr : r[k]? = some n) (hx : x[k]? = some f) (s : Int × Int) : dotF (r.drop k) (x.drop k) s = if (plusP s n f).2 = 0 then dotF (r.drop (k + 1)) (x.drop (k + 1)) (plusP s n f).1 else ((0, 0), (plusP s n f).2) := by
  rw [dotF_step hr hx]
  unfold plusP
  split
  · rfl
  · rfl
theorem plusP_valid {s f : Int × Int} {n : Int} (hs : vfrac s.1 s.2 = true) (hf : vfrac f.1 f.2 = true) (hn : -1152921504606846976 ≤ n ∧ n ≤ 1152921504606846976) (h : (plusP s n f).2 = 0) : vfrac (plusP s n f).1.1 (plusP s n f).1.2 = true := by
  have h1 : vfrac n 1 = true := vfrac_one (by omega)
  unfold plusP at h ⊢
  split at h
  · rename_i h2
    rw [if_pos h2]
    rw [mulP_ok h1 hf] at *
    have hv := mulR_valid (a := (n, 1)) h1 hf h2
    rw [addP_ok hs hv] at *
    exact addR_valid hs hv h
  · rename_i h2; exact absurd h h2
theorem allV_at {l : List (Int × Int)} {k : Nat} {f : Int × Int} (h : allV l = true) (hk : l[k]? = some f) : vfrac f.1 f.2 = true := by
  unfold allV at h
  rw [List.all_eq_true] at h
  exact h f (List.mem_of_getElem? hk)
theorem allV_any (l : List (Int × Int)) : (l.any fun x => !vfrac x.1 x.2) = !allV l := by
  unfold allV
  induction l with
  | nil => rfl
  | cons x l ih => simp only [List.any_cons, List.all_cons, ih, Bool.not_and]
/-! What is given. -/
def givE (s : Sy) (l : List (Int × Int)) : Int := if validS s = true ∧ allV l = true then (if l.length = s.rs.length then 0 else 3) else 1
end Go.Proofs.Ytjjpjgnoanfaoaa.T
end

section
namespace Go.Proofs.Ytjjpjgnoanfaoaa.T
open Go Go.RowKit Lin
set_option linter.unusedSimpArgs false

/-! The total of tensions. -/
def pulN (m : List (List Int)) (k i : Nat) : Int := ((m.take i).map fun r => r.getD k 0).sum
def colS (m : List (List Int)) (w : Nat) : List Int := (List.range w).map fun k => pulN m k m.length
theorem pulN_zero (m : List (List Int)) (k : Nat) : pulN m k 0 = 0 := by simp [pulN]
theorem pulN_step {m : List (List Int)} {k i : Nat} {r : List Int} {n : Int} (hr : m[i]? = some r) (hn : r[k]? = some n) : pulN m k (i + 1) = pulN m k i + n := by
  unfold pulN
  rw [List.take_add_one, hr]
  simp [List.getD, hn]
theorem pulN_le {m : List (List Int)} {k : Nat} (h : ∀ r ∈ m, ∀ x ∈ r, -32 ≤ x ∧ x ≤ 32) (hk : ∀ r ∈ m, k < r.length) : ∀ i, i ≤ m.length → -32 * (i : Int) ≤ pulN m k i ∧ pulN m k i ≤ 32 * (i : Int)
  | 0, _ => by rw [pulN_zero]; omega
  | i + 1, hi => by
    obtain ⟨r, hr⟩ : ∃ r, m[i]? = some r := ⟨_, List.getElem?_eq_getElem (by omega)⟩
    have hm := List.mem_of_getElem? hr
    obtain ⟨n, hn⟩ : ∃ n, r[k]? = some n := ⟨_, List.getElem?_eq_getElem (hk r hm)⟩
    have hb := h r hm n (List.mem_of_getElem? hn)
    have ih := pulN_le h hk i (by omega)
    rw [pulN_step hr hn]
    omega
theorem colS_at {m : List (List Int)} {w k : Nat} (h : k < w) : (colS m w)[k]? = some (pulN m k m.length) := by
  unfold colS
  rw [List.getElem?_map, List.getElem?_range h]
  rfl
theorem givE_zero {s : Sy} {l : List (Int × Int)} (h : givE s l = 0) : validS s = true ∧ allV l = true ∧ l.length = s.rs.length := by
  unfold givE at h
  split at h
  · rename_i h1
    split at h
    · rename_i h2; exact ⟨h1.1, h1.2, h2⟩
    · cases h
  · cases h
def totP (s : Sy) (l : List (Int × Int)) : (Int × Int) × Int := if givE s l = 0 then dotF (colS (matS s) s.rs.length) l (0, 1) else ((0, 0), givE s l)
end Go.Proofs.Ytjjpjgnoanfaoaa.T
end

section
namespace Go.Proofs.Ytjjpjgnoanfaoaa.T
open Go Go.RowKit Lin
set_option linter.unusedSimpArgs false

/-! The total of tensions, by the reference. -/
theorem fz_frS (b g : Nat) (cs : List D) : ∀ l : List (Int × Int), fzL b g cs (frC l) = frC l
  | [] => by simp only [frC, List.flatMap_nil, fzL]
  | x :: l => by have := fz_frS b g cs l; simp only [frC, List.flatMap_cons, List.cons_append, List.nil_append, fzL, fz] at this ⊢; rw [this]
theorem colS_len (m : List (List Int)) (w : Nat) : (colS m w).length = w := by simp [colS]
theorem colS_take {m : List (List Int)} {w k : Nat} (h : k < w) : (colS m w).take (k + 1) = (colS m w).take k ++ [pulN m k m.length] := by
  rw [List.take_add_one, colS_at h]; rfl
end Go.Proofs.Ytjjpjgnoanfaoaa.T
end

section
namespace Go.Proofs.Ytjjpjgnoanfaoaa.T
open Go Go.RowKit Lin
set_option linter.unusedSimpArgs false

/-! Chapter 11: the law of totals. -/
theorem few11L (s : Sy) (l : List (Int × Int)) : PRet Try.prog 32 [syD s, frs l] (bool (smallS s && decide (l.length ≤ 10))) := by
  refine PRet.intro 1 fun t => ACall.enter tab_ok Try.func32 rfl rfl Try.ntmps32 (by simp) ?_
  simp only [enterTM]
  have hS := small_ref s
  have hfl := frC_len l
  have hf2 : (frC l).length / 2 = l.length := by omega
  have he : decide ((l.length : Int) ≤ 10) = decide (l.length ≤ 10) := by rw [decide_eq_decide]; omega
  cases hs : smallS s
  · rw [hs] at hS
    ((refine gga1 hS ?_))
    ((repeat refine AW_seq ?_); (refine wta ?_); simp (disch := omega) only [retQ, resD, oneD, rsv, rs, rsL, rsL_eq_map, List.map_map, bb, bt, zDs, zD, eqCells, simprocAttr, Try.results32])
  · rw [hs] at hS
    ((refine ggb1 (F := _∧_) ⟨hf2, he⟩ hS ?_))
    ((repeat refine AW_seq ?_); (refine wta ?_); simp (disch := omega) only [retQ, resD, oneD, rsv, rs, rsL, rsL_eq_map, List.map_map, bb, bt, zDs, zD, eqCells, simprocAttr, Try.results32])
end Go.Proofs.Ytjjpjgnoanfaoaa.T
end
end

section
section
namespace Go.Proofs.Ytjjpjgnoanfaoaa.T
open Go Go.RowKit Lin
set_option linter.unusedSimpArgs false

/-! The residuals. -/
def resA (l : List (Int × Int)) : List (List Int) → List Int → List (Int × Int) → List (Int × Int) × Int
  | r :: m, w :: ws, acc => if (dotF r l (0, 1)).2 = 0 then (if (subP (w, 1) (dotF r l (0, 1)).1).2 = 0 then resA l m ws (acc ++ [(subP (w, 1) (dotF r l (0, 1)).1).1]) else ([], (subP (w, 1) (dotF r l (0, 1)).1).2)) else ([], (dotF r l (0, 1)).2)
  | _, _, acc => (acc, 0)
theorem resA_step {l : List (Int × Int)} {m : List (List Int)} {ws : List Int} {k : Nat} {r : List Int} {w : Int} (hr : m[k]? = some r) (hw : ws[k]? = some w) (acc : List (Int × Int)) : resA l (m.drop k) (ws.drop k) acc = if (dotF r l (0, 1)).2 = 0 then (if (subP (w, 1) (dotF r l (0, 1)).1).2 = 0 then resA l (m.drop (k + 1)) (ws.drop (k + 1)) (acc ++ [(subP (w, 1) (dotF r l (0, 1)).1).1]) else ([], (subP (w, 1) (dotF r l (0, 1)).1).2)) else ([], (dotF r l (0, 1)).2) := by
  obtain ⟨a1, a2⟩ := List.getElem?_eq_some_iff.1 hr
  obtain ⟨b1, b2⟩ := List.getElem?_eq_some_iff.1 hw
  rw [List.drop_eq_getElem_cons a1, List.drop_eq_getElem_cons b1, a2, b2]
  rfl
def resP (s : Sy) (l : List (Int × Int)) : List (Int × Int) × Int := if givE s l = 0 then resA l (matS s) (wtsS s) [] else ([], givE s l)
theorem dotF_valid : ∀ {r : List Int} {x : List (Int × Int)} {s : Int × Int}, (∀ n ∈ r, -1000 ≤ n ∧ n ≤ 1000) → allV x = true → vfrac s.1 s.2 = true → (dotF r x s).2 = 0 → vfrac (dotF r x s).1.1 (dotF r x s).1.2 = true
  | [], x, s, _, _, hs, _ => by cases x <;> exact hs
  | n :: r, [], s, _, _, hs, _ => hs
  | n :: r, f :: x, s, hr, hx, hs, h => by
    have hvf : vfrac f.1 f.2 = true := allV_at (k := 0) hx rfl
    have hx' : allV x = true := by unfold allV at hx ⊢; simp only [List.all_cons, Bool.and_eq_true] at hx; exact hx.2
    have hp := plusP_valid hs hvf (n := n) (by have := hr n (by simp); omega)
    have e := dotF_plus (r := n :: r) (x := f :: x) (k := 0) rfl rfl s
    simp only [List.drop_zero, List.drop_succ_cons, Nat.zero_add] at e
    rw [e] at h ⊢
    split at h
    · rename_i hz
      rw [if_pos hz]
      exact dotF_valid (fun m hm => hr m (List.mem_cons_of_mem _ hm)) hx' (hp hz) h
    · rename_i hz; exact absurd h hz
end Go.Proofs.Ytjjpjgnoanfaoaa.T
end

section
namespace Go.Proofs.Ytjjpjgnoanfaoaa.T
open Go Go.RowKit Lin
set_option linter.unusedSimpArgs false

/-! The residuals, by the reference. -/
end Go.Proofs.Ytjjpjgnoanfaoaa.T
end

section
namespace Go.Proofs.Ytjjpjgnoanfaoaa.T
open Go Go.RowKit Lin
set_option linter.unusedSimpArgs false

/-! The residuals, by the program. -/
end Go.Proofs.Ytjjpjgnoanfaoaa.T
end

section
namespace Go.Proofs.Ytjjpjgnoanfaoaa.T
open Go Go.RowKit Lin
set_option linter.unusedSimpArgs false

/-! Checks. -/
theorem resA_allV {l : List (Int × Int)} (hl : allV l = true) : ∀ (m : List (List Int)) (ws : List Int) (acc : List (Int × Int)), (∀ r ∈ m, ∀ n ∈ r, -1000 ≤ n ∧ n ≤ 1000) → (∀ w ∈ ws, vfrac w 1 = true) → allV acc = true → allV (resA l m ws acc).1 = true
  | [], ws, acc, _, _, ha => by simp only [resA]; exact ha
  | r :: m, [], acc, _, _, ha => by simp only [resA]; exact ha
  | r :: m, w :: ws, acc, hm, hw, ha => by
    simp only [resA]
    split
    · rename_i h1
      split
      · rename_i h2
        refine resA_allV hl m ws _ (fun x hx => hm x (List.mem_cons_of_mem _ hx)) (fun x hx => hw x (List.mem_cons_of_mem _ hx)) ?_
        have hv := subP_valid (hw w (by simp)) (dotF_valid (hm r (by simp)) hl (by decide) h1) h2
        unfold allV at ha ⊢
        rw [List.all_append, ha]
        simp [hv]
      · rfl
    · rfl
theorem resA_len {l : List (Int × Int)} : ∀ (m : List (List Int)) (ws : List Int) (acc : List (Int × Int)), (resA l m ws acc).1.length ≤ acc.length + m.length
  | [], ws, acc => by simp [resA]
  | r :: m, [], acc => by simp [resA]
  | r :: m, w :: ws, acc => by
    simp only [resA]
    split
    · split
      · have := resA_len (l := l) m ws (acc ++ [(subP (w, 1) (dotF r l (0, 1)).1).1])
        simp only [List.length_append, List.length_cons, List.length_nil] at this ⊢
        omega
      · simp
    · simp
theorem resP_len (s : Sy) (hb : s.bs.length ≤ 1000) (l : List (Int × Int)) : (resP s l).1.length ≤ 1000 := by
  unfold resP
  split
  · have := resA_len (l := l) (matS s) (wtsS s) []
    have e : (matS s).length = s.bs.length := by simp [matS]
    simp only [List.length_nil] at this
    omega
  · simp
def chkP (s : Sy) (l : List (Int × Int)) : Bool × Int := if (resP s l).2 = 0 then (!(resP s l).1.any (fun x => x.1 != 0), 0) else (false, (resP s l).2)
end Go.Proofs.Ytjjpjgnoanfaoaa.T
end

section
namespace Go.Proofs.Ytjjpjgnoanfaoaa.T
open Go Go.RowKit Lin
set_option linter.unusedSimpArgs false

/-! The reference's check. -/
theorem vfrac_zero {x : Int × Int} (h : vfrac x.1 x.2 = true) (h0 : x.1 = 0) : x.2 = 1 := by
  unfold vfrac at h
  simp only [Bool.and_eq_true, decide_eq_true_eq, h0, Int.natAbs_zero, Nat.gcd_zero_left] at h
  omega
end Go.Proofs.Ytjjpjgnoanfaoaa.T
end

section
namespace Go.Proofs.Ytjjpjgnoanfaoaa.T
open Go Go.RowKit Lin
set_option linter.unusedSimpArgs false

/-! The reference's check; the law of checks. -/
theorem any_take {α : Type} {p : α → Bool} {l : List α} {k : Nat} {x : α} (h : l[k]? = some x) : (l.take (k + 1)).any p = ((l.take k).any p || p x) := by
  rw [List.take_add_one, h]
  simp
theorem any_hit {α : Type} {p : α → Bool} {l : List α} {k : Nat} {x : α} (h : l[k]? = some x) (hp : p x = true) : l.any p = true := List.any_eq_true.2 ⟨x, List.mem_of_getElem? h, hp⟩
theorem resP_allV (s : Sy) (l : List (Int × Int)) : allV (resP s l).1 = true := by
  unfold resP
  split
  · rename_i hg
    obtain ⟨hv, ha, hz⟩ := givE_zero hg
    have ok := validS_ok hv
    obtain ⟨m1, m2, m3⟩ := validP_iff.1 ok.mat_valid
    refine resA_allV ha _ _ _ (fun r hr n hn => by have := (m3 r hr).2 n hn; omega) (fun w hw => vfrac_one (by have := withinP_spec ok.wts_in w hw; omega)) rfl
  · rfl
end Go.Proofs.Ytjjpjgnoanfaoaa.T
end
end
