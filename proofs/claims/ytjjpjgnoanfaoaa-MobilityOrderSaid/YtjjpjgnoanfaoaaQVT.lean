import Derived.Test.YtjjpjgnoanfaoaaQVS
set_option linter.all false
namespace Go.Proofs.Ytjjpjgnoanfaoaa.T
open Go Go.RowKit Lin
set_option linter.unusedSimpArgs false

/-! slices.Reverse, in the caller's block. -/
/-- The first i of a list, and the last i, have changed places. -/
def rvS {α : Type} (l : List α) : Nat → List α
  | 0 => l
  | i + 1 => Lin.swp (rvS l i) i (l.length - 1 - i)
theorem rvS_len {α : Type} (l : List α) : ∀ i, (rvS l i).length = l.length
  | 0 => rfl
  | i + 1 => by simp only [rvS]; rw [Lin.swp_length, rvS_len l i]
theorem rvS_get {α : Type} (l : List α) : ∀ (i : Nat), 2 * i ≤ l.length + 1 → ∀ k, k < l.length → (rvS l i)[k]? = if k < i ∨ l.length - 1 - k < i then l[l.length - 1 - k]? else l[k]?
  | 0, _, k, hk => by simp [rvS]
  | i + 1, hi, k, hk => by
    have ih := rvS_get l i (by omega)
    have hl := rvS_len l i
    simp only [rvS]
    rw [Lin.swp_get _ (by omega) (by omega)]
    by_cases e1 : k = l.length - 1 - i
    · subst e1
      rw [if_pos rfl, ih i (by omega)]
      have a1 : ¬ (i < i ∨ l.length - 1 - i < i) := by omega
      rw [if_neg a1]
      have a2 : l.length - 1 - (l.length - 1 - i) = i := by omega
      rw [if_pos (by omega), a2]
    · rw [if_neg e1]
      by_cases e2 : k = i
      · subst e2
        rw [if_pos rfl, ih _ (by omega)]
        by_cases e3 : l.length - 1 - k < k
        · omega
        · rw [if_neg (by omega), if_pos (by omega)]
      · rw [if_neg e2, ih k hk]
        by_cases e3 : k < i ∨ l.length - 1 - k < i
        · rw [if_pos e3, if_pos (by omega)]
        · rw [if_neg e3, if_neg (by omega)]
theorem rvS_end {α : Type} (l : List α) {i : Nat} (h1 : 2 * i ≤ l.length + 1) (h2 : l.length ≤ 2 * i + 1) : rvS l i = l.reverse := by
  refine List.ext_getElem? fun k => ?_
  by_cases hk : k < l.length
  · rw [rvS_get l i h1 k hk, List.getElem?_reverse hk]
    by_cases e : k < i ∨ l.length - 1 - k < i
    · rw [if_pos e]
    · rw [if_neg e]
      have : l.length - 1 - k = k := by omega
      rw [this]
  · rw [List.getElem?_eq_none (by rw [rvS_len]; omega), List.getElem?_eq_none (by simp; omega)]
/-- Groups of cells. -/
theorem grp_len {sz : Nat} : ∀ {l : List (List D)}, (∀ x ∈ l, x.length = sz) → l.flatten.length = l.length * sz
  | [], _ => by simp
  | x :: l, h => by
    rw [List.flatten_cons, List.length_append, h x (by simp), grp_len fun y hy => h y (List.mem_cons_of_mem _ hy), List.length_cons, Nat.add_mul]
    omega
theorem grp_read {sz : Nat} : ∀ {l : List (List D)}, (∀ x ∈ l, x.length = sz) → ∀ (i : Nat) (x : List D), l[i]? = some x → (l.flatten.drop (i * sz)).take sz = x
  | [], _, i, x, h => by simp at h
  | y :: l, hl, 0, x, h => by
    simp at h; subst h
    rw [Nat.zero_mul, List.drop_zero, List.flatten_cons, List.take_left' (hl y (by simp))]
  | y :: l, hl, i + 1, x, h => by
    have ih := grp_read (fun z hz => hl z (List.mem_cons_of_mem _ hz)) i x (by simpa using h)
    have hy := hl y (by simp)
    have e : (i + 1) * sz = y.length + i * sz := by rw [hy, Nat.add_mul]; omega
    rw [e, List.flatten_cons, List.drop_append, List.drop_eq_nil_of_le (by omega), List.nil_append, Nat.add_sub_cancel_left]
    exact ih
theorem grp_set {sz : Nat} : ∀ {l : List (List D)}, (∀ x ∈ l, x.length = sz) → ∀ (i : Nat) (y : List D), i < l.length → l.flatten.take (i * sz) ++ y ++ l.flatten.drop (i * sz + sz) = (l.set i y).flatten
  | [], _, i, y, h => by simp at h
  | x :: l, hl, 0, y, h => by
    have hx := hl x (by simp)
    simp only [Nat.zero_mul, List.take_zero, List.nil_append, Nat.zero_add, List.set_cons_zero, List.flatten_cons]
    rw [List.drop_append, List.drop_eq_nil_of_le (by omega), hx, Nat.sub_self]; simp
  | x :: l, hl, i + 1, y, h => by
    have ih := grp_set (fun z hz => hl z (List.mem_cons_of_mem _ hz)) i y (by simpa using h)
    have hx := hl x (by simp)
    have e : (i + 1) * sz = x.length + i * sz := by rw [hx, Nat.add_mul]; omega
    rw [List.set_cons_succ, List.flatten_cons, List.flatten_cons, ← ih, e, Nat.add_assoc, List.take_append, List.take_of_length_le (by omega), Nat.add_sub_cancel_left, List.drop_append, List.drop_eq_nil_of_le (by omega), List.nil_append, Nat.add_sub_cancel_left]
    simp
theorem swp_mem' {α : Type} {l : List α} {i j : Nat} (hi : i < l.length) (hj : j < l.length) {x : α} (h : x ∈ Lin.swp l i j) : x ∈ l := by
  obtain ⟨k, hk⟩ := List.mem_iff_getElem?.1 h
  rw [Lin.swp_get l hi hj] at hk
  split at hk
  · exact List.mem_of_getElem? hk
  · split at hk
    · exact List.mem_of_getElem? hk
    · exact List.mem_of_getElem? hk
theorem rvS_mem {α : Type} {l : List α} : ∀ {i : Nat}, 2 * i ≤ l.length + 1 → ∀ x, x ∈ rvS l i → x ∈ l
  | 0, _, x, h => h
  | i + 1, hi, x, h => by
    simp only [rvS] at h
    have hl := rvS_len l i
    exact rvS_mem (by omega) x (swp_mem' (by omega) (by omega) h)
end Go.Proofs.Ytjjpjgnoanfaoaa.T

