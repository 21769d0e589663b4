import Derived.Test.YtpbpafmgkdihlaaGreatDoorQTB
import Derived.Test.YtpbpafmgkdihlaaGreatDoorQWC
import Derived.Test.YtpbpafmgkdihlaaGreatDoorQTN
import Derived.Test.YtpbpafmgkdihlaaGreatDoorQMinJ
set_option linter.all false
namespace Go.Proofs.YtpbpafmgkdihlaaGreatDoor.T
open Go Go.RowKit Lin
structure LayO (o : Nat) (rows : List (List Int)) (fr : List Nat) (cells : List D) (R : Hp) : Prop where
 lr : rows.length = fr.length
 lc : cells.length = fr.length
 nd : fr.Nodup
 at_ : ∀ (i x : Nat) (r : List Int), fr[i]? = some x → rows[i]? = some r → ∃ g, cells[i]? = some (D.own 1 (x + o) g 0 r.length) ∧ R[x]? = some (some ⟨3, g, r.map int⟩)
theorem LayO.nil (o : Nat) (R : Hp) : LayO o [] (List.range 0) [] R := ⟨rfl, rfl, List.nodup_nil, fun i x r h => by simp at h⟩
theorem LayO.push {o : Nat} {rows : List (List Int)} {k g : Nat} {cells : List D} {R : Hp} {r : List Int} (h : LayO o rows (List.range k) cells R) (hR : R.length = k) :
    LayO o (rows ++ [r]) (List.range (k + 1)) (cells ++ [D.own 1 (k + o) g 0 r.length]) (R ++ [some ⟨3, g, r.map int⟩]) := by
  have hr : rows.length = k := by simpa using h.lr
  have hc : cells.length = k := by simpa using h.lc
  refine ⟨by simp [hr], by simp [hc], List.nodup_range, fun i x r' hi hx => ?_⟩
  have hi' : i < k + 1 ∧ x = i := by
    obtain ⟨h1, h2⟩ := List.getElem?_eq_some_iff.1 hi
    simp at h1 h2
    exact ⟨h1, h2.symm⟩
  obtain ⟨h1, rfl⟩ := hi'
  by_cases hik : x < k
  · rw [List.getElem?_append_left (by omega)] at hx
    obtain ⟨g', g1, g2⟩ := h.at_ x x r' (by simp [hik]) hx
    exact ⟨g', by rw [List.getElem?_append_left (by omega)]; exact g1, by rw [List.getElem?_append_left (by omega)]; exact g2⟩
  · have hxk : x = k := by omega
    subst hxk
    rw [List.getElem?_append_right (by omega), hr, Nat.sub_self] at hx
    simp at hx
    subst hx
    exact ⟨g, by rw [List.getElem?_append_right (by omega), hc, Nat.sub_self]; rfl, by rw [List.getElem?_append_right (by omega), hR, Nat.sub_self]; rfl⟩
theorem LayO.swp {o : Nat} {rows : List (List Int)} {fr : List Nat} {cells : List D} {R : Hp} (h : LayO o rows fr cells R) {i j : Nat} (hij : i ≠ j) (hj : j < rows.length) (hi : i < rows.length) : LayO o (Lin.swp rows i j) (Lin.swp fr i j) (Lin.swp cells i j) R := by
 have h1 := h.lr
 have h2 := h.lc
 have at3 : ∀ {α : Type} (l : List α), i < l.length → j < l.length → ∀ x, (Lin.swp l i j)[x]? = if x = j then l[i]? else if x = i then l[j]? else l[x]? := fun l a b x => Lin.swp_get l a b x
 refine ⟨by rw [Y1l, Y1l, h1], by rw [Y1l, Y1l, h2], ?_, fun y x r hy hr => ?_⟩
 ·rcases Nat.lt_or_gt_of_ne hij with hlt | hlt
  ·exact (Lin.swp_perm hlt (by omega)).nodup_iff.2 h.nd
  ·rw [Lin.swp_comm fr i j (by omega) (by omega)]
   exact (Lin.swp_perm hlt (by omega)).nodup_iff.2 h.nd
 ·rw [at3 fr (by omega) (by omega)] at hy
  rw [at3 rows (by omega) (by omega)] at hr
  rw [at3 cells (by omega) (by omega)]
  by_cases e1 : y = j
  ·rw [if_pos e1] at hy hr ⊢
   exact h.at_ i x r hy hr
  ·rw [if_neg e1] at hy hr ⊢
   by_cases e2 : y = i
   ·rw [if_pos e2] at hy hr ⊢
    exact h.at_ j x r hy hr
   ·rw [if_neg e2] at hy hr ⊢
    exact h.at_ y x r hy hr
theorem LayO.set {o : Nat} {rows : List (List Int)} {fr : List Nat} {cells : List D} {R : Hp} (h : LayO o rows fr cells R) {i x g : Nat} {r r' : List Int} (hx : fr[i]? = some x) (hr : rows[i]? = some r) (hR : R[x]? = some (some ⟨3, g, r.map int⟩)) (hl : r'.length = r.length) :
    LayO o (rows.set i r') fr cells (R.set x (some ⟨3, g, r'.map int⟩)) := by
  refine ⟨by simpa using h.lr, h.lc, h.nd, fun y z s hy hs => ?_⟩
  have hiN := (List.getElem?_eq_some_iff.1 hr).1
  have hxR := (List.getElem?_eq_some_iff.1 hR).1
  by_cases e : y = i
  · subst e
    rw [hx] at hy; cases hy
    rw [List.getElem?_set_self hiN] at hs
    cases hs
    obtain ⟨g', k1, k2⟩ := h.at_ y x r hx hr
    rw [hR] at k2
    cases k2
    exact ⟨g, by rw [hl]; exact k1, by rw [List.getElem?_set_self hxR]⟩
  · rw [List.getElem?_set_ne (Ne.symm e)] at hs
    obtain ⟨g', k1, k2⟩ := h.at_ y z s hy hs
    have hzx : x ≠ z := fun e' => by
      subst e'
      obtain ⟨a1, a2⟩ := List.getElem?_eq_some_iff.1 hx
      obtain ⟨b1, b2⟩ := List.getElem?_eq_some_iff.1 hy
      have hp := List.pairwise_iff_getElem.1 h.nd
      rcases Nat.lt_or_gt_of_ne e with hlt | hlt
      · exact hp y i b1 a1 hlt (b2.trans a2.symm)
      · exact hp i y a1 b1 hlt (a2.trans b2.symm)
    exact ⟨g', k1, by rw [List.getElem?_set_ne hzx]; exact k2⟩
theorem Ysh (n : Nat) (l : List Int) : shL n (l.map int) = l.map int := by
 induction l with
 | nil => rfl
 | cons x r ih => simp only [List.map_cons, shL, shD, ih]
theorem LayO.shift {o n : Nat} {rows : List (List Int)} {fr : List Nat} {cells : List D} {bs : List Blk} (h : LayO o rows fr cells (bs.map some)) : LayO (o + n) rows fr (shL n cells) ((bs.map (shB n)).map some) := by
 refine ⟨h.lr, by rw [Ybq]; exact h.lc, h.nd, fun i x r hi hr => ?_⟩
 obtain ⟨g, h1, h2⟩ := h.at_ i x r hi hr
 refine ⟨g, by rw [Yd9, List.getElem?_map, h1]; simp only [Option.map_some, shD, Nat.add_assoc], ?_⟩
 rw [List.getElem?_map] at h2
 cases hb : bs[x]? with
 | none => rw [hb] at h2; cases h2
 | some b =>
  rw [hb] at h2
  simp only [Option.map_some, Option.some.injEq] at h2
  subst h2
  simp only [List.getElem?_map, hb, Option.map_some, shB, Ysh]
theorem Yvr (m : Nat) (H2 : Hp) (k : Nat) (l : List Int) : (l.map int).map (zv m H2 k) = l.map int := by
 rw [List.map_map]
 refine List.map_congr_left fun x _ => ?_
 cases k with
 | zero => rfl
 | succ k => simp only [Function.comp_apply, zv, zz]
theorem LayO.value {o m : Nat} {rows : List (List Int)} {fr : List Nat} {cells : List D} {R : Hp} (h : LayO o rows fr cells R) {H2 : Hp} (hm : m ≤ o) (hH : ∀ x, x < R.length → H2[x + o - m]? = R[x]?) (k : Nat) : cells.map (zv m H2 (k + 1)) = rows.map ints := by
 have h1 := h.lr
 have h2 := h.lc
 apply List.ext_getElem?
 intro i
 by_cases hi : i < fr.length
 ·obtain ⟨x, hx⟩ : ∃ x, fr[i]? = some x := ⟨_, List.getElem?_eq_getElem hi⟩
  obtain ⟨r, hr⟩ : ∃ r, rows[i]? = some r := ⟨_, List.getElem?_eq_getElem (by omega)⟩
  obtain ⟨g, k1, k2⟩ := h.at_ i x r hx hr
  rw [List.getElem?_map, List.getElem?_map, k1, hr]
  simp only [Option.map_some, zv, zz]
  rw [if_neg (by omega), hH x (List.getElem?_eq_some_iff.1 k2).1, k2]
  simp only [List.length_map, Nat.zero_add, Nat.mul_one, Nat.le_refl, and_self, if_true, List.drop_zero]
  rw [List.take_of_length_le (by simp), Yvr]
 ·rw [List.getElem?_eq_none (by simp; omega), List.getElem?_eq_none (by simp; omega)]
def Y10 (m : List (List Int)) (right : List Int) : List (List Int) := m.mapIdx fun i r => r ++ (right[i]?).toList
structure CP where
 k : Nat
 bs : List Blk
 cells : List D
 ga : Nat
 t : Nat
def CP.st (m : List (List Int)) (right : List Int) (x : CP) : St := ⟨[(0, mat m), (1, ints right), (5, .own 1 0 x.ga 0 x.k), (6, int x.k)], some ⟨59, x.ga, x.cells⟩ :: x.bs.map some, x.t⟩
theorem CP.st_mk (m : List (List Int)) (right : List Int) (k : Nat) (bs : List Blk) (cells : List D) (ga t : Nat) : CP.st m right ⟨k, bs, cells, ga, t⟩ = ⟨[(0, mat m), (1, ints right), (5, .own 1 0 ga 0 k), (6, int k)], some ⟨59, ga, cells⟩ :: bs.map some, t⟩ := rfl
theorem Ym8 (m : List (List Int)) (right : List Int) (k : Nat) {r : List Int} (hr : m[k]? = some r) : (Y10 m right).take (k + 1) = (Y10 m right).take k ++ [r ++ (right[k]?).toList] := by
 rw [List.take_add_one]
 simp [Y10, hr]
end Go.Proofs.YtpbpafmgkdihlaaGreatDoor.T
