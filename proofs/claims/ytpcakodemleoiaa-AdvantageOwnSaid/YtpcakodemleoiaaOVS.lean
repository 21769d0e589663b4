import Derived.Test.YtpcakodemleoiaaOVJ
set_option linter.all false
section
namespace Go.Proofs.Ytpcakodemleoiaa.T
open Go Go.RowKit Lin
set_option linter.unusedSimpArgs false

/-! Equilibrium (plain). -/
end Go.Proofs.Ytpcakodemleoiaa.T
end

section
namespace Go.Proofs.Ytpcakodemleoiaa.T
open Go Go.RowKit Lin
set_option linter.unusedSimpArgs false

/-! Valid systems, without an order (plain). -/
theorem nodup_take {l : List ByteArray} : l.Nodup ↔ ∀ (k : Nat) (x : ByteArray), l[k]? = some x → (l.take k).contains x = false := by
  unfold List.Nodup
  rw [List.pairwise_iff_getElem]
  constructor
  · intro h k x hk
    rw [← Bool.not_eq_true, List.contains_iff_mem]
    intro hm
    obtain ⟨i, hi⟩ := List.mem_iff_getElem?.1 hm
    have hik : i < k := by
      have := (List.getElem?_eq_some_iff.1 hi).1
      simp at this; omega
    rw [List.getElem?_take, if_pos hik] at hi
    obtain ⟨hk1, hk2⟩ := List.getElem?_eq_some_iff.1 hk
    obtain ⟨hi1, hi2⟩ := List.getElem?_eq_some_iff.1 hi
    exact h i k hi1 hk1 hik (by rw [hi2, hk2])
  · intro h i j hi hj hij e
    have h1 := h j l[j] (List.getElem?_eq_getElem hj)
    rw [← Bool.not_eq_true, List.contains_iff_mem] at h1
    refine h1 (List.mem_of_getElem? (i := i) ?_)
    rw [List.getElem?_take, if_pos hij, List.getElem?_eq_getElem hi, e]
structure VS (s : Sy) : Prop where
  b : 1 ≤ s.bs.length ∧ s.bs.length ≤ 6
  r : 1 ≤ s.rs.length ∧ s.rs.length ≤ 6
  nd : (bNames s.bs ++ rNames s.rs).Nodup
  bk : ∀ b ∈ s.bs, isNm b.nm = true ∧ 0 ≤ b.w ∧ b.w ≤ 16777216
  rp : ∀ r ∈ s.rs, isNm r.nm = true ∧ okRope s.bs r = true
  h : hauls s.rs ≤ 1
theorem bN_len (l : List Bk) : (bNames l).length = l.length := by simp [bNames]
theorem rN_len (l : List Rp) : (rNames l).length = l.length := by simp [rNames]
theorem bN_take (l : List Bk) (k : Nat) : bNames (l.take k) = (bNames l).take k := by simp [bNames, List.map_take]
theorem rN_take (l : List Rp) (k : Nat) : rNames (l.take k) = (rNames l).take k := by simp [rNames, List.map_take]
theorem validS_iff {s : Sy} : validS s = true ↔ VS s := by
  unfold validS okSize
  simp only [Bool.and_eq_true, List.all_eq_true, List.mem_range, decide_eq_true_eq]
  have hbl := bN_len s.bs
  have hrl := rN_len s.rs
  constructor
  · rintro ⟨⟨⟨⟨b, r⟩, hb⟩, hr⟩, hh⟩
    have hB : ∀ i b, s.bs[i]? = some b → isNm b.nm = true ∧ (bNames (s.bs.take i)).contains b.nm = false ∧ 0 ≤ b.w ∧ b.w ≤ 16777216 := fun i b hi => by
      have := hb i (List.getElem?_eq_some_iff.1 hi).1
      rw [okB_at hi, Bool.and_eq_true, Bool.and_eq_true, Bool.not_eq_true', decide_eq_true_eq] at this
      exact ⟨this.1.1, this.1.2, this.2⟩
    have hR : ∀ i r, s.rs[i]? = some r → isNm r.nm = true ∧ (bNames s.bs ++ rNames (s.rs.take i)).contains r.nm = false ∧ okRope s.bs r = true := fun i r hi => by
      have := hr i (List.getElem?_eq_some_iff.1 hi).1
      rw [okR_at hi, Bool.and_eq_true, Bool.and_eq_true, Bool.not_eq_true'] at this
      exact ⟨this.1.1, this.1.2, this.2⟩
    refine ⟨b, r, nodup_take.2 fun k x hk => ?_, fun x hx => ?_, fun x hx => ?_, hh⟩
    · by_cases hkb : k < s.bs.length
      · rw [List.getElem?_append_left (by omega)] at hk
        rw [List.take_append_of_le_length (by omega)]
        obtain ⟨b, hb'⟩ : ∃ b, s.bs[k]? = some b := ⟨_, List.getElem?_eq_getElem hkb⟩
        have hx : b.nm = x := by simpa [bNames, hb'] using hk
        rw [← hx, ← bN_take]
        exact (hB k b hb').2.1
      · rw [List.getElem?_append_right (by omega), hbl] at hk
        have hlt := (List.getElem?_eq_some_iff.1 hk).1
        obtain ⟨r, hr'⟩ : ∃ r, s.rs[k - s.bs.length]? = some r := ⟨_, List.getElem?_eq_getElem (by omega)⟩
        have hx : r.nm = x := by simpa [rNames, hr'] using hk
        rw [← hx, List.take_append, List.take_of_length_le (by omega), hbl, ← rN_take]
        exact (hR _ r hr').2.1
    · obtain ⟨i, hi⟩ := List.mem_iff_getElem?.1 hx
      exact ⟨(hB i x hi).1, (hB i x hi).2.2⟩
    · obtain ⟨i, hi⟩ := List.mem_iff_getElem?.1 hx
      exact ⟨(hR i x hi).1, (hR i x hi).2.2⟩
  · rintro ⟨b, r, nd, bk, rp, hh⟩
    have hn := nodup_take.1 nd
    refine ⟨⟨⟨⟨b, r⟩, fun i hi => ?_⟩, fun i hi => ?_⟩, hh⟩
    · obtain ⟨b, hb⟩ : ∃ b, s.bs[i]? = some b := ⟨_, List.getElem?_eq_getElem hi⟩
      have h1 := bk b (List.mem_of_getElem? hb)
      have h2 := hn i b.nm (by rw [List.getElem?_append_left (by omega)]; simp [bNames, hb])
      rw [List.take_append_of_le_length (by omega), ← bN_take] at h2
      rw [okB_at hb, h1.1, h2, decide_eq_true h1.2]
      rfl
    · obtain ⟨r, hr⟩ : ∃ r, s.rs[i]? = some r := ⟨_, List.getElem?_eq_getElem hi⟩
      have h1 := rp r (List.mem_of_getElem? hr)
      have h2 := hn (s.bs.length + i) r.nm (by
        rw [List.getElem?_append_right (by omega), hbl, Nat.add_sub_cancel_left]
        simp [rNames, hr])
      rw [List.take_append, List.take_of_length_le (by omega), hbl, Nat.add_sub_cancel_left, ← rN_take] at h2
      rw [okR_at hr, h1.1, h2, h1.2]
      rfl
/-- What a rope needs of the blocks: their names. -/
theorem okHold_names {bs bs' : List Bk} (h : ∀ nm, (bNames bs).contains nm = (bNames bs').contains nm) (x : Hd) (e : Bool) : okHold bs x e = okHold bs' x e := by
  unfold okHold
  rw [findB_ge, findB_ge, h]
theorem okHolds_names {bs bs' : List Bk} (h : ∀ nm, (bNames bs).contains nm = (bNames bs').contains nm) (l : List Hd) : okHolds bs l = okHolds bs' l := by
  unfold okHolds
  congr 1
  funext i
  cases l[i]? with
  | none => rfl
  | some x => exact okHold_names h x _
theorem okRope_names {bs bs' : List Bk} (h : ∀ nm, (bNames bs).contains nm = (bNames bs').contains nm) (r : Rp) : okRope bs r = okRope bs' r := by
  unfold okRope
  rw [okHolds_names h]
/-- Other weights. -/
theorem VS.weights {s t : Sy} (h : VS s) (hr : t.rs = s.rs) (hn : bNames t.bs = bNames s.bs) (hw : ∀ b ∈ t.bs, 0 ≤ b.w ∧ b.w ≤ 16777216) : VS t := by
  have hl : t.bs.length = s.bs.length := by rw [← bN_len, ← bN_len, hn]
  refine ⟨by rw [hl]; exact h.b, by rw [hr]; exact h.r, by rw [hr, hn]; exact h.nd, fun b hb => ⟨?_, hw b hb⟩, fun r hr' => ?_, by rw [hr]; exact h.h⟩
  · have : b.nm ∈ bNames s.bs := by rw [← hn]; exact List.mem_map.2 ⟨b, hb, rfl⟩
    obtain ⟨c, hc, e⟩ := List.mem_map.1 this
    rw [← e]
    exact (h.bk c hc).1
  · rw [hr] at hr'
    rw [okRope_names (bs' := s.bs) (fun nm => by rw [hn])]
    exact h.rp r hr'
theorem matS_names {s t : Sy} (hr : t.rs = s.rs) (hn : bNames t.bs = bNames s.bs) : matS t = matS s := by
  have e : ∀ u : Sy, matS u = (bNames u.bs).map fun nm => u.rs.map fun r => pull nm r.hs := fun u => by unfold matS bNames; rw [List.map_map]; rfl
  rw [e, e, hn, hr]
/-- A rope that runs the other way. -/
def backR (r : Rp) : Rp := ⟨r.nm, r.hs.reverse, false⟩
def backS (s : Sy) (i : Nat) : Sy := ⟨s.bs, match s.rs[i]? with | some r => s.rs.set i (backR r) | none => s.rs⟩
theorem okHolds_iff {bs : List Bk} {hs : List Hd} : okHolds bs hs = true ↔ ∀ (i : Nat) (h : Hd), hs[i]? = some h → okHold bs h (endH hs.length i) = true := by
  unfold okHolds
  rw [List.all_eq_true]
  constructor
  · intro h i x hi
    have := h i (List.mem_range.2 (List.getElem?_eq_some_iff.1 hi).1)
    rw [hi] at this
    exact this
  · intro h i hi
    rw [List.mem_range] at hi
    rw [List.getElem?_eq_getElem hi]
    exact h i _ (List.getElem?_eq_getElem hi)
theorem okHolds_rev {bs : List Bk} {hs : List Hd} (h : okHolds bs hs = true) : okHolds bs hs.reverse = true := okHolds_iff.2 fun i x hi => by
  have hl := (List.getElem?_eq_some_iff.1 hi).1
  rw [List.length_reverse] at hl
  have := okHolds_iff.1 h _ x (rev_get hi)
  have e : endH hs.reverse.length i = endH hs.length (hs.length - 1 - i) := by
    unfold endH
    rw [List.length_reverse, Bool.eq_iff_iff]
    simp only [Bool.or_eq_true, beq_iff_eq]
    omega
  rw [e]
  exact this
theorem filter_set_len {l : List Rp} {i : Nat} {x y : Rp} (h : l[i]? = some x) (hy : y.hl = false) : hauls (l.set i y) ≤ hauls l := by
  unfold hauls
  obtain ⟨hi, e⟩ := List.getElem?_eq_some_iff.1 h
  rw [List.set_eq_take_append_cons_drop, if_pos hi]
  conv => rhs; rw [← List.take_append_drop i l, List.drop_eq_getElem_cons hi]
  simp only [List.filter_append, List.length_append, List.filter_cons, hy]
  simp only [Bool.false_eq_true, if_false]
  split <;> simp
theorem VS.back {s : Sy} (h : VS s) (i : Nat) : VS (backS s i) := by
  unfold backS
  cases hi : s.rs[i]? with
  | none => exact h
  | some r =>
    have hil := (List.getElem?_eq_some_iff.1 hi).1
    have hrm := List.mem_of_getElem? hi
    have hnm : rNames (s.rs.set i (backR r)) = rNames s.rs := by
      unfold rNames
      rw [List.map_set]
      refine List.ext_getElem? fun k => ?_
      by_cases e : i = k
      · subst e
        rw [List.getElem?_set_self (by simpa using hil), List.getElem?_map, hi]
        rfl
      · rw [List.getElem?_set_ne e]
    refine ⟨h.b, by simpa using h.r, by show (bNames s.bs ++ rNames (s.rs.set i (backR r))).Nodup; rw [hnm]; exact h.nd, h.bk, fun x hx => ?_, Nat.le_trans (filter_set_len hi rfl) h.h⟩
    rcases List.mem_or_eq_of_mem_set hx with hx | rfl
    · exact h.rp x hx
    · obtain ⟨a1, a2⟩ := h.rp r hrm
      refine ⟨a1, ?_⟩
      unfold okRope at a2 ⊢
      simp only [Bool.and_eq_true, decide_eq_true_eq] at a2 ⊢
      refine ⟨⟨by simpa [backR] using a2.1.1, ?_⟩, rfl⟩
      exact okHolds_rev a2.1.2
end Go.Proofs.Ytpcakodemleoiaa.T
end

section
namespace Go.Proofs.Ytpcakodemleoiaa.T
open Go Go.RowKit Lin
set_option linter.unusedSimpArgs false

/-! Sums of weights; one tension more (plain). -/
section
variable {m : List (List Int)} {right other : List Int}
theorem SolQ.add {Z Y : Nat → Int} {D E : Int} (h : SolQ m right Z D) (k : SolQ m other Y E) : SolQ m (zipA right other) (fun j => Z j * E + Y j * D) (D * E) := fun i r b hi hb => by
  obtain ⟨p, q, hp, hq, rfl⟩ := zip_get hb
  rw [sum_two (Lin.at_ r) Z Y E D, h i r p hi hp, k i r q hi hq, Int.mul_add]
  ac_rfl
theorem SolQ.less (hl : other.length = right.length) {Z Y : Nat → Int} {D E : Int} (h : SolQ m right Z D) (k : SolQ m (zipA right other) Y E) : SolQ m other (fun j => Y j * D + Z j * (-E)) (D * E) := fun i r b hi hb => by
  have hil := (List.getElem?_eq_some_iff.1 hb).1
  obtain ⟨p, hp⟩ : ∃ p, right[i]? = some p := ⟨_, List.getElem?_eq_getElem (by omega)⟩
  have hz : (zipA right other)[i]? = some (p + b) := by
    unfold zipA
    rw [List.getElem?_zipWith, hp, hb]
  rw [sum_two (Lin.at_ r) Y Z D (-E), h i r p hi hp, k i r _ hi hz]
  grind
variable (hv : validP m = true) (hr : right.length = m.length) (ho : other.length = m.length) (hw : withinP right 67108864 = true) (hwo : withinP other 67108864 = true) (hws : withinP (zipA right other) 67108864 = true)
include hv hr ho hw hwo hws
end
/-! Residuals, one by one. -/
end Go.Proofs.Ytpcakodemleoiaa.T
end


