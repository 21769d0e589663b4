import Derived.Test.YtjjpjgnoanfaoaaGreatQMQX
import Derived.Test.YtjjpjgnoanfaoaaGreatQVS
set_option linter.all false
namespace Go.Proofs.YtjjpjgnoanfaoaaGreat.T
open Go Go.RowKit Lin
set_option linter.unusedSimpArgs false

/-! Chapter 16: a system without a rope. -/
/-! Chapter 16: what vanishes, and what depends on the set of the fixed ropes alone (plain). -/
/-! The fixed ropes as a list. -/
def rowR (bs : List Bk) (r : Rp) : List Int := bs.map fun b => pull b.nm r.hs
def fxR (s : Sy) : List Rp := s.rs.filter fun r => !r.hl
theorem colP_row {s : Sy} {i : Nat} {r : Rp} (hr : s.rs[i]? = some r) : colP (matS s) i = rowR s.bs r := by
  unfold colP matS rowR
  rw [List.map_map]
  refine List.map_congr_left fun b _ => ?_
  simp [at_, hr]
theorem fxR_take (s : Sy) : ∀ k, k ≤ s.rs.length → (fixP s.rs (-1) k).map (fun i => s.rs[i]?) = ((s.rs.take k).filter fun r => !r.hl).map some
  | 0, _ => rfl
  | k + 1, hk => by
    obtain ⟨r, hr⟩ : ∃ y, s.rs[k]? = some y := ⟨_, List.getElem?_eq_getElem (by omega)⟩
    have ih := fxR_take s k (by omega)
    rw [fixP_step hr, List.take_add_one, hr, Option.toList_some, List.filter_append, List.map_append, ← ih]
    cases hh : r.hl
    · have hk1 : (!((k : Int) == -1)) = true := by simp
      rw [if_pos (by simpa using hk1), List.map_append]
      simp [hr, hh]
    · simp [hh]
theorem fxR_get (s : Sy) : (fixA s).map (fun i => s.rs[i]?) = (fxR s).map some := by
  have := fxR_take s s.rs.length (Nat.le_refl _)
  rw [List.take_length] at this
  exact this
theorem fxR_at {s : Sy} {k : Nat} {r : Rp} : (fxR s)[k]? = some r ↔ ∃ i, (fixA s)[k]? = some i ∧ s.rs[i]? = some r := by
  have h := congrArg (·[k]?) (fxR_get s)
  simp only [List.getElem?_map] at h
  constructor
  · intro hr
    rw [hr] at h
    cases hi : (fixA s)[k]? with
    | none => rw [hi] at h; simp at h
    | some i => rw [hi] at h; exact ⟨i, rfl, by simpa using h⟩
  · rintro ⟨i, hi, hr⟩
    rw [hi] at h
    simp only [Option.map_some, hr] at h
    cases hx : (fxR s)[k]? with
    | none => rw [hx] at h; simp at h
    | some q => rw [hx] at h; simp at h; rw [h]
theorem fxR_len (s : Sy) : (fxR s).length = (fixA s).length := by
  have := congrArg List.length (fxR_get s)
  simpa using this.symm
/-! The rank of some ropes' rows. -/
def rkB (bs : List Bk) (M : List Rp) : Nat := rankP (M.map (rowR bs)) bs.length
theorem rkB_is {s : Sy} (ok : OkS s) {M : List Rp} (hM : M.length ≤ 6) (h : ∀ r ∈ M, r ∈ s.rs) : IsRank ((M.map (rowR s.bs)).map at_) s.bs.length (rkB s.bs M) := by
  have hent : ∀ r ∈ M.map (rowR s.bs), r.length = s.bs.length ∧ ∀ x ∈ r, -32 ≤ x ∧ x ≤ 32 := fun r hr => by
    obtain ⟨q, hq, rfl⟩ := List.mem_map.1 hr
    refine ⟨by simp [rowR], fun x hx => ?_⟩
    obtain ⟨b, _, rfl⟩ := List.mem_map.1 hx
    have h1 := pull_bound (nm := b.nm) (ok.pulls q (h q hq))
    have h2 := (ok.holds q (h q hq)).2.1
    omega
  exact rk_isRank ⟨by simpa using hM, fun r hr => (hent r hr).1, Nat.le_refl _, fun r hr j _ => at_bound (by decide) (hent r hr).2 j, fun r hr j => by
    have := at_bound (x := 32) (by decide) (hent r hr).2 j
    omega⟩
theorem rkB_rows {s t : Sy} (ok : OkS s) (ok' : OkS t) (hb : t.bs = s.bs) {M N : List Rp} (hM : M.length ≤ 6) (hN : N.length ≤ 6) (h1 : ∀ r ∈ M, r ∈ s.rs) (h2 : ∀ r ∈ N, r ∈ t.rs) (h : ∀ x, x ∈ M.map (rowR s.bs) ↔ x ∈ N.map (rowR s.bs)) : rkB s.bs M = rkB s.bs N := by
  have i1 := rkB_is ok hM h1
  have i2 := rkB_is ok' hN h2
  rw [hb] at i2
  refine (isRank_mem i1 fun x => ?_).uniq i2
  constructor
  · intro hx
    obtain ⟨y, hy, rfl⟩ := List.mem_map.1 hx
    exact List.mem_map.2 ⟨y, (h y).1 hy, rfl⟩
  · intro hx
    obtain ⟨y, hy, rfl⟩ := List.mem_map.1 hx
    exact List.mem_map.2 ⟨y, (h y).2 hy, rfl⟩
theorem fxR_sub {s : Sy} : ∀ r ∈ fxR s, r ∈ s.rs := fun _ hr => (List.mem_filter.1 hr).1
theorem fxR_six {s : Sy} (ok : OkS s) : (fxR s).length ≤ 6 := by rw [fxR_len]; exact fixA_le ok
theorem rowsF_list (s : Sy) {L : List Nat} {X : List Rp} (h : L.map (fun i => s.rs[i]?) = X.map some) : rowsF s L = X.map (rowR s.bs) := by
  refine List.ext_getElem? fun k => ?_
  have hk := congrArg (·[k]?) h
  simp only [List.getElem?_map] at hk
  unfold rowsF
  rw [List.getElem?_map, List.getElem?_map]
  cases hi : L[k]? with
  | none =>
    rw [hi] at hk
    cases hx : X[k]? with
    | none => rfl
    | some r => rw [hx] at hk; simp at hk
  | some i =>
    rw [hi] at hk
    cases hx : X[k]? with
    | none => rw [hx] at hk; simp at hk
    | some r =>
      rw [hx] at hk
      have hr : s.rs[i]? = some r := by simpa using hk
      simp only [Option.map_some]
      rw [trS_getD s (List.getElem?_eq_some_iff.1 hr).1, colP_row hr]
theorem rankP_nil (n : Nat) : rankP ([] : List (List Int)) n = 0 := by
  obtain ⟨S, C, h1, h2, _⟩ := rk_isRank (m := []) (w := n) ⟨by simp, by simp, Nat.le_refl _, by simp, by simp⟩
  cases S with
  | nil => simpa using h2.symm
  | cons a l => exact absurd (h1 a (by simp)) (by simp)
theorem rkF_list {s : Sy} (ok : OkS s) {L : List Nat} {X : List Rp} (hl : L.length ≤ 6) (h : L.map (fun i => s.rs[i]?) = X.map some) : rkF s L = rkB s.bs X := by
  unfold rkF rkB
  rw [← rowsF_list s h]
  by_cases h0 : L = []
  · subst h0
    have e2 : rowsF s [] = [] := rfl
    rw [e2, rankP_nil, rankP_nil]
  · have hL : ∀ i ∈ L, i < s.rs.length := fun i hi => by
      obtain ⟨k, hk⟩ := List.mem_iff_getElem?.1 hi
      have h1 := congrArg (·[k]?) h
      simp only [List.getElem?_map, hk, Option.map_some] at h1
      cases hx : X[k]? with
      | none => rw [hx] at h1; simp at h1
      | some r =>
        rw [hx] at h1
        exact (List.getElem?_eq_some_iff.1 (show s.rs[i]? = some r by simpa using h1)).1
    rw [(rowsF_valid ok h0 hl hL).2.1]
/-! The redundant ropes by their names. -/
theorem fxR_inj {s : Sy} (ok : OkS s) {i j : Nat} {x y : Rp} (hi : (fxR s)[i]? = some x) (hj : (fxR s)[j]? = some y) (h : x.nm = y.nm) : i = j := by
  obtain ⟨a, ha, hx⟩ := fxR_at.1 hi
  obtain ⟨b, hb, hy⟩ := fxR_at.1 hj
  have := ok.rinj a b x y hx hy h
  subst this
  exact (List.getElem?_inj (List.getElem?_eq_some_iff.1 ha).1 (fixA_nodup s)).1 (ha.trans hb.symm)
def butR (s : Sy) (nm : ByteArray) : List Rp := (fxR s).filter fun q => !decide (q.nm = nm)
theorem butR_mem {s : Sy} {nm : ByteArray} {q : Rp} : q ∈ butR s nm ↔ q ∈ fxR s ∧ q.nm ≠ nm := by simp [butR]
theorem butR_six {s : Sy} (ok : OkS s) (nm : ByteArray) : (butR s nm).length ≤ 6 := Nat.le_trans (List.length_filter_le _ _) (fxR_six ok)
def redR (s : Sy) (r : Rp) : Bool := decide (rkB s.bs (butR s r.nm) = rkB s.bs (fxR s))
theorem filt_range {α β : Type} (X : List α) (p : Nat → Bool) (q : α → Bool) (g : Nat → β) (h : α → β) (hp : ∀ i x, X[i]? = some x → p i = q x) (hg : ∀ i x, X[i]? = some x → g i = h x) : ∀ k, k ≤ X.length → ((List.range k).filter p).map g = ((X.take k).filter q).map h
  | 0, _ => rfl
  | k + 1, hk => by
    obtain ⟨x, hx⟩ : ∃ y, X[k]? = some y := ⟨_, List.getElem?_eq_getElem (by omega)⟩
    have ih := filt_range X p q g h hp hg k (by omega)
    rw [List.range_succ, List.take_add_one, hx, Option.toList_some, List.filter_append, List.filter_append, List.map_append, List.map_append, ih]
    congr 1
    have e := hp k x hx
    cases hq : q x
    · rw [hq] at e
      simp [e, hq]
    · rw [hq] at e
      simp [e, hq, hg k x hx]
theorem map_erase_some {s : Sy} {L : List Nat} {X : List Rp} (h : L.map (fun i => s.rs[i]?) = X.map some) (k : Nat) : (L.eraseIdx k).map (fun i => s.rs[i]?) = (X.eraseIdx k).map some := by
  rw [← erase_map, ← erase_map, h]
theorem redB_is {s : Sy} (ok : OkS s) {k : Nat} {r : Rp} (hr : (fxR s)[k]? = some r) : redB s (fixA s) k = redR s r := by
  have hkl := (List.getElem?_eq_some_iff.1 hr).1
  have h6 := fixA_le ok
  have hel : ((fixA s).eraseIdx k).length ≤ 6 := Nat.le_trans (List.length_eraseIdx_le _ _) h6
  have e1 := rkF_list ok h6 (fxR_get s)
  have e2 := rkF_list ok hel (map_erase_some (fxR_get s) k)
  have e3 : rkB s.bs ((fxR s).eraseIdx k) = rkB s.bs (butR s r.nm) := by
    refine rkB_rows ok ok rfl (Nat.le_trans (List.length_eraseIdx_le _ _) (fxR_six ok)) (butR_six ok _) (fun q hq => fxR_sub q (List.mem_of_mem_eraseIdx hq)) (fun q hq => fxR_sub q (butR_mem.1 hq).1) fun x => ?_
    have hm : ∀ q, q ∈ (fxR s).eraseIdx k ↔ q ∈ butR s r.nm := fun q => by
      rw [butR_mem, List.mem_eraseIdx_iff_getElem?]
      constructor
      · rintro ⟨i, hne, hi⟩
        exact ⟨List.mem_of_getElem? hi, fun e => hne (fxR_inj ok hi hr e)⟩
      · rintro ⟨hq, hne⟩
        obtain ⟨i, hi⟩ := List.mem_iff_getElem?.1 hq
        refine ⟨i, fun e => hne ?_, hi⟩
        subst e
        rw [hr] at hi
        cases hi
        rfl
    simp only [List.mem_map, hm]
  unfold redB redR
  rw [e1, e2, e3, Bool.eq_iff_iff]
  simp
theorem redP_fx {s : Sy} (hv : validS s = true) : redP s = (((fxR s).filter (redR s)).map (·.nm), 0) := by
  have ok := validS_ok hv
  have e : redP s = (redN s (fixA s) (fixA s).length, 0) := by simp [redP, hv]
  rw [e]
  congr 1
  unfold redN
  have h := filt_range (fxR s) (redB s (fixA s)) (redR s) (fun i => (s.rs.getD ((fixA s).getD i 0) ⟨ByteArray.empty, [], false⟩).nm) (·.nm) (fun i x hx => redB_is ok hx) (fun i x hx => by
    obtain ⟨a, ha, hr⟩ := fxR_at.1 hx
    rw [List.getD_eq_getElem?_getD (l := fixA s), ha, Option.getD_some, List.getD_eq_getElem?_getD, hr]
    rfl) (fxR s).length (Nat.le_refl _)
  rw [List.take_length, fxR_len] at h
  exact h
/-! Other systems of the same ropes. -/
/-! MobilityRemoves. -/
end Go.Proofs.YtjjpjgnoanfaoaaGreat.T

