import Derived.Test.YtpcakodemleoiaaGreatSMJAMGW
set_option linter.all false
section
namespace Go.Proofs.YtpcakodemleoiaaGreat.T
open Go Go.RowKit Lin
end Go.Proofs.YtpcakodemleoiaaGreat.T
end
section
namespace Go.Proofs.YtpcakodemleoiaaGreat.T
open Go Go.RowKit Lin
theorem nodup_take {l : List ByteArray} : l.Nodup ↔ ∀ (k : Nat) (x : ByteArray), l[k]? = some x → (l.take k).contains x = false := by
  unfold List.Nodup
  rw [List.pairwise_iff_getElem]
  constructor
  · intro h k x hk
    rw [← Bool.not_eq_true, List.contains_iff_mem]
    intro hm
    obtain ⟨i, hi⟩ := List.mem_iff_getElem?.1 hm
    have hik : i < k := by
      have := (List.getElem?_eq_some_iff.1 hi).1
      simp at this; omega
    rw [List.getElem?_take, if_pos hik] at hi
    obtain ⟨hk1, hk2⟩ := List.getElem?_eq_some_iff.1 hk
    obtain ⟨hi1, hi2⟩ := List.getElem?_eq_some_iff.1 hi
    exact h i k hi1 hk1 hik (by rw [hi2, hk2])
  · intro h i j hi hj hij e
    have h1 := h j l[j] (List.getElem?_eq_getElem hj)
    rw [← Bool.not_eq_true, List.contains_iff_mem] at h1
    refine h1 (List.mem_of_getElem? (i := i) ?_)
    rw [List.getElem?_take, if_pos hij, List.getElem?_eq_getElem hi, e]
structure VS (s : Sy) : Prop where
  b : 1 ≤ s.bs.length ∧ s.bs.length ≤ 6
  r : 1 ≤ s.rs.length ∧ s.rs.length ≤ 6
  nd : (bNames s.bs ++ rNames s.rs).Nodup
  bk : ∀ b ∈ s.bs, isNm b.nm = true ∧ 0 ≤ b.w ∧ b.w ≤ 16777216
  rp : ∀ r ∈ s.rs, isNm r.nm = true ∧ okRope s.bs r = true
  h : hauls s.rs ≤ 1
theorem bN_len (l : List Bk) : (bNames l).length = l.length := by simp [bNames]
theorem rN_len (l : List Rp) : (rNames l).length = l.length := by simp [rNames]
theorem bN_take (l : List Bk) (k : Nat) : bNames (l.take k) = (bNames l).take k := by simp [bNames, List.map_take]
theorem rN_take (l : List Rp) (k : Nat) : rNames (l.take k) = (rNames l).take k := by simp [rNames, List.map_take]
theorem validS_iff {s : Sy} : validS s = true ↔ VS s := by
  unfold validS okSize
  simp only [Bool.and_eq_true, List.all_eq_true, List.mem_range, decide_eq_true_eq]
  have hbl := bN_len s.bs
  have hrl := rN_len s.rs
  constructor
  · rintro ⟨⟨⟨⟨b, r⟩, hb⟩, hr⟩, hh⟩
    have hB : ∀ i b, s.bs[i]? = some b → isNm b.nm = true ∧ (bNames (s.bs.take i)).contains b.nm = false ∧ 0 ≤ b.w ∧ b.w ≤ 16777216 := fun i b hi => by
      have := hb i (List.getElem?_eq_some_iff.1 hi).1
      rw [okB_at hi, Bool.and_eq_true, Bool.and_eq_true, Bool.not_eq_true', decide_eq_true_eq] at this
      exact ⟨this.1.1, this.1.2, this.2⟩
    have hR : ∀ i r, s.rs[i]? = some r → isNm r.nm = true ∧ (bNames s.bs ++ rNames (s.rs.take i)).contains r.nm = false ∧ okRope s.bs r = true := fun i r hi => by
      have := hr i (List.getElem?_eq_some_iff.1 hi).1
      rw [okR_at hi, Bool.and_eq_true, Bool.and_eq_true, Bool.not_eq_true'] at this
      exact ⟨this.1.1, this.1.2, this.2⟩
    refine ⟨b, r, nodup_take.2 fun k x hk => ?_, fun x hx => ?_, fun x hx => ?_, hh⟩
    · by_cases hkb : k < s.bs.length
      · rw [List.getElem?_append_left (by omega)] at hk
        rw [List.take_append_of_le_length (by omega)]
        obtain ⟨b, hb'⟩ : ∃ b, s.bs[k]? = some b := ⟨_, List.getElem?_eq_getElem hkb⟩
        have hx : b.nm = x := by simpa [bNames, hb'] using hk
        rw [← hx, ← bN_take]
        exact (hB k b hb').2.1
      · rw [List.getElem?_append_right (by omega), hbl] at hk
        have hlt := (List.getElem?_eq_some_iff.1 hk).1
        obtain ⟨r, hr'⟩ : ∃ r, s.rs[k - s.bs.length]? = some r := ⟨_, List.getElem?_eq_getElem (by omega)⟩
        have hx : r.nm = x := by simpa [rNames, hr'] using hk
        rw [← hx, List.take_append, List.take_of_length_le (by omega), hbl, ← rN_take]
        exact (hR _ r hr').2.1
    · obtain ⟨i, hi⟩ := List.mem_iff_getElem?.1 hx
      exact ⟨(hB i x hi).1, (hB i x hi).2.2⟩
    · obtain ⟨i, hi⟩ := List.mem_iff_getElem?.1 hx
      exact ⟨(hR i x hi).1, (hR i x hi).2.2⟩
  · rintro ⟨b, r, nd, bk, rp, hh⟩
    have hn := nodup_take.1 nd
    refine ⟨⟨⟨⟨b, r⟩, fun i hi => ?_⟩, fun i hi => ?_⟩, hh⟩
    · obtain ⟨b, hb⟩ : ∃ b, s.bs[i]? = some b := ⟨_, List.getElem?_eq_getElem hi⟩
      have h1 := bk b (List.mem_of_getElem? hb)
      have h2 := hn i b.nm (by rw [List.getElem?_append_left (by omega)]; simp [bNames, hb])
      rw [List.take_append_of_le_length (by omega), ← bN_take] at h2
      rw [okB_at hb, h1.1, h2, decide_eq_true h1.2]
      rfl
    · obtain ⟨r, hr⟩ : ∃ r, s.rs[i]? = some r := ⟨_, List.getElem?_eq_getElem hi⟩
      have h1 := rp r (List.mem_of_getElem? hr)
      have h2 := hn (s.bs.length + i) r.nm (by
        rw [List.getElem?_append_right (by omega), hbl, Nat.add_sub_cancel_left]
        simp [rNames, hr])
      rw [List.take_append, List.take_of_length_le (by omega), hbl, Nat.add_sub_cancel_left, ← rN_take] at h2
      rw [okR_at hr, h1.1, h2, h1.2]
      rfl
theorem okHold_names {bs bs' : List Bk} (h : ∀ nm, (bNames bs).contains nm = (bNames bs').contains nm) (x : Hd) (e : Bool) : okHold bs x e = okHold bs' x e := by
  unfold okHold
  rw [findB_ge, findB_ge, h]
theorem okHolds_names {bs bs' : List Bk} (h : ∀ nm, (bNames bs).contains nm = (bNames bs').contains nm) (l : List Hd) : okHolds bs l = okHolds bs' l := by
  unfold okHolds
  congr 1
  funext i
  cases l[i]? with
  | none => rfl
  | some x => exact okHold_names h x _
theorem okRope_names {bs bs' : List Bk} (h : ∀ nm, (bNames bs).contains nm = (bNames bs').contains nm) (r : Rp) : okRope bs r = okRope bs' r := by
  unfold okRope
  rw [okHolds_names h]
theorem VS.weights {s t : Sy} (h : VS s) (hr : t.rs = s.rs) (hn : bNames t.bs = bNames s.bs) (hw : ∀ b ∈ t.bs, 0 ≤ b.w ∧ b.w ≤ 16777216) : VS t := by
  have hl : t.bs.length = s.bs.length := by rw [← bN_len, ← bN_len, hn]
  refine ⟨by rw [hl]; exact h.b, by rw [hr]; exact h.r, by rw [hr, hn]; exact h.nd, fun b hb => ⟨?_, hw b hb⟩, fun r hr' => ?_, by rw [hr]; exact h.h⟩
  · have : b.nm ∈ bNames s.bs := by rw [← hn]; exact List.mem_map.2 ⟨b, hb, rfl⟩
    obtain ⟨c, hc, e⟩ := List.mem_map.1 this
    rw [← e]
    exact (h.bk c hc).1
  · rw [hr] at hr'
    rw [okRope_names (bs' := s.bs) (fun nm => by rw [hn])]
    exact h.rp r hr'
theorem matS_names {s t : Sy} (hr : t.rs = s.rs) (hn : bNames t.bs = bNames s.bs) : matS t = matS s := by
  have e : ∀ u : Sy, matS u = (bNames u.bs).map fun nm => u.rs.map fun r => pull nm r.hs := fun u => by unfold matS bNames; rw [List.map_map]; rfl
  rw [e, e, hn, hr]
theorem okHolds_iff {bs : List Bk} {hs : List Hd} : okHolds bs hs = true ↔ ∀ (i : Nat) (h : Hd), hs[i]? = some h → okHold bs h (endH hs.length i) = true := by
  unfold okHolds
  rw [List.all_eq_true]
  constructor
  · intro h i x hi
    have := h i (List.mem_range.2 (List.getElem?_eq_some_iff.1 hi).1)
    rw [hi] at this
    exact this
  · intro h i hi
    rw [List.mem_range] at hi
    rw [List.getElem?_eq_getElem hi]
    exact h i _ (List.getElem?_eq_getElem hi)
end Go.Proofs.YtpcakodemleoiaaGreat.T
end
section
namespace Go.Proofs.YtpcakodemleoiaaGreat.T
open Go Go.RowKit Lin
section
variable {m : List (List Int)} {right other : List Int}
theorem SolQ.add {Z Y : Nat → Int} {D E : Int} (h : SolQ m right Z D) (k : SolQ m other Y E) : SolQ m (zipA right other) (fun j => Z j * E + Y j * D) (D * E) := fun i r b hi hb => by
  obtain ⟨p, q, hp, hq, rfl⟩ := zip_get hb
  rw [sum_two (Lin.at_ r) Z Y E D, h i r p hi hp, k i r q hi hq, Int.mul_add]
  ac_rfl
theorem SolQ.less (hl : other.length = right.length) {Z Y : Nat → Int} {D E : Int} (h : SolQ m right Z D) (k : SolQ m (zipA right other) Y E) : SolQ m other (fun j => Y j * D + Z j * (-E)) (D * E) := fun i r b hi hb => by
  have hil := (List.getElem?_eq_some_iff.1 hb).1
  obtain ⟨p, hp⟩ : ∃ p, right[i]? = some p := ⟨_, List.getElem?_eq_getElem (by omega)⟩
  have hz : (zipA right other)[i]? = some (p + b) := by
    unfold zipA
    rw [List.getElem?_zipWith, hp, hb]
  rw [sum_two (Lin.at_ r) Y Z D (-E), h i r p hi hp, k i r _ hi hz]
  grind
variable (hv : validP m = true) (hr : right.length = m.length) (ho : other.length = m.length) (hw : withinP right 67108864 = true) (hwo : withinP other 67108864 = true) (hws : withinP (zipA right other) 67108864 = true)
include hv hr ho hw hwo hws
end
end Go.Proofs.YtpcakodemleoiaaGreat.T
end

namespace Go.Proofs.YtpcakodemleoiaaGreat.T
open Go Go.RowKit Lin
theorem sg_abs (s : Bool) (n : Nat) : (sg s (n : Int)).natAbs = n := by unfold sg; cases s <;> simp
theorem made_is {x : Int × Int} (hx : vfrac x.1 x.2 = true) {a d : Nat} {s : Bool} (hd : 0 < d) (h : x.1 * (d : Int) = sg s a * x.2) : madeP a s d = (x, 0) := by
  obtain ⟨b1, b2, b3, b4, b5⟩ := fr_bounds hx
  have hn : x.1.natAbs * d = a * x.2.natAbs := by
    have := congrArg Int.natAbs h
    rwa [Int.natAbs_mul, Int.natAbs_mul, Int.natAbs_natCast, sg_abs] at this
  rw [made_low (p := x.1.natAbs) (q := x.2.natAbs) (by omega) hd b5 hn]
  unfold signP
  rw [if_neg (by omega)]
  have hd' : (0 : Int) < d := by omega
  have e2 : ((x.2.natAbs : Nat) : Int) = x.2 := Int.natAbs_of_nonneg (by omega)
  have hp := Int.mul_nonneg (Int.natCast_nonneg a) (show (0 : Int) ≤ x.2 by omega)
  have e1 : (if s = true then -((x.1.natAbs : Nat) : Int) else (x.1.natAbs : Int)) = x.1 := by
    cases s
    · have h0 : 0 ≤ x.1 := by
        rcases Int.lt_or_le x.1 0 with hl | hl
        · have := Int.mul_neg_of_neg_of_pos hl hd'
          simp only [sg, Bool.false_eq_true, if_false] at h
          omega
        · exact hl
      simp only [Bool.false_eq_true, if_false]
      omega
    · have h0 : x.1 ≤ 0 := by
        rcases Int.lt_or_le 0 x.1 with hl | hl
        · have := Int.mul_pos hl hd'
          simp only [sg, if_true, Int.neg_mul] at h
          omega
        · exact hl
      simp only [if_true]
      omega
  rw [e1, e2]
theorem den_mul {a b : Int × Int} (ha : vfrac a.1 a.2 = true) (hb : vfrac b.1 b.2 = true) : 0 < a.2.natAbs * b.2.natAbs ∧ ((a.2.natAbs * b.2.natAbs : Nat) : Int) = a.2 * b.2 := by
  have h1 := (fr_bounds ha).1
  have h2 := (fr_bounds hb).1
  exact ⟨Nat.mul_pos (by omega) (by omega), by rw [Int.natCast_mul, Int.natAbs_of_nonneg (by omega), Int.natAbs_of_nonneg (by omega)]⟩
theorem addR_made {a b : Int × Int} (ha : vfrac a.1 a.2 = true) (hb : vfrac b.1 b.2 = true) : ∃ (s : Bool) (z : Nat), addR a b = madeP z s (a.2.natAbs * b.2.natAbs) ∧ sg s (z : Int) = a.1 * b.2 + b.1 * a.2 := by
  obtain ⟨a1, _⟩ := fr_bounds ha
  obtain ⟨b1, _⟩ := fr_bounds hb
  have x1 : ((a.1.natAbs * b.2.natAbs : Nat) : Int) = (a.1.natAbs : Int) * b.2 := by rw [Int.natCast_mul, Int.natAbs_of_nonneg (by omega : 0 ≤ b.2)]
  have y1 : ((b.1.natAbs * a.2.natAbs : Nat) : Int) = (b.1.natAbs : Int) * a.2 := by rw [Int.natCast_mul, Int.natAbs_of_nonneg (by omega : 0 ≤ a.2)]
  have sa := abs_sg a.1
  have sb := abs_sg b.1
  by_cases h1 : decide (a.1 < 0) = decide (b.1 < 0)
  · refine ⟨decide (a.1 < 0), a.1.natAbs * b.2.natAbs + b.1.natAbs * a.2.natAbs, by unfold addR; rw [if_pos h1], ?_⟩
    rw [Int.natCast_add, x1, y1]
    rw [← h1] at sb
    conv => rhs; rw [sa, sb]
    unfold sg
    cases decide (a.1 < 0)
    · simp
    · simp [Int.neg_mul, Int.neg_add]
  · by_cases h2 : a.1.natAbs * b.2.natAbs < b.1.natAbs * a.2.natAbs
    · refine ⟨decide (b.1 < 0), b.1.natAbs * a.2.natAbs - a.1.natAbs * b.2.natAbs, by unfold addR; rw [if_neg h1, if_pos h2], ?_⟩
      rw [Int.natCast_sub (by omega), x1, y1]
      conv => rhs; rw [sa, sb]
      rw [sg_mulr, sg_mulr]
      clear sa sb x1 y1
      generalize (a.1.natAbs : Int) * b.2 = P
      generalize (b.1.natAbs : Int) * a.2 = R
      exact sg_diff h1 P R
    · refine ⟨decide (a.1 < 0), a.1.natAbs * b.2.natAbs - b.1.natAbs * a.2.natAbs, by unfold addR; rw [if_neg h1, if_neg h2], ?_⟩
      rw [Int.natCast_sub (by omega), x1, y1]
      conv => rhs; rw [sa, sb]
      rw [sg_mulr, sg_mulr]
      clear sa sb x1 y1
      generalize (a.1.natAbs : Int) * b.2 = P
      generalize (b.1.natAbs : Int) * a.2 = R
      exact sg_diff2 h1 P R
theorem addR_is {a b x : Int × Int} {p q r s : Int} (ha : Val a p q) (hb : Val b r s) (hx : Val x (p * s + r * q) (q * s)) : addR a b = (x, 0) := by
  obtain ⟨hp, e1⟩ := den_mul ha.v hb.v
  obtain ⟨sn, z, e, hz⟩ := addR_made ha.v hb.v
  rw [e]
  refine made_is hx.v hp ?_
  rw [e1, hz]
  refine cancel (c := q * s) (Int.mul_ne_zero ha.n0 hb.n0) ?_
  have h1 := ha.e
  have h2 := hb.e
  have h3 := hx.e
  calc x.1 * (a.2 * b.2) * (q * s) = x.1 * (q * s) * (a.2 * b.2) := by ac_rfl
    _ = (p * s + r * q) * x.2 * (a.2 * b.2) := by rw [h3]
    _ = ((p * a.2) * (s * b.2) + (r * b.2) * (q * a.2)) * x.2 := by grind
    _ = ((a.1 * q) * (s * b.2) + (b.1 * s) * (q * a.2)) * x.2 := by rw [h1, h2]
    _ = (a.1 * b.2 + b.1 * a.2) * x.2 * (q * s) := by grind
theorem Val.num {b : Int × Int} {r s : Int} (k : Val b r s) : b.1 = 0 ↔ r = 0 := by
  have h := k.e
  constructor
  · intro e
    rw [e, Int.zero_mul] at h
    exact (Int.mul_eq_zero.1 h.symm).resolve_right k.d
  · intro e
    rw [e, Int.zero_mul] at h
    exact (Int.mul_eq_zero.1 h).resolve_right k.n0
theorem Val.recip {b : Int × Int} {r s : Int} (k : Val b r s) (h0 : r ≠ 0) : Val (recip b) s r := by
  refine ⟨recip_ok k.v fun e => h0 (k.num.1 e), h0, ?_⟩
  have he := k.e
  unfold T.recip
  split
  · simp only [Int.neg_mul, Int.mul_neg]
    rw [Int.mul_comm b.2, Int.mul_comm s, he]
  · simp only
    rw [Int.mul_comm b.2, Int.mul_comm s, he]
theorem divP_ok {a b : Int × Int} (ha : vfrac a.1 a.2 = true) (hb : vfrac b.1 b.2 = true) : divP a b = divR a b := by unfold divP; rw [if_pos ⟨ha, hb⟩]
theorem divP_val {a b : Int × Int} (h : (divP a b).2 = 0) : vfrac a.1 a.2 = true ∧ vfrac b.1 b.2 = true ∧ b.1 ≠ 0 ∧ divP a b = divR a b := by
  unfold divP at h
  split at h
  · rename_i h1
    refine ⟨h1.1, h1.2, fun e => ?_, divP_ok h1.1 h1.2⟩
    rw [div_zero e] at h
    simp at h
  · simp at h
def unitB (nm : ByteArray) (b : Bk) : Bk := ⟨b.nm, if b.nm = nm then 1 else 0⟩
def unitS (s : Sy) (nm : ByteArray) : Sy := ⟨s.bs.map (unitB nm), s.rs⟩
theorem unit_names (s : Sy) (nm : ByteArray) : bNames (unitS s nm).bs = bNames s.bs := by simp [bNames, unitS, unitB]
theorem at_unit {s : Sy} (ok : OkS s) {nm : ByteArray} {j : Nat} {b : Bk} (hb : s.bs[j]? = some b) (hn : b.nm = nm) {k : Nat} (hk : k < s.bs.length) : Lin.at_ (wtsS (unitS s nm)) k = if j = k then 1 else 0 := by
  have hc : s.bs[k]? = some s.bs[k] := List.getElem?_eq_getElem hk
  have : (unitS s nm).bs[k]? = some (unitB nm s.bs[k]) := by simp [unitS, hc]
  rw [at_wts this]
  by_cases e : j = k
  · subst e
    rw [hb, Option.some.injEq] at hc
    rw [if_pos rfl]
    simp only [unitB]
    rw [← hc, if_pos hn]
  · rw [if_neg e]
    simp only [unitB]
    rw [if_neg]
    intro h
    exact e (ok.inj j k b s.bs[k] hb hc (by rw [hn, h]))
end Go.Proofs.YtpcakodemleoiaaGreat.T

section
namespace Go.Proofs.YtpcakodemleoiaaGreat.T
open Go Go.RowKit Lin
theorem SolQ.mul {m : List (List Int)} {right : List Int} {Z : Nat → Int} {D n : Int} (h : SolQ m right Z D) : SolQ m (right.map (· * n)) (fun k => Z k * n) D := fun i r b hi hb => by
  rw [List.getElem?_map] at hb
  cases hq : right[i]? with
  | none => rw [hq] at hb; simp at hb
  | some q =>
    rw [hq] at hb
    simp only [Option.map_some, Option.some.injEq] at hb
    subst hb
    have := h i r q hi hq
    have e : sumN (fun k => Lin.at_ r k * (Z k * n)) (wid m) = n * sumN (fun k => Lin.at_ r k * Z k) (wid m) := by
      rw [← sumN_mul]
      exact sumN_congr _ fun k _ => by ac_rfl
    show sumN (fun k => Lin.at_ r k * (Z k * n)) (wid m) = D * (q * n)
    rw [e, this]
    ac_rfl
end Go.Proofs.YtpcakodemleoiaaGreat.T
end

namespace Go.Proofs.YtpcakodemleoiaaGreat.T
open Go Go.RowKit Lin
def cleanH (h : Hd) : Hd := ⟨h.b, h.p, 1, 1⟩
def cleanR (r : Rp) : Rp := ⟨r.nm, r.hs.map cleanH, r.hl⟩
def cleanS (s : Sy) : Sy := ⟨s.bs, s.rs.map cleanR⟩
theorem idx_map {α β : Type} (f : α → β) (p : β → Bool) (q : α → Bool) (h : ∀ x, p (f x) = q x) : ∀ (l : List α) (n : Nat), idx p (l.map f) n = idx q l n
  | [], _ => rfl
  | x :: l, n => by simp only [List.map_cons, idx, h, idx_map f p q h l]
theorem okHold_clean {bs : List Bk} {h : Hd} {e : Bool} (hk : okHold bs h e = true) : okHold bs (cleanH h) e = true := by
  unfold okHold at hk ⊢
  rw [Bool.and_eq_true] at hk ⊢
  refine ⟨?_, hk.2⟩
  cases e
  · exact (by decide : lossy 1 1 = true)
  · rfl
theorem okHolds_clean {bs : List Bk} {hs : List Hd} (hk : okHolds bs hs = true) : okHolds bs (hs.map cleanH) = true := by
  refine okHolds_iff.2 fun i h hi => ?_
  rw [List.getElem?_map] at hi
  cases hq : hs[i]? with
  | none => rw [hq] at hi; simp at hi
  | some q =>
    rw [hq] at hi
    simp only [Option.map_some, Option.some.injEq] at hi
    subst hi
    rw [List.length_map]
    exact okHold_clean (okHolds_iff.1 hk i q hq)
theorem okRope_clean {bs : List Bk} {r : Rp} (hk : okRope bs r = true) : okRope bs (cleanR r) = true := by
  unfold okRope at hk ⊢
  rw [Bool.and_eq_true, Bool.and_eq_true] at hk ⊢
  refine ⟨⟨by simpa [cleanR] using hk.1.1, okHolds_clean hk.1.2⟩, ?_⟩
  have h3 := hk.2
  simp only [cleanR, List.getLast?_map] at h3 ⊢
  cases hl : r.hs.getLast? with
  | none => rw [hl] at h3; simpa using h3
  | some h => rw [hl] at h3; simpa [cleanH] using h3
theorem clean_hauls (rs : List Rp) : hauls (rs.map cleanR) = hauls rs := by
  unfold hauls
  rw [List.filter_map, List.length_map]
  rfl
theorem clean_names (rs : List Rp) : rNames (rs.map cleanR) = rNames rs := by simp [rNames, cleanR]
theorem VS.clean {s : Sy} (h : VS s) : VS (cleanS s) := by
  refine ⟨h.b, by simpa [cleanS] using h.r, ?_, h.bk, fun r hr => ?_, ?_⟩
  · show (bNames s.bs ++ rNames (s.rs.map cleanR)).Nodup
    rw [clean_names]
    exact h.nd
  · obtain ⟨q, hq, rfl⟩ := List.mem_map.1 hr
    exact ⟨(h.rp q hq).1, okRope_clean (h.rp q hq).2⟩
  · show hauls (s.rs.map cleanR) ≤ 1
    rw [clean_hauls]
    exact h.h
theorem hix_clean (s : Sy) : hix (cleanS s) = hix s := idx_map cleanR _ _ (fun _ => rfl) s.rs 0
end Go.Proofs.YtpcakodemleoiaaGreat.T

namespace Go.Proofs.YtpcakodemleoiaaGreat.T
open Go Go.RowKit Lin
def cmpV (a b : Int × Int) : Int := if a.1 * b.2 < b.1 * a.2 then -1 else if b.1 * a.2 < a.1 * b.2 then 1 else 0
def cmpP (a b : Int × Int) : Int × Int := if vfrac a.1 a.2 = true ∧ vfrac b.1 b.2 = true then (cmpV a b, 0) else (0, 1)
theorem cmpP_ok {a b : Int × Int} (ha : vfrac a.1 a.2 = true) (hb : vfrac b.1 b.2 = true) : cmpP a b = (cmpV a b, 0) := by unfold cmpP; rw [if_pos ⟨ha, hb⟩]
theorem cmpV_lt {a b : Int × Int} : cmpV a b < 0 ↔ a.1 * b.2 < b.1 * a.2 := by
  unfold cmpV
  split
  · rename_i h; exact ⟨fun _ => h, fun _ => by decide⟩
  · rename_i h
    split
    · exact ⟨fun h => absurd h (by decide), fun h' => absurd h' h⟩
    · exact ⟨fun h => absurd h (by decide), fun h' => absurd h' h⟩
theorem cmpV_gt {a b : Int × Int} : 0 < cmpV a b ↔ b.1 * a.2 < a.1 * b.2 := by
  unfold cmpV
  split
  · rename_i h; exact ⟨fun h => absurd h (by decide), fun h' => by omega⟩
  · split
    · rename_i h; exact ⟨fun _ => h, fun _ => by decide⟩
    · rename_i h; exact ⟨fun h => absurd h (by decide), fun h' => absurd h' h⟩
def keepB (l : List Bk) (k : Nat) : List Int := (l.take k).map (·.w) ++ List.replicate (l.length - k) 0
theorem keepB_get {l : List Bk} {k i : Nat} {b : Bk} (hk : k ≤ l.length) (hb : l[i]? = some b) : (keepB l k)[i]? = some (if i < k then b.w else 0) := by
  have hi := (List.getElem?_eq_some_iff.1 hb).1
  unfold keepB
  split
  · rename_i h
    rw [List.getElem?_append_left (by simp; omega), List.getElem?_map, List.getElem?_take, if_pos h, hb]
    rfl
  · rename_i h
    rw [List.getElem?_append_right (by simp; omega), List.getElem?_replicate, if_pos (by simp; omega)]
def SumI (s : Sy) (i k : Nat) (c : Int × Int) : Prop := ∃ (Z : Nat → Int) (D : Int), D ≠ 0 ∧ SolQ (matS s) (keepB s.bs k) Z D ∧ Val c (Z i) D
theorem SumI.zero (s : Sy) (i : Nat) : SumI s i 0 (0, 1) := by
  refine ⟨fun _ => 0, 1, by decide, fun j r b _ hb => ?_, Val.one (by decide)⟩
  have : b = 0 := by
    have hm := List.mem_of_getElem? hb
    simp only [keepB, List.take_zero, List.map_nil, List.nil_append] at hm
    exact (List.mem_replicate.1 hm).2
  subst this
  simp [sumN_zero]
theorem SumI.next {s : Sy} (hv : validS s = true) {i k : Nat} (ei : hix s = (i : Int)) {c : Int × Int} (h : SumI s i k c) {b : Bk} (hb : s.bs[k]? = some b) {Y : Nat → Int} {E : Int} (hE : E ≠ 0) (hY : SolQ (matS (unitS s b.nm)) (wtsS (unitS s b.nm)) Y E) {d : Int × Int} {r q : Int} (hd : Val d r q) (e : b.w * Y i * q = r * E) (ha : (addR c d).2 = 0) : SumI s i (k + 1) (addR c d).1 := by
  obtain ⟨Z, D, hD, hZ, hV⟩ := h
  have ok := validS_ok hv
  have em : matS (unitS s b.nm) = matS s := matS_names rfl (unit_names s b.nm)
  rw [em] at hY
  have hk := (List.getElem?_eq_some_iff.1 hb).1
  refine ⟨fun j => Z j * E + (Y j * b.w) * D, D * E, Int.mul_ne_zero hD hE, fun j row x hj hx => ?_, (hV.add hd ha).to (Int.mul_ne_zero hD hE) ?_⟩
  · have hjl : j < s.bs.length := by
      have := (List.getElem?_eq_some_iff.1 hj).1
      rw [ok.mat_len] at this
      exact this
    obtain ⟨g, hg⟩ : ∃ y, s.bs[j]? = some y := ⟨_, List.getElem?_eq_getElem hjl⟩
    rw [keepB_get (by omega) hg, Option.some.injEq] at hx
    have h1 := hZ j row _ hj (keepB_get (by omega) hg)
    have hu : (wtsS (unitS s b.nm))[j]? = some (if k = j then 1 else 0) := by
      have := at_unit ok hb rfl hjl
      rw [← this]
      unfold Lin.at_
      rw [List.getElem?_eq_getElem (show j < (wtsS (unitS s b.nm)).length by simp [wtsS, unitS]; exact hjl)]
      rfl
    have h2 := hY j row _ hj hu
    rw [sum_two, h1]
    have e3 : sumN (fun n => Lin.at_ row n * (Y n * b.w)) (wid (matS s)) = b.w * sumN (fun n => Lin.at_ row n * Y n) (wid (matS s)) := by
      rw [← sumN_mul]
      exact sumN_congr _ fun n _ => by ac_rfl
    rw [e3, h2, ← hx]
    by_cases hjk : k = j
    · subst hjk
      rw [hb, Option.some.injEq] at hg
      subst hg
      rw [if_pos rfl, if_neg (by omega), if_pos (by omega)]
      grind
    · rw [if_neg hjk]
      by_cases hlt : j < k
      · rw [if_pos hlt, if_pos (by omega)]
        grind
      · rw [if_neg hlt, if_neg (by omega)]
        grind
  · grind
theorem SumI.same {s : Sy} (hv : validS s = true) {i k : Nat} (ei : hix s = (i : Int)) {c : Int × Int} (h : SumI s i k c) {b : Bk} (hb : s.bs[k]? = some b) {Y : Nat → Int} {E : Int} (hE : E ≠ 0) (hY : SolQ (matS (unitS s b.nm)) (wtsS (unitS s b.nm)) Y E) (e : Y i = 0) : SumI s i (k + 1) c := by
  have h0 : Val ((0, 1) : Int × Int) 0 1 := Val.one (by decide)
  obtain ⟨Z, D, hD, hZ, hV⟩ := h
  have hs : addR c (0, 1) = (c, 0) := addR_is hV h0 (by simpa using hV)
  have := SumI.next hv ei ⟨Z, D, hD, hZ, hV⟩ hb hE hY h0 (by rw [e]; simp) (by rw [hs])
  rw [hs] at this
  exact this
end Go.Proofs.YtpcakodemleoiaaGreat.T

namespace Go.Proofs.YtpcakodemleoiaaGreat.T
open Go Go.RowKit Lin
structure FB (f : Int × Int) (A : Nat) : Prop where
  v : vfrac f.1 f.2 = true
  n1 : 1 ≤ f.1
  nA : f.1 ≤ A
  dA : f.2 ≤ A
theorem FB.d1 {f : Int × Int} {A : Nat} (h : FB f A) : 1 ≤ f.2 := (fr_bounds h.v).1
theorem made_small {a d B : Nat} (ha : 0 < a) (hd : 0 < d) (hA : a ≤ B) (hB : d ≤ B) (h : B ≤ 1152921504606846976) : (madeP a false d).2 = 0 ∧ FB (madeP a false d).1 B := by
  have hg : 0 < Nat.gcd a d := Nat.gcd_pos_of_pos_right _ hd
  have e : madeP a false d = signP false (a / Nat.gcd a d) (d / Nat.gcd a d) := by unfold madeP; rw [if_neg (by omega)]
  have h1 : 1 ≤ a / Nat.gcd a d := Nat.div_pos (Nat.le_of_dvd ha (Nat.gcd_dvd_left a d)) hg
  have h2 : 1 ≤ d / Nat.gcd a d := Nat.div_pos (Nat.le_of_dvd hd (Nat.gcd_dvd_right a d)) hg
  have h3 := Nat.div_le_self a (Nat.gcd a d)
  have h4 := Nat.div_le_self d (Nat.gcd a d)
  have z : (madeP a false d).2 = 0 := by
    rw [e]
    unfold signP
    rw [if_neg (by omega)]
  have hv := madeP_valid hd z
  refine ⟨z, hv, ?_, ?_, ?_⟩
  all_goals
    rw [e]
    unfold signP
    rw [if_neg (by omega)]
    simp only [Bool.false_eq_true, if_false]
    omega
theorem FB.mul {f l : Int × Int} {A : Nat} (h : FB f A) (hl : FB l 100) (hA : A * 100 ≤ 1152921504606846976) : (mulR f l).2 = 0 ∧ FB (mulR f l).1 (A * 100) := by
  have a1 := h.n1
  have a2 := h.d1
  have b1 := hl.n1
  have b2 := hl.d1
  have a3 := h.nA
  have a4 := h.dA
  have b3 := hl.nA
  have b4 := hl.dA
  have e : mulR f l = madeP (f.1.natAbs * l.1.natAbs) false (f.2.natAbs * l.2.natAbs) := by
    unfold mulR
    rw [decide_eq_false (show ¬ f.1 < 0 by omega), decide_eq_false (show ¬ l.1 < 0 by omega)]
    rfl
  rw [e]
  exact made_small (Nat.mul_pos (by omega) (by omega)) (Nat.mul_pos (by omega) (by omega)) (Nat.mul_le_mul (by omega) (by omega)) (Nat.mul_le_mul (by omega) (by omega)) hA
theorem FB.recip {l : Int × Int} {A : Nat} (h : FB l A) : FB (T.recip l) A := by
  have a1 := h.n1
  have e : T.recip l = (l.2, l.1) := by unfold T.recip; rw [if_neg (by omega)]
  have hv := recip_ok h.v (by omega)
  rw [e] at hv ⊢
  exact ⟨hv, h.d1, h.dA, h.nA⟩
theorem FB.div {f l : Int × Int} {A : Nat} (h : FB f A) (hl : FB l 100) (hA : A * 100 ≤ 1152921504606846976) : (divR f l).2 = 0 ∧ FB (divR f l).1 (A * 100) := by
  rw [div_recip hl.v]
  exact h.mul hl.recip hA
theorem lossy_fb {n d : Int} (h : lossy n d = true) : FB (n, d) 100 := by
  unfold lossy at h
  simp only [Bool.and_eq_true, decide_eq_true_eq] at h
  have := (fr_bounds h.1.1).1
  exact ⟨h.1.1, by show 1 ≤ n; omega, by show n ≤ ((100 : Nat) : Int); omega, by show d ≤ ((100 : Nat) : Int); omega⟩
def lossAt (hs : List Hd) (i : Nat) : Int × Int := match hs[i]? with
  | some h => (h.n, h.d)
  | none => (1, 1)
def stepF (up : Bool) (f l : Int × Int) : Int × Int := if up = true then (mulR f l).1 else (divR f l).1
def facK (hs : List Hd) (up : Bool) : Nat → Int × Int
  | 0 => (1, 1)
  | k + 1 => stepF up (facK hs up k) (lossAt hs (k + 1))
def okLoss (e : Bool) (h : Hd) : Bool := lossy h.n h.d && (!e || (h.n == 1 && h.d == 1))
def rightR (r : Rp) : Bool := decide (2 ≤ r.hs.length ∧ r.hs.length ≤ 10) && (List.range r.hs.length).all fun i => match r.hs[i]? with | some h => okLoss (endH r.hs.length i) h | none => true
def facL (r : Rp) (up : Bool) (k : Nat) : List (Int × Int) := (List.range k).map (facK r.hs up)
theorem facL_len (r : Rp) (up : Bool) (k : Nat) : (facL r up k).length = k := by simp [facL]
theorem facL_push (r : Rp) (up : Bool) (k : Nat) : facL r up (k + 1) = facL r up k ++ [facK r.hs up k] := by simp [facL, List.range_succ]
theorem facL_at (r : Rp) (up : Bool) {k i : Nat} (h : i < k) : (facL r up k)[i]? = some (facK r.hs up i) := by simp [facL, h]
def alongP (r : Rp) (up : Bool) : List (Int × Int) × Int := if rightR r = true then (facL r up (r.hs.length - 1), 0) else ([], 1)
theorem rightR_len {r : Rp} (h : rightR r = true) : 2 ≤ r.hs.length ∧ r.hs.length ≤ 10 := by
  unfold rightR at h
  rw [Bool.and_eq_true, decide_eq_true_eq] at h
  exact h.1
theorem rightR_at {r : Rp} (h : rightR r = true) {i : Nat} {x : Hd} (hx : r.hs[i]? = some x) : okLoss (endH r.hs.length i) x = true := by
  unfold rightR at h
  rw [Bool.and_eq_true, List.all_eq_true] at h
  have := h.2 i (List.mem_range.2 (List.getElem?_eq_some_iff.1 hx).1)
  rw [hx] at this
  exact this
theorem rightR_of {r : Rp} (h1 : 2 ≤ r.hs.length ∧ r.hs.length ≤ 10) (h2 : ∀ i x, r.hs[i]? = some x → okLoss (endH r.hs.length i) x = true) : rightR r = true := by
  unfold rightR
  rw [Bool.and_eq_true, List.all_eq_true, decide_eq_true_eq]
  refine ⟨h1, fun i hi => ?_⟩
  obtain ⟨x, hx⟩ : ∃ y, r.hs[i]? = some y := ⟨_, List.getElem?_eq_getElem (List.mem_range.1 hi)⟩
  rw [hx]
  exact h2 i _ hx
theorem rightR_not {r : Rp} {i : Nat} {x : Hd} (hx : r.hs[i]? = some x) (h : okLoss (endH r.hs.length i) x = false) : rightR r = false := by
  cases hr : rightR r
  · rfl
  · rw [rightR_at hr hx] at h; cases h
theorem okLoss_lossy {e : Bool} {h : Hd} (k : okLoss e h = true) : lossy h.n h.d = true := by
  unfold okLoss at k
  rw [Bool.and_eq_true] at k
  exact k.1
theorem facK_fb {hs : List Hd} {up : Bool} : ∀ (k : Nat), k ≤ 8 → (∀ i x, 1 ≤ i → i ≤ k → hs[i]? = some x → lossy x.n x.d = true) → FB (facK hs up k) (100 ^ k)
  | 0, _, _ => show FB (1, 1) 1 from ⟨by decide, by decide, by decide, by decide⟩
  | k + 1, hk, h => by
    have ih := facK_fb (up := up) k (by omega) fun i x h1 h2 => h i x h1 (by omega)
    have hl : FB (lossAt hs (k + 1)) 100 := by
      unfold lossAt
      split
      · rename_i x hx
        exact lossy_fb (h (k + 1) x (by omega) (Nat.le_refl _) hx)
      · exact ⟨by decide, by decide, by decide, by decide⟩
    have hp : 100 ^ k * 100 ≤ 1152921504606846976 := by
      have : 100 ^ k ≤ 100 ^ 7 := Nat.pow_le_pow_right (by decide) (by omega)
      omega
    rw [Nat.pow_succ]
    simp only [facK, stepF]
    split
    · exact (ih.mul hl hp).2
    · exact (ih.div hl hp).2
theorem facK_next {hs : List Hd} {up : Bool} {k : Nat} (hk : k ≤ 7) (h : ∀ i x, 1 ≤ i → i ≤ k → hs[i]? = some x → lossy x.n x.d = true) {x : Hd} (hx : hs[k + 1]? = some x) (hl : lossy x.n x.d = true) : mulR (facK hs up k) (x.n, x.d) = ((mulR (facK hs up k) (x.n, x.d)).1, 0) ∧ divR (facK hs up k) (x.n, x.d) = ((divR (facK hs up k) (x.n, x.d)).1, 0) ∧ facK hs up (k + 1) = if up = true then (mulR (facK hs up k) (x.n, x.d)).1 else (divR (facK hs up k) (x.n, x.d)).1 := by
  have ih := facK_fb (up := up) k (by omega) h
  have hp : 100 ^ k * 100 ≤ 1152921504606846976 := by
    have : 100 ^ k ≤ 100 ^ 7 := Nat.pow_le_pow_right (by decide) hk
    omega
  refine ⟨Prod.ext rfl (ih.mul (lossy_fb hl) hp).1, Prod.ext rfl (ih.div (lossy_fb hl) hp).1, ?_⟩
  simp only [facK, stepF, lossAt, hx]
def gripT (n : Nat) (F : Nat → Int × Int) (i : Nat) (h : Hd) : (Int × Int) × Int :=
  if i = 0 then mulP (h.p, 1) (F 0) else if i + 1 = n then mulP (h.p, 1) (F (n - 2)) else if (addP (F (i - 1)) (F i)).2 = 0 then mulP (h.p.tdiv 2, 1) (addP (F (i - 1)) (F i)).1 else ((0, 0), (addP (F (i - 1)) (F i)).2)
def gripA (n : Nat) (F : Nat → Int × Int) (nm : ByteArray) : List Hd → Nat → Int × Int → (Int × Int) × Int
  | [], _, c => (c, 0)
  | h :: l, i, c => if h.b = nm then (if (gripT n F i h).2 = 0 then (if (addP c (gripT n F i h).1).2 = 0 then gripA n F nm l (i + 1) (addP c (gripT n F i h).1).1 else ((0, 0), (addP c (gripT n F i h).1).2)) else ((0, 0), (gripT n F i h).2)) else gripA n F nm l (i + 1) c
def gripP (r : Rp) (up : Bool) (nm : ByteArray) : (Int × Int) × Int := gripA r.hs.length (facK r.hs up) nm r.hs 0 (0, 1)
def gripsA (r : Rp) (up : Bool) : List Bk → List (Int × Int) → List (Int × Int) × Int
  | [], acc => (acc, 0)
  | b :: l, acc => if (gripP r up b.nm).2 = 0 then gripsA r up l (acc ++ [(gripP r up b.nm).1]) else ([], (gripP r up b.nm).2)
def dotV : List (Int × Int) → List (Int × Int) → Int × Int → (Int × Int) × Int
  | a :: la, b :: lb, s => if (mulP a b).2 = 0 then (if (addP s (mulP a b).1).2 = 0 then dotV la lb (addP s (mulP a b).1).1 else ((0, 0), (addP s (mulP a b).1).2)) else ((0, 0), (mulP a b).2)
  | _, _, s => (s, 0)
theorem dotV_step {a b : List (Int × Int)} {k : Nat} {x y : Int × Int} (ha : a[k]? = some x) (hb : b[k]? = some y) (s : Int × Int) : dotV (a.drop k) (b.drop k) s = if (mulP x y).2 = 0 then (if (addP s (mulP x y).1).2 = 0 then dotV (a.drop (k + 1)) (b.drop (k + 1)) (addP s (mulP x y).1).1 else ((0, 0), (addP s (mulP x y).1).2)) else ((0, 0), (mulP x y).2) := by
  rw [List.drop_eq_getElem_cons (List.getElem?_eq_some_iff.1 ha).1, List.drop_eq_getElem_cons (List.getElem?_eq_some_iff.1 hb).1, (List.getElem?_eq_some_iff.1 ha).2, (List.getElem?_eq_some_iff.1 hb).2]
  rfl
def pairA (load grip : List (Int × Int)) : List (List (Int × Int)) → List (Int × Int) → List (Int × Int) → (List (Int × Int) × List (Int × Int)) × Int
  | [], w, p => ((w, p), 0)
  | x :: l, w, p => if (dotV x load (0, 1)).2 = 0 then (if (dotV x grip (0, 1)).2 = 0 then pairA load grip l (w ++ [(dotV x load (0, 1)).1]) (p ++ [(dotV x grip (0, 1)).1]) else (([], []), (dotV x grip (0, 1)).2)) else (([], []), (dotV x load (0, 1)).2)
def nzI (l : List (Int × Int)) : Int := idx (fun x => x.1 != 0) l 0
def balR (t : Int × Int) : List (Int × Int) → List (Int × Int) → Bool → Bool × Int
  | p :: ps, w :: ws, ok => if (mulP p t).2 = 0 then balR t ps ws (ok && decide ((mulP p t).1 = w)) else (false, (mulP p t).2)
  | _, _, ok => (ok, 0)
def balP (w p : List (Int × Int)) : (Int × Int) × Int :=
  if nzI p < 0 then ((0, 0), if nzI w < 0 then 21 else 22)
  else if (divP (w.getD (nzI p).toNat (0, 0)) (p.getD (nzI p).toNat (0, 0))).2 = 0 then
    (if (balR (divP (w.getD (nzI p).toNat (0, 0)) (p.getD (nzI p).toNat (0, 0))).1 p w true).2 = 0 then
      (if (balR (divP (w.getD (nzI p).toNat (0, 0)) (p.getD (nzI p).toNat (0, 0))).1 p w true).1 = false then ((0, 0), 22)
       else if (divP (w.getD (nzI p).toNat (0, 0)) (p.getD (nzI p).toNat (0, 0))).1.1 < 0 then ((0, 0), 13)
       else ((divP (w.getD (nzI p).toNat (0, 0)) (p.getD (nzI p).toNat (0, 0))).1, 0))
     else ((0, 0), (balR (divP (w.getD (nzI p).toNat (0, 0)) (p.getD (nzI p).toNat (0, 0))).1 p w true).2))
  else ((0, 0), (divP (w.getD (nzI p).toNat (0, 0)) (p.getD (nzI p).toNat (0, 0))).2)
def lossR (r : Rp) : Bool := r.hs.any fun h => !(h.n == 1 && h.d == 1)
def givL (s : Sy) : Int := if validS s = true then (if hix s < 0 then 12 else if (s.rs.any fun r => !r.hl && lossR r) = true then 11 else 0) else 1
end Go.Proofs.YtpcakodemleoiaaGreat.T

