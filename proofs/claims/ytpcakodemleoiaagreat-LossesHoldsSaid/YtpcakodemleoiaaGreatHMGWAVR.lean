import Derived.Test.YtpcakodemleoiaaGreatHSNQMGI
set_option linter.all false
section
namespace Go.Proofs.YtpcakodemleoiaaGreat.T
open Go Go.RowKit Lin
theorem at_wts {s : Sy} {i : Nat} {b : Bk} (h : s.bs[i]? = some b) : Lin.at_ (wtsS s) i = b.w := by simp [Lin.at_, wtsS, h]
end Go.Proofs.YtpcakodemleoiaaGreat.T
end

section
namespace Go.Proofs.YtpcakodemleoiaaGreat.T
open Go Go.RowKit Lin
end Go.Proofs.YtpcakodemleoiaaGreat.T
end
section
namespace Go.Proofs.YtpcakodemleoiaaGreat.T
open Go Go.RowKit Lin
structure VS (s : Sy) : Prop where
 b : 1 ≤ s.bs.length ∧ s.bs.length ≤ 6
 r : 1 ≤ s.rs.length ∧ s.rs.length ≤ 6
 nd : (Y0k s.bs ++ Y24 s.rs).Nodup
 bk : ∀ b ∈ s.bs, isNm b.nm = true ∧ 0 ≤ b.w ∧ b.w ≤ 16777216
 rp : ∀ r ∈ s.rs, isNm r.nm = true ∧ Y1f s.bs r = true
 h : hauls s.rs ≤ 1
theorem Yh8 (l : List Bk) : (Y0k l).length = l.length := by simp [Y0k]
theorem okHold_names {bs bs' : List Bk} (h : ∀ nm, (Y0k bs).contains nm = (Y0k bs').contains nm) (x : Hd) (e : Bool) : Y0l bs x e = Y0l bs' x e := by
 unfold Y0l
 rw [Yau, Yau, h]
theorem okHolds_names {bs bs' : List Bk} (h : ∀ nm, (Y0k bs).contains nm = (Y0k bs').contains nm) (l : List Hd) : Y2i bs l = Y2i bs' l := by
 unfold Y2i
 congr 1
 funext i
 cases l[i]? with
 | none => rfl
 | some x => exact okHold_names h x _
theorem okRope_names {bs bs' : List Bk} (h : ∀ nm, (Y0k bs).contains nm = (Y0k bs').contains nm) (r : Rp) : Y1f bs r = Y1f bs' r := by
 unfold Y1f
 rw [okHolds_names h]
theorem VS.weights {s t : Sy} (h : VS s) (hr : t.rs = s.rs) (hn : Y0k t.bs = Y0k s.bs) (hw : ∀ b ∈ t.bs, 0 ≤ b.w ∧ b.w ≤ 16777216) : VS t := by
 have hl : t.bs.length = s.bs.length := by rw [← Yh8, ← Yh8, hn]
 refine ⟨by rw [hl]; exact h.b, by rw [hr]; exact h.r, by rw [hr, hn]; exact h.nd, fun b hb => ⟨?_, hw b hb⟩, fun r hr' => ?_, by rw [hr]; exact h.h⟩
 ·have : b.nm ∈ Y0k s.bs := by rw [← hn]; exact List.mem_map.2 ⟨b, hb, rfl⟩
  obtain ⟨c, hc, e⟩ := List.mem_map.1 this
  rw [← e]
  exact (h.bk c hc).1
 ·rw [hr] at hr'
  rw [okRope_names (bs' := s.bs) (fun nm => by rw [hn])]
  exact h.rp r hr'
theorem matS_names {s t : Sy} (hr : t.rs = s.rs) (hn : Y0k t.bs = Y0k s.bs) : matS t = matS s := by
 have e : ∀ u : Sy, matS u = (Y0k u.bs).map fun nm => u.rs.map fun r => pull nm r.hs := fun u => by unfold matS Y0k; rw [List.map_map]; rfl
 rw [e, e, hn, hr]
theorem okHolds_iff {bs : List Bk} {hs : List Hd} : Y2i bs hs = true ↔ ∀ (i : Nat) (h : Hd), hs[i]? = some h → Y0l bs h (endH hs.length i) = true := by
 unfold Y2i
 rw [List.all_eq_true]
 constructor
 ·intro h i x hi
  have := h i (List.mem_range.2 (List.getElem?_eq_some_iff.1 hi).1)
  rw [hi] at this
  exact this
 ·intro h i hi
  rw [List.mem_range] at hi
  rw [List.getElem?_eq_getElem hi]
  exact h i _ (List.getElem?_eq_getElem hi)
end Go.Proofs.YtpcakodemleoiaaGreat.T
end
section
namespace Go.Proofs.YtpcakodemleoiaaGreat.T
open Go Go.RowKit Lin
section
variable {m : List (List Int)} {right other : List Int}
theorem SolQ.add {Z Y : Nat → Int} {D E : Int} (h : SolQ m right Z D) (k : SolQ m other Y E) : SolQ m (zipA right other) (fun j => Z j * E + Y j * D) (D * E) := fun i r b hi hb => by
 obtain ⟨p, q, hp, hq, rfl⟩ := zip_get hb
 rw [Ycn (Lin.at_ r) Z Y E D, h i r p hi hp, k i r q hi hq, Int.mul_add]
 ac_rfl
theorem SolQ.less (hl : other.length = right.length) {Z Y : Nat → Int} {D E : Int} (h : SolQ m right Z D) (k : SolQ m (zipA right other) Y E) : SolQ m other (fun j => Y j * D + Z j * (-E)) (D * E) := fun i r b hi hb => by
 have hil := (List.getElem?_eq_some_iff.1 hb).1
 obtain ⟨p, hp⟩ : ∃ p, right[i]? = some p := ⟨_, List.getElem?_eq_getElem (by omega)⟩
 have hz : (zipA right other)[i]? = some (p + b) := by
  unfold zipA
  rw [List.getElem?_zipWith, hp, hb]
 rw [Ycn (Lin.at_ r) Y Z D (-E), h i r p hi hp, k i r _ hi hz]
 grind
variable (hv : Y12 m = true) (hr : right.length = m.length) (ho : other.length = m.length) (hw : Y0w right 67108864 = true) (hwo : Y0w other 67108864 = true) (hws : Y0w (zipA right other) 67108864 = true)
include hv hr ho hw hwo hws
end
end Go.Proofs.YtpcakodemleoiaaGreat.T
end

namespace Go.Proofs.YtpcakodemleoiaaGreat.T
open Go Go.RowKit Lin
theorem sg_abs (s : Bool) (n : Nat) : (sg s (n : Int)).natAbs = n := by unfold sg; cases s <;> simp
theorem made_is {x : Int × Int} (hx : vfrac x.1 x.2 = true) {a d : Nat} {s : Bool} (hd : 0 < d) (h : x.1 * (d : Int) = sg s a * x.2) : madeP a s d = (x, 0) := by
 obtain ⟨b1, b2, b3, b4, b5⟩ := Y09 hx
 have hn : x.1.natAbs * d = a * x.2.natAbs := by
  have := congrArg Int.natAbs h
  rwa [Int.natAbs_mul, Int.natAbs_mul, Int.natAbs_natCast, sg_abs] at this
 rw [Yao (p := x.1.natAbs) (q := x.2.natAbs) (by omega) hd b5 hn]
 unfold signP
 rw [if_neg (by omega)]
 have hd' : (0 : Int) < d := by omega
 have e2 : ((x.2.natAbs : Nat) : Int) = x.2 := Int.natAbs_of_nonneg (by omega)
 have hp := Int.mul_nonneg (Int.natCast_nonneg a) (show (0 : Int) ≤ x.2 by omega)
 have e1 : (if s = true then -((x.1.natAbs : Nat) : Int) else (x.1.natAbs : Int)) = x.1 := by
  cases s
  ·have h0 : 0 ≤ x.1 := by
    rcases Int.lt_or_le x.1 0 with hl | hl
    ·have := Int.mul_neg_of_neg_of_pos hl hd'
     simp only [sg, Bool.false_eq_true, if_false] at h
     omega
    ·exact hl
   simp only [Bool.false_eq_true, if_false]
   omega
  ·have h0 : x.1 ≤ 0 := by
    rcases Int.lt_or_le 0 x.1 with hl | hl
    ·have := Int.mul_pos hl hd'
     simp only [sg, if_true, Int.neg_mul] at h
     omega
    ·exact hl
   simp only [if_true]
   omega
 rw [e1, e2]
theorem Y43 {a d : Nat} {b : Bool} (h : (madeP a b d).2 ≠ 0) : (madeP a b d).1 = (0, 0) := by
 unfold madeP signP at h ⊢
 split
 ·rfl
 ·rename_i h1
  rw [if_neg h1] at h
  split
  ·rfl
  ·rename_i h2
   rw [if_neg h2] at h
   exact absurd rfl h
theorem den_mul {a b : Int × Int} (ha : vfrac a.1 a.2 = true) (hb : vfrac b.1 b.2 = true) : 0 < a.2.natAbs * b.2.natAbs ∧ ((a.2.natAbs * b.2.natAbs : Nat) : Int) = a.2 * b.2 := by
 have h1 := (Y09 ha).1
 have h2 := (Y09 hb).1
 exact ⟨Nat.mul_pos (by omega) (by omega), by rw [Int.natCast_mul, Int.natAbs_of_nonneg (by omega), Int.natAbs_of_nonneg (by omega)]⟩
theorem addR_made {a b : Int × Int} (ha : vfrac a.1 a.2 = true) (hb : vfrac b.1 b.2 = true) : ∃ (s : Bool) (z : Nat), addR a b = madeP z s (a.2.natAbs * b.2.natAbs) ∧ sg s (z : Int) = a.1 * b.2 + b.1 * a.2 := by
 obtain ⟨a1, _⟩ := Y09 ha
 obtain ⟨b1, _⟩ := Y09 hb
 have x1 : ((a.1.natAbs * b.2.natAbs : Nat) : Int) = (a.1.natAbs : Int) * b.2 := by rw [Int.natCast_mul, Int.natAbs_of_nonneg (by omega : 0 ≤ b.2)]
 have y1 : ((b.1.natAbs * a.2.natAbs : Nat) : Int) = (b.1.natAbs : Int) * a.2 := by rw [Int.natCast_mul, Int.natAbs_of_nonneg (by omega : 0 ≤ a.2)]
 have sa := Ycj a.1
 have sb := Ycj b.1
 by_cases h1 : decide (a.1 < 0) = decide (b.1 < 0)
 ·refine ⟨decide (a.1 < 0), a.1.natAbs * b.2.natAbs + b.1.natAbs * a.2.natAbs, by unfold addR; rw [if_pos h1], ?_⟩
  rw [Int.natCast_add, x1, y1]
  rw [← h1] at sb
  conv => rhs; rw [sa, sb]
  unfold sg
  cases decide (a.1 < 0)
  ·simp
  ·simp [Int.neg_mul, Int.neg_add]
 ·by_cases h2 : a.1.natAbs * b.2.natAbs < b.1.natAbs * a.2.natAbs
  ·refine ⟨decide (b.1 < 0), b.1.natAbs * a.2.natAbs - a.1.natAbs * b.2.natAbs, by unfold addR; rw [if_neg h1, if_pos h2], ?_⟩
   rw [Int.natCast_sub (by omega), x1, y1]
   conv => rhs; rw [sa, sb]
   rw [Y3u, Y3u]
   clear sa sb x1 y1
   generalize (a.1.natAbs : Int) * b.2 = P
   generalize (b.1.natAbs : Int) * a.2 = R
   exact Yf2 h1 P R
  ·refine ⟨decide (a.1 < 0), a.1.natAbs * b.2.natAbs - b.1.natAbs * a.2.natAbs, by unfold addR; rw [if_neg h1, if_neg h2], ?_⟩
   rw [Int.natCast_sub (by omega), x1, y1]
   conv => rhs; rw [sa, sb]
   rw [Y3u, Y3u]
   clear sa sb x1 y1
   generalize (a.1.natAbs : Int) * b.2 = P
   generalize (b.1.natAbs : Int) * a.2 = R
   exact Ydf h1 P R
theorem addR_is {a b x : Int × Int} {p q r s : Int} (ha : Val a p q) (hb : Val b r s) (hx : Val x (p * s + r * q) (q * s)) : addR a b = (x, 0) := by
 obtain ⟨hp, e1⟩ := den_mul ha.v hb.v
 obtain ⟨sn, z, e, hz⟩ := addR_made ha.v hb.v
 rw [e]
 refine made_is hx.v hp ?_
 rw [e1, hz]
 refine Y3g (c := q * s) (Int.mul_ne_zero ha.n0 hb.n0) ?_
 have h1 := ha.e
 have h2 := hb.e
 have h3 := hx.e
 calc x.1 * (a.2 * b.2) * (q * s) = x.1 * (q * s) * (a.2 * b.2) := by ac_rfl
  _ = (p * s + r * q) * x.2 * (a.2 * b.2) := by rw [h3]
  _ = ((p * a.2) * (s * b.2) + (r * b.2) * (q * a.2)) * x.2 := by grind
  _ = ((a.1 * q) * (s * b.2) + (b.1 * s) * (q * a.2)) * x.2 := by rw [h1, h2]
  _ = (a.1 * b.2 + b.1 * a.2) * x.2 * (q * s) := by grind
theorem Val.num {b : Int × Int} {r s : Int} (k : Val b r s) : b.1 = 0 ↔ r = 0 := by
 have h := k.e
 constructor
 ·intro e
  rw [e, Int.zero_mul] at h
  exact (Int.mul_eq_zero.1 h.symm).resolve_right k.d
 ·intro e
  rw [e, Int.zero_mul] at h
  exact (Int.mul_eq_zero.1 h).resolve_right k.n0
theorem Val.recip {b : Int × Int} {r s : Int} (k : Val b r s) (h0 : r ≠ 0) : Val (recip b) s r := by
 refine ⟨Y5i k.v fun e => h0 (k.num.1 e), h0, ?_⟩
 have he := k.e
 unfold T.recip
 split
 ·simp only [Int.neg_mul, Int.mul_neg]
  rw [Int.mul_comm b.2, Int.mul_comm s, he]
 ·simp only
  rw [Int.mul_comm b.2, Int.mul_comm s, he]
theorem divR_nil {a b : Int × Int} (h : (divR a b).2 ≠ 0) : (divR a b).1 = (0, 0) := Y43 h
theorem Yam {a b : Int × Int} (h : (mulR a b).2 ≠ 0) : (mulR a b).1 = (0, 0) := Y43 h
theorem Y8i {a b : Int × Int} (ha : vfrac a.1 a.2 = true) (hb : vfrac b.1 b.2 = true) : divP a b = divR a b := by unfold divP; rw [if_pos ⟨ha, hb⟩]
theorem divP_nil {a b : Int × Int} (h : (divP a b).2 ≠ 0) : (divP a b).1 = (0, 0) := by
 unfold divP at h ⊢
 split
 ·rename_i h1
  rw [if_pos h1] at h
  exact divR_nil h
 ·rfl
theorem Yay {a b : Int × Int} (h : (divP a b).2 = 0) : vfrac a.1 a.2 = true ∧ vfrac b.1 b.2 = true ∧ b.1 ≠ 0 ∧ divP a b = divR a b := by
 unfold divP at h
 split at h
 ·rename_i h1
  refine ⟨h1.1, h1.2, fun e => ?_, Y8i h1.1 h1.2⟩
  rw [Y74 e] at h
  simp at h
 ·simp at h
def unitB (nm : ByteArray) (b : Bk) : Bk := ⟨b.nm, if b.nm = nm then 1 else 0⟩
def unitS (s : Sy) (nm : ByteArray) : Sy := ⟨s.bs.map (unitB nm), s.rs⟩
theorem unit_names (s : Sy) (nm : ByteArray) : Y0k (unitS s nm).bs = Y0k s.bs := by simp [Y0k, unitS, unitB]
theorem at_unit {s : Sy} (ok : OkS s) {nm : ByteArray} {j : Nat} {b : Bk} (hb : s.bs[j]? = some b) (hn : b.nm = nm) {k : Nat} (hk : k < s.bs.length) : Lin.at_ (wtsS (unitS s nm)) k = if j = k then 1 else 0 := by
 have hc : s.bs[k]? = some s.bs[k] := List.getElem?_eq_getElem hk
 have : (unitS s nm).bs[k]? = some (unitB nm s.bs[k]) := by simp [unitS, hc]
 rw [at_wts this]
 by_cases e : j = k
 ·subst e
  rw [hb, Option.some.injEq] at hc
  rw [if_pos rfl]
  simp only [unitB]
  rw [← hc, if_pos hn]
 ·rw [if_neg e]
  simp only [unitB]
  rw [if_neg]
  intro h
  exact e (ok.inj j k b s.bs[k] hb hc (by rw [hn, h]))
end Go.Proofs.YtpcakodemleoiaaGreat.T

section
namespace Go.Proofs.YtpcakodemleoiaaGreat.T
open Go Go.RowKit Lin
theorem SolQ.mul {m : List (List Int)} {right : List Int} {Z : Nat → Int} {D n : Int} (h : SolQ m right Z D) : SolQ m (right.map (· * n)) (fun k => Z k * n) D := fun i r b hi hb => by
 rw [List.getElem?_map] at hb
 cases hq : right[i]? with
 | none => rw [hq] at hb; simp at hb
 | some q =>
  rw [hq] at hb
  simp only [Option.map_some, Option.some.injEq] at hb
  subst hb
  have := h i r q hi hq
  have e : sumN (fun k => Lin.at_ r k * (Z k * n)) (wid m) = n * sumN (fun k => Lin.at_ r k * Z k) (wid m) := by
   rw [← Y2y]
   exact Y15 _ fun k _ => by ac_rfl
  show sumN (fun k => Lin.at_ r k * (Z k * n)) (wid m) = D * (q * n)
  rw [e, this]
  ac_rfl
end Go.Proofs.YtpcakodemleoiaaGreat.T
end

namespace Go.Proofs.YtpcakodemleoiaaGreat.T
open Go Go.RowKit Lin
def Y6p (h : Hd) : Hd := ⟨h.b, h.p, 1, 1⟩
def Y3f (r : Rp) : Rp := ⟨r.nm, r.hs.map Y6p, r.hl⟩
def Y3q (s : Sy) : Sy := ⟨s.bs, s.rs.map Y3f⟩
end Go.Proofs.YtpcakodemleoiaaGreat.T

namespace Go.Proofs.YtpcakodemleoiaaGreat.T
open Go Go.RowKit Lin
def cmpV (a b : Int × Int) : Int := if a.1 * b.2 < b.1 * a.2 then -1 else if b.1 * a.2 < a.1 * b.2 then 1 else 0
def cmpP (a b : Int × Int) : Int × Int := if vfrac a.1 a.2 = true ∧ vfrac b.1 b.2 = true then (cmpV a b, 0) else (0, 1)
theorem Yb0 {a b : Int × Int} (ha : vfrac a.1 a.2 = true) (hb : vfrac b.1 b.2 = true) : cmpP a b = (cmpV a b, 0) := by unfold cmpP; rw [if_pos ⟨ha, hb⟩]
theorem cmpV_lt {a b : Int × Int} : cmpV a b < 0 ↔ a.1 * b.2 < b.1 * a.2 := by
 unfold cmpV
 split
 ·rename_i h; exact ⟨fun _ => h, fun _ => by decide⟩
 ·rename_i h
  split
  ·exact ⟨fun h => absurd h (by decide), fun h' => absurd h' h⟩
  ·exact ⟨fun h => absurd h (by decide), fun h' => absurd h' h⟩
theorem cmpV_gt {a b : Int × Int} : 0 < cmpV a b ↔ b.1 * a.2 < a.1 * b.2 := by
 unfold cmpV
 split
 ·rename_i h; exact ⟨fun h => absurd h (by decide), fun h' => by omega⟩
 ·split
  ·rename_i h; exact ⟨fun _ => h, fun _ => by decide⟩
  ·rename_i h; exact ⟨fun h => absurd h (by decide), fun h' => absurd h' h⟩
def keepB (l : List Bk) (k : Nat) : List Int := (l.take k).map (·.w) ++ List.replicate (l.length - k) 0
theorem Yc1 {l : List Bk} {k i : Nat} {b : Bk} (hk : k ≤ l.length) (hb : l[i]? = some b) : (keepB l k)[i]? = some (if i < k then b.w else 0) := by
 have hi := (List.getElem?_eq_some_iff.1 hb).1
 unfold keepB
 split
 ·rename_i h
  rw [List.getElem?_append_left (by simp; omega), List.getElem?_map, List.getElem?_take, if_pos h, hb]
  rfl
 ·rename_i h
  rw [List.getElem?_append_right (by simp; omega), List.getElem?_replicate, if_pos (by simp; omega)]
def SumI (s : Sy) (i k : Nat) (c : Int × Int) : Prop := ∃ (Z : Nat → Int) (D : Int), D ≠ 0 ∧ SolQ (matS s) (keepB s.bs k) Z D ∧ Val c (Z i) D
theorem SumI.zero (s : Sy) (i : Nat) : SumI s i 0 (0, 1) := by
 refine ⟨fun _ => 0, 1, by decide, fun j r b _ hb => ?_, Val.one (by decide)⟩
 have : b = 0 := by
  have hm := List.mem_of_getElem? hb
  simp only [keepB, List.take_zero, List.map_nil, List.nil_append] at hm
  exact (List.mem_replicate.1 hm).2
 subst this
 simp [Y39]
theorem SumI.next {s : Sy} (hv : Y0f s = true) {i k : Nat} (ei : hix s = (i : Int)) {c : Int × Int} (h : SumI s i k c) {b : Bk} (hb : s.bs[k]? = some b) {Y : Nat → Int} {E : Int} (hE : E ≠ 0) (hY : SolQ (matS (unitS s b.nm)) (wtsS (unitS s b.nm)) Y E) {d : Int × Int} {r q : Int} (hd : Val d r q) (e : b.w * Y i * q = r * E) (ha : (addR c d).2 = 0) : SumI s i (k + 1) (addR c d).1 := by
 obtain ⟨Z, D, hD, hZ, hV⟩ := h
 have ok := Y1b hv
 have em : matS (unitS s b.nm) = matS s := matS_names rfl (unit_names s b.nm)
 rw [em] at hY
 have hk := (List.getElem?_eq_some_iff.1 hb).1
 refine ⟨fun j => Z j * E + (Y j * b.w) * D, D * E, Int.mul_ne_zero hD hE, fun j row x hj hx => ?_, (hV.add hd ha).to (Int.mul_ne_zero hD hE) ?_⟩
 ·have hjl : j < s.bs.length := by
   have := (List.getElem?_eq_some_iff.1 hj).1
   rw [ok.mat_len] at this
   exact this
  obtain ⟨g, hg⟩ : ∃ y, s.bs[j]? = some y := ⟨_, List.getElem?_eq_getElem hjl⟩
  rw [Yc1 (by omega) hg, Option.some.injEq] at hx
  have h1 := hZ j row _ hj (Yc1 (by omega) hg)
  have hu : (wtsS (unitS s b.nm))[j]? = some (if k = j then 1 else 0) := by
   have := at_unit ok hb rfl hjl
   rw [← this]
   unfold Lin.at_
   rw [List.getElem?_eq_getElem (show j < (wtsS (unitS s b.nm)).length by simp [wtsS, unitS]; exact hjl)]
   rfl
  have h2 := hY j row _ hj hu
  rw [Ycn, h1]
  have e3 : sumN (fun n => Lin.at_ row n * (Y n * b.w)) (wid (matS s)) = b.w * sumN (fun n => Lin.at_ row n * Y n) (wid (matS s)) := by
   rw [← Y2y]
   exact Y15 _ fun n _ => by ac_rfl
  rw [e3, h2, ← hx]
  by_cases hjk : k = j
  ·subst hjk
   rw [hb, Option.some.injEq] at hg
   subst hg
   rw [if_pos rfl, if_neg (by omega), if_pos (by omega)]
   grind
  ·rw [if_neg hjk]
   by_cases hlt : j < k
   ·rw [if_pos hlt, if_pos (by omega)]
    grind
   ·rw [if_neg hlt, if_neg (by omega)]
    grind
 ·grind
theorem SumI.same {s : Sy} (hv : Y0f s = true) {i k : Nat} (ei : hix s = (i : Int)) {c : Int × Int} (h : SumI s i k c) {b : Bk} (hb : s.bs[k]? = some b) {Y : Nat → Int} {E : Int} (hE : E ≠ 0) (hY : SolQ (matS (unitS s b.nm)) (wtsS (unitS s b.nm)) Y E) (e : Y i = 0) : SumI s i (k + 1) c := by
 have h0 : Val ((0, 1) : Int × Int) 0 1 := Val.one (by decide)
 obtain ⟨Z, D, hD, hZ, hV⟩ := h
 have hs : addR c (0, 1) = (c, 0) := addR_is hV h0 (by simpa using hV)
 have := SumI.next hv ei ⟨Z, D, hD, hZ, hV⟩ hb hE hY h0 (by rw [e]; simp) (by rw [hs])
 rw [hs] at this
 exact this
end Go.Proofs.YtpcakodemleoiaaGreat.T

