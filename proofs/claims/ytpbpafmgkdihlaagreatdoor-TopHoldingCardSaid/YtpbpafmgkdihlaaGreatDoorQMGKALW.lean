import Derived.Test.YtpbpafmgkdihlaaGreatDoorQVJAVP
import Derived.Test.YtpbpafmgkdihlaaGreatDoorQLSJWRJ
import Derived.Test.YtpbpafmgkdihlaaGreatDoorQWPJSNQ
import Derived.Test.YtpbpafmgkdihlaaGreatDoorQSDE
set_option linter.all false
namespace Go.Proofs.YtpbpafmgkdihlaaGreatDoor.T
open Go Go.RowKit Lin
theorem SolQ.mul {m : List (List Int)} {right : List Int} {Z : Nat → Int} {D n : Int} (h : SolQ m right Z D) : SolQ m (right.map (· * n)) (fun k => Z k * n) D := fun i r b hi hb => by
 rw [List.getElem?_map] at hb
 cases hq : right[i]? with
 | none => rw [hq] at hb; simp at hb
 | some q =>
  rw [hq] at hb
  simp only [Option.map_some, Option.some.injEq] at hb
  subst hb
  have := h i r q hi hq
  have e : sumN (fun k => Lin.at_ r k * (Z k * n)) (wid m) = n * sumN (fun k => Lin.at_ r k * Z k) (wid m) := by
   rw [← Y2b]
   exact Y0s _ fun k _ => by ac_rfl
  show sumN (fun k => Lin.at_ r k * (Z k * n)) (wid m) = D * (q * n)
  rw [e, this]
  ac_rfl
def Y2q (h : Hd) : Hd := ⟨h.b, h.p, 1, 1⟩
def Y13 (r : Rp) : Rp := ⟨r.nm, r.hs.map Y2q, r.hl⟩
def Y0j (s : Sy) : Sy := ⟨s.bs, s.rs.map Y13⟩
theorem Ypp {α β : Type} (f : α → β) (p : β → Bool) (q : α → Bool) (h : ∀ x, p (f x) = q x) : ∀ (l : List α) (n : Nat), idx p (l.map f) n = idx q l n
 | [], _ => rfl
 | x :: l, n => by simp only [List.map_cons, idx, h, Ypp f p q h l]
theorem Ybu (nm : ByteArray) : ∀ hs : List Hd, pull nm (hs.map Y2q) = pull nm hs
 | [] => rfl
 | h :: hs => by simp only [List.map_cons, pull, Ybu nm hs]; rfl
theorem Yfv {bs : List Bk} {h : Hd} {e : Bool} (hk : Y0q bs h e = true) : Y0q bs (Y2q h) e = true := by
 unfold Y0q at hk ⊢
 rw [Bool.and_eq_true] at hk ⊢
 refine ⟨?_, hk.2⟩
 cases e
 ·exact (by decide : Y3h 1 1 = true)
 ·rfl
theorem Ydk {bs : List Bk} {hs : List Hd} (hk : Y21 bs hs = true) : Y21 bs (hs.map Y2q) = true := by
 refine Y3f.2 fun i h hi => ?_
 rw [List.getElem?_map] at hi
 cases hq : hs[i]? with
 | none => rw [hq] at hi; simp at hi
 | some q =>
  rw [hq] at hi
  simp only [Option.map_some, Option.some.injEq] at hi
  subst hi
  rw [List.length_map]
  exact Yfv (Y3f.1 hk i q hq)
theorem Yfs {bs : List Bk} {r : Rp} (hk : Y1g bs r = true) : Y1g bs (Y13 r) = true := by
 unfold Y1g at hk ⊢
 rw [Bool.and_eq_true, Bool.and_eq_true] at hk ⊢
 refine ⟨⟨by simpa [Y13] using hk.1.1, Ydk hk.1.2⟩, ?_⟩
 have h3 := hk.2
 simp only [Y13, List.getLast?_map] at h3 ⊢
 cases hl : r.hs.getLast? with
 | none => rw [hl] at h3; simpa using h3
 | some h => rw [hl] at h3; simpa [Y2q] using h3
theorem Yio (rs : List Rp) : Y3v (rs.map Y13) = Y3v rs := by
 unfold Y3v
 rw [List.filter_map, List.length_map]
 rfl
theorem Yin (rs : List Rp) : Y18 (rs.map Y13) = Y18 rs := by simp [Y18, Y13]
theorem VS.clean {s : Sy} (h : VS s) : VS (Y0j s) := by
 refine ⟨h.b, by simpa [Y0j] using h.r, ?_, h.bk, fun r hr => ?_, ?_⟩
 ·show (Y0l s.bs ++ Y18 (s.rs.map Y13)).Nodup
  rw [Yin]
  exact h.nd
 ·obtain ⟨q, hq, rfl⟩ := List.mem_map.1 hr
  exact ⟨(h.rp q hq).1, Yfs (h.rp q hq).2⟩
 ·show Y3v (s.rs.map Y13) ≤ 1
  rw [Yio]
  exact h.h
theorem Ylm (s : Sy) : matS (Y0j s) = matS s := by
 unfold matS Y0j
 simp only [List.map_map]
 refine List.map_congr_left fun b _ => List.map_congr_left fun r _ => ?_
 exact Ybu b.nm r.hs
theorem Yaq (s : Sy) : hix (Y0j s) = hix s := Ypp Y13 _ _ (fun _ => rfl) s.rs 0
def cmpV (a b : Int × Int) : Int := if a.1 * b.2 < b.1 * a.2 then -1 else if b.1 * a.2 < a.1 * b.2 then 1 else 0
def cmpP (a b : Int × Int) : Int × Int := if Y09 a.1 a.2 = true ∧ Y09 b.1 b.2 = true then (cmpV a b, 0) else (0, 1)
theorem Yeg {a b : Int × Int} (ha : Y09 a.1 a.2 = true) (hb : Y09 b.1 b.2 = true) : cmpP a b = (cmpV a b, 0) := by unfold cmpP; rw [if_pos ⟨ha, hb⟩]
theorem Yxh {a b : Int × Int} : cmpV a b < 0 ↔ a.1 * b.2 < b.1 * a.2 := by
 unfold cmpV
 split
 ·rename_i h; exact ⟨fun _ => h, fun _ => by decide⟩
 ·rename_i h
  split
  ·exact ⟨fun h => absurd h (by decide), fun h' => absurd h' h⟩
  ·exact ⟨fun h => absurd h (by decide), fun h' => absurd h' h⟩
theorem Yxi {a b : Int × Int} : 0 < cmpV a b ↔ b.1 * a.2 < a.1 * b.2 := by
 unfold cmpV
 split
 ·rename_i h; exact ⟨fun h => absurd h (by decide), fun h' => by omega⟩
 ·split
  ·rename_i h; exact ⟨fun _ => h, fun _ => by decide⟩
  ·rename_i h; exact ⟨fun h => absurd h (by decide), fun h' => absurd h' h⟩
def Yt6 (l : List Bk) (k : Nat) : List Int := (l.take k).map (·.w) ++ List.replicate (l.length - k) 0
theorem Yg1 {l : List Bk} {k i : Nat} {b : Bk} (hk : k ≤ l.length) (hb : l[i]? = some b) : (Yt6 l k)[i]? = some (if i < k then b.w else 0) := by
 have hi := (List.getElem?_eq_some_iff.1 hb).1
 unfold Yt6
 split
 ·rename_i h
  rw [List.getElem?_append_left (by simp; omega), List.getElem?_map, List.getElem?_take, if_pos h, hb]
  rfl
 ·rename_i h
  rw [List.getElem?_append_right (by simp; omega), List.getElem?_replicate, if_pos (by simp; omega)]
def SumI (s : Sy) (i k : Nat) (c : Int × Int) : Prop := ∃ (Z : Nat → Int) (D : Int), D ≠ 0 ∧ SolQ (matS s) (Yt6 s.bs k) Z D ∧ Val c (Z i) D
theorem SumI.zero (s : Sy) (i : Nat) : SumI s i 0 (0, 1) := by
 refine ⟨fun _ => 0, 1, by decide, fun j r b _ hb => ?_, Val.one (by decide)⟩
 have : b = 0 := by
  have hm := List.mem_of_getElem? hb
  simp only [Yt6, List.take_zero, List.map_nil, List.nil_append] at hm
  exact (List.mem_replicate.1 hm).2
 subst this
 simp [Y4d]
theorem SumI.next {s : Sy} (hv : Y0g s = true) {i k : Nat} (ei : hix s = (i : Int)) {c : Int × Int} (h : SumI s i k c) {b : Bk} (hb : s.bs[k]? = some b) {Y : Nat → Int} {E : Int} (hE : E ≠ 0) (hY : SolQ (matS (Y2i s b.nm)) (wtsS (Y2i s b.nm)) Y E) {d : Int × Int} {r q : Int} (hd : Val d r q) (e : b.w * Y i * q = r * E) (ha : (addR c d).2 = 0) : SumI s i (k + 1) (addR c d).1 := by
 obtain ⟨Z, D, hD, hZ, hV⟩ := h
 have ok := Y0h hv
 have em : matS (Y2i s b.nm) = matS s := Yc4 rfl (Ybn s b.nm)
 rw [em] at hY
 have hk := (List.getElem?_eq_some_iff.1 hb).1
 refine ⟨fun j => Z j * E + (Y j * b.w) * D, D * E, Int.mul_ne_zero hD hE, fun j row x hj hx => ?_, (hV.add hd ha).to (Int.mul_ne_zero hD hE) ?_⟩
 ·have hjl : j < s.bs.length := by
   have := (List.getElem?_eq_some_iff.1 hj).1
   rw [ok.mat_len] at this
   exact this
  obtain ⟨g, hg⟩ : ∃ y, s.bs[j]? = some y := ⟨_, List.getElem?_eq_getElem hjl⟩
  rw [Yg1 (by omega) hg, Option.some.injEq] at hx
  have h1 := hZ j row _ hj (Yg1 (by omega) hg)
  have hu : (wtsS (Y2i s b.nm))[j]? = some (if k = j then 1 else 0) := by
   have := Yrj ok hb rfl hjl
   rw [← this]
   unfold Lin.at_
   rw [List.getElem?_eq_getElem (show j < (wtsS (Y2i s b.nm)).length by simp [wtsS, Y2i]; exact hjl)]
   rfl
  have h2 := hY j row _ hj hu
  rw [Yh4, h1]
  have e3 : sumN (fun n => Lin.at_ row n * (Y n * b.w)) (wid (matS s)) = b.w * sumN (fun n => Lin.at_ row n * Y n) (wid (matS s)) := by
   rw [← Y2b]
   exact Y0s _ fun n _ => by ac_rfl
  rw [e3, h2, ← hx]
  by_cases hjk : k = j
  ·subst hjk
   rw [hb, Option.some.injEq] at hg
   subst hg
   rw [if_pos rfl, if_neg (by omega), if_pos (by omega)]
   grind
  ·rw [if_neg hjk]
   by_cases hlt : j < k
   ·rw [if_pos hlt, if_pos (by omega)]
    grind
   ·rw [if_neg hlt, if_neg (by omega)]
    grind
 ·grind
theorem SumI.same {s : Sy} (hv : Y0g s = true) {i k : Nat} (ei : hix s = (i : Int)) {c : Int × Int} (h : SumI s i k c) {b : Bk} (hb : s.bs[k]? = some b) {Y : Nat → Int} {E : Int} (hE : E ≠ 0) (hY : SolQ (matS (Y2i s b.nm)) (wtsS (Y2i s b.nm)) Y E) (e : Y i = 0) : SumI s i (k + 1) c := by
 have h0 : Val ((0, 1) : Int × Int) 0 1 := Val.one (by decide)
 obtain ⟨Z, D, hD, hZ, hV⟩ := h
 have hs : addR c (0, 1) = (c, 0) := Yy4 hV h0 (by simpa using hV)
 have := SumI.next hv ei ⟨Z, D, hD, hZ, hV⟩ hb hE hY h0 (by rw [e]; simp) (by rw [hs])
 rw [hs] at this
 exact this
structure FB (f : Int × Int) (A : Nat) : Prop where
 v : Y09 f.1 f.2 = true
 n1 : 1 ≤ f.1
 nA : f.1 ≤ A
 dA : f.2 ≤ A
theorem FB.d1 {f : Int × Int} {A : Nat} (h : FB f A) : 1 ≤ f.2 := (Y0c h.v).1
theorem Yln {a d B : Nat} (ha : 0 < a) (hd : 0 < d) (hA : a ≤ B) (hB : d ≤ B) (h : B ≤ 1152921504606846976) : (Y1o a false d).2 = 0 ∧ FB (Y1o a false d).1 B := by
 have hg : 0 < Nat.gcd a d := Nat.gcd_pos_of_pos_right _ hd
 have e : Y1o a false d = Y2l false (a / Nat.gcd a d) (d / Nat.gcd a d) := by unfold Y1o; rw [if_neg (by omega)]
 have h1 : 1 ≤ a / Nat.gcd a d := Nat.div_pos (Nat.le_of_dvd ha (Nat.gcd_dvd_left a d)) hg
 have h2 : 1 ≤ d / Nat.gcd a d := Nat.div_pos (Nat.le_of_dvd hd (Nat.gcd_dvd_right a d)) hg
 have h3 := Nat.div_le_self a (Nat.gcd a d)
 have h4 := Nat.div_le_self d (Nat.gcd a d)
 have z : (Y1o a false d).2 = 0 := by
  rw [e]
  unfold Y2l
  rw [if_neg (by omega)]
 have hv := Y3g hd z
 refine ⟨z, hv, ?_, ?_, ?_⟩
 all_goals
  rw [e]
  unfold Y2l
  rw [if_neg (by omega)]
  simp only [Bool.false_eq_true, if_false]
  omega
theorem FB.mul {f l : Int × Int} {A : Nat} (h : FB f A) (hl : FB l 100) (hA : A * 100 ≤ 1152921504606846976) : (mulR f l).2 = 0 ∧ FB (mulR f l).1 (A * 100) := by
 have a1 := h.n1
 have a2 := h.d1
 have b1 := hl.n1
 have b2 := hl.d1
 have a3 := h.nA
 have a4 := h.dA
 have b3 := hl.nA
 have b4 := hl.dA
 have e : mulR f l = Y1o (f.1.natAbs * l.1.natAbs) false (f.2.natAbs * l.2.natAbs) := by
  unfold mulR
  rw [decide_eq_false (show ¬ f.1 < 0 by omega), decide_eq_false (show ¬ l.1 < 0 by omega)]
  rfl
 rw [e]
 exact Yln (Nat.mul_pos (by omega) (by omega)) (Nat.mul_pos (by omega) (by omega)) (Nat.mul_le_mul (by omega) (by omega)) (Nat.mul_le_mul (by omega) (by omega)) hA
theorem FB.recip {l : Int × Int} {A : Nat} (h : FB l A) : FB (T.recip l) A := by
 have a1 := h.n1
 have e : T.recip l = (l.2, l.1) := by unfold T.recip; rw [if_neg (by omega)]
 have hv := Y7g h.v (by omega)
 rw [e] at hv ⊢
 exact ⟨hv, h.d1, h.dA, h.nA⟩
theorem FB.div {f l : Int × Int} {A : Nat} (h : FB f A) (hl : FB l 100) (hA : A * 100 ≤ 1152921504606846976) : (divR f l).2 = 0 ∧ FB (divR f l).1 (A * 100) := by
 rw [Y7x hl.v]
 exact h.mul hl.recip hA
theorem Y69 {n d : Int} (h : Y3h n d = true) : FB (n, d) 100 := by
 unfold Y3h at h
 simp only [Bool.and_eq_true, decide_eq_true_eq] at h
 have := (Y0c h.1.1).1
 exact ⟨h.1.1, by show 1 ≤ n; omega, by show n ≤ ((100 : Nat) : Int); omega, by show d ≤ ((100 : Nat) : Int); omega⟩
def Y1h (hs : List Hd) (i : Nat) : Int × Int := match hs[i]? with
 | some h => (h.n, h.d)
 | none => (1, 1)
def Ywa (up : Bool) (f l : Int × Int) : Int × Int := if up = true then (mulR f l).1 else (divR f l).1
def facK (hs : List Hd) (up : Bool) : Nat → Int × Int
 | 0 => (1, 1)
 | k + 1 => Ywa up (facK hs up k) (Y1h hs (k + 1))
def Y32 (e : Bool) (h : Hd) : Bool := Y3h h.n h.d && (!e || (h.n == 1 && h.d == 1))
def Y25 (r : Rp) : Bool := decide (2 ≤ r.hs.length ∧ r.hs.length ≤ 10) && (List.range r.hs.length).all fun i => match r.hs[i]? with | some h => Y32 (endH r.hs.length i) h | none => true
def facL (r : Rp) (up : Bool) (k : Nat) : List (Int × Int) := (List.range k).map (facK r.hs up)
theorem Y7u (r : Rp) (up : Bool) (k : Nat) : (facL r up k).length = k := by simp [facL]
theorem Yq9 (r : Rp) (up : Bool) (k : Nat) : facL r up (k + 1) = facL r up k ++ [facK r.hs up k] := by simp [facL, List.range_succ]
theorem Yay (r : Rp) (up : Bool) {k i : Nat} (h : i < k) : (facL r up k)[i]? = some (facK r.hs up i) := by simp [facL, h]
def Y1u (r : Rp) (up : Bool) : List (Int × Int) × Int := if Y25 r = true then (facL r up (r.hs.length - 1), 0) else ([], 1)
theorem Y3e {r : Rp} (h : Y25 r = true) : 2 ≤ r.hs.length ∧ r.hs.length ≤ 10 := by
 unfold Y25 at h
 rw [Bool.and_eq_true, decide_eq_true_eq] at h
 exact h.1
theorem Y5p {r : Rp} (h : Y25 r = true) {i : Nat} {x : Hd} (hx : r.hs[i]? = some x) : Y32 (endH r.hs.length i) x = true := by
 unfold Y25 at h
 rw [Bool.and_eq_true, List.all_eq_true] at h
 have := h.2 i (List.mem_range.2 (List.getElem?_eq_some_iff.1 hx).1)
 rw [hx] at this
 exact this
theorem Yfc {r : Rp} (h1 : 2 ≤ r.hs.length ∧ r.hs.length ≤ 10) (h2 : ∀ i x, r.hs[i]? = some x → Y32 (endH r.hs.length i) x = true) : Y25 r = true := by
 unfold Y25
 rw [Bool.and_eq_true, List.all_eq_true, decide_eq_true_eq]
 refine ⟨h1, fun i hi => ?_⟩
 obtain ⟨x, hx⟩ : ∃ y, r.hs[i]? = some y := ⟨_, List.getElem?_eq_getElem (List.mem_range.1 hi)⟩
 rw [hx]
 exact h2 i _ hx
theorem Yl9 {r : Rp} {i : Nat} {x : Hd} (hx : r.hs[i]? = some x) (h : Y32 (endH r.hs.length i) x = false) : Y25 r = false := by
 cases hr : Y25 r
 ·rfl
 ·rw [Y5p hr hx] at h; cases h
theorem Y3t {e : Bool} {h : Hd} (k : Y32 e h = true) : Y3h h.n h.d = true := by
 unfold Y32 at k
 rw [Bool.and_eq_true] at k
 exact k.1
theorem Ye7 {hs : List Hd} {up : Bool} : ∀ (k : Nat), k ≤ 8 → (∀ i x, 1 ≤ i → i ≤ k → hs[i]? = some x → Y3h x.n x.d = true) → FB (facK hs up k) (100 ^ k)
 | 0, _, _ => show FB (1, 1) 1 from ⟨by decide, by decide, by decide, by decide⟩
 | k + 1, hk, h => by
  have ih := Ye7 (up := up) k (by omega) fun i x h1 h2 => h i x h1 (by omega)
  have hl : FB (Y1h hs (k + 1)) 100 := by
   unfold Y1h
   split
   ·rename_i x hx
    exact Y69 (h (k + 1) x (by omega) (Nat.le_refl _) hx)
   ·exact ⟨by decide, by decide, by decide, by decide⟩
  have hp : 100 ^ k * 100 ≤ 1152921504606846976 := by
   have : 100 ^ k ≤ 100 ^ 7 := Nat.pow_le_pow_right (by decide) (by omega)
   omega
  rw [Nat.pow_succ]
  simp only [facK, Ywa]
  split
  ·exact (ih.mul hl hp).2
  ·exact (ih.div hl hp).2
theorem Ygf {hs : List Hd} {up : Bool} {k : Nat} (hk : k ≤ 7) (h : ∀ i x, 1 ≤ i → i ≤ k → hs[i]? = some x → Y3h x.n x.d = true) {x : Hd} (hx : hs[k + 1]? = some x) (hl : Y3h x.n x.d = true) : mulR (facK hs up k) (x.n, x.d) = ((mulR (facK hs up k) (x.n, x.d)).1, 0) ∧ divR (facK hs up k) (x.n, x.d) = ((divR (facK hs up k) (x.n, x.d)).1, 0) ∧ facK hs up (k + 1) = if up = true then (mulR (facK hs up k) (x.n, x.d)).1 else (divR (facK hs up k) (x.n, x.d)).1 := by
 have ih := Ye7 (up := up) k (by omega) h
 have hp : 100 ^ k * 100 ≤ 1152921504606846976 := by
  have : 100 ^ k ≤ 100 ^ 7 := Nat.pow_le_pow_right (by decide) hk
  omega
 refine ⟨Prod.ext rfl (ih.mul (Y69 hl) hp).1, Prod.ext rfl (ih.div (Y69 hl) hp).1, ?_⟩
 simp only [facK, Ywa, Y1h, hx]
def Y3a (n : Nat) (F : Nat → Int × Int) (i : Nat) (h : Hd) : (Int × Int) × Int :=
 if i = 0 then mulP (h.p, 1) (F 0) else if i + 1 = n then mulP (h.p, 1) (F (n - 2)) else if (addP (F (i - 1)) (F i)).2 = 0 then mulP (h.p.tdiv 2, 1) (addP (F (i - 1)) (F i)).1 else ((0, 0), (addP (F (i - 1)) (F i)).2)
def Y6g (n : Nat) (F : Nat → Int × Int) (nm : ByteArray) : List Hd → Nat → Int × Int → (Int × Int) × Int
 | [], _, c => (c, 0)
 | h :: l, i, c => if h.b = nm then (if (Y3a n F i h).2 = 0 then (if (addP c (Y3a n F i h).1).2 = 0 then Y6g n F nm l (i + 1) (addP c (Y3a n F i h).1).1 else ((0, 0), (addP c (Y3a n F i h).1).2)) else ((0, 0), (Y3a n F i h).2)) else Y6g n F nm l (i + 1) c
def Y3j (r : Rp) (up : Bool) (nm : ByteArray) : (Int × Int) × Int := Y6g r.hs.length (facK r.hs up) nm r.hs 0 (0, 1)
def Y1i (r : Rp) (up : Bool) : List Bk → List (Int × Int) → List (Int × Int) × Int
 | [], acc => (acc, 0)
 | b :: l, acc => if (Y3j r up b.nm).2 = 0 then Y1i r up l (acc ++ [(Y3j r up b.nm).1]) else ([], (Y3j r up b.nm).2)
def dotV : List (Int × Int) → List (Int × Int) → Int × Int → (Int × Int) × Int
 | a :: la, b :: lb, s => if (mulP a b).2 = 0 then (if (addP s (mulP a b).1).2 = 0 then dotV la lb (addP s (mulP a b).1).1 else ((0, 0), (addP s (mulP a b).1).2)) else ((0, 0), (mulP a b).2)
 | _, _, s => (s, 0)
theorem Yqq {a b : List (Int × Int)} {k : Nat} {x y : Int × Int} (ha : a[k]? = some x) (hb : b[k]? = some y) (s : Int × Int) : dotV (a.drop k) (b.drop k) s = if (mulP x y).2 = 0 then (if (addP s (mulP x y).1).2 = 0 then dotV (a.drop (k + 1)) (b.drop (k + 1)) (addP s (mulP x y).1).1 else ((0, 0), (addP s (mulP x y).1).2)) else ((0, 0), (mulP x y).2) := by
 rw [List.drop_eq_getElem_cons (List.getElem?_eq_some_iff.1 ha).1, List.drop_eq_getElem_cons (List.getElem?_eq_some_iff.1 hb).1, (List.getElem?_eq_some_iff.1 ha).2, (List.getElem?_eq_some_iff.1 hb).2]
 rfl
def Y2n (load grip : List (Int × Int)) : List (List (Int × Int)) → List (Int × Int) → List (Int × Int) → (List (Int × Int) × List (Int × Int)) × Int
 | [], w, p => ((w, p), 0)
 | x :: l, w, p => if (dotV x load (0, 1)).2 = 0 then (if (dotV x grip (0, 1)).2 = 0 then Y2n load grip l (w ++ [(dotV x load (0, 1)).1]) (p ++ [(dotV x grip (0, 1)).1]) else (([], []), (dotV x grip (0, 1)).2)) else (([], []), (dotV x load (0, 1)).2)
def nzI (l : List (Int × Int)) : Int := idx (fun x => x.1 != 0) l 0
def balR (t : Int × Int) : List (Int × Int) → List (Int × Int) → Bool → Bool × Int
 | p :: ps, w :: ws, ok => if (mulP p t).2 = 0 then balR t ps ws (ok && decide ((mulP p t).1 = w)) else (false, (mulP p t).2)
 | _, _, ok => (ok, 0)
def balP (w p : List (Int × Int)) : (Int × Int) × Int :=
  if nzI p < 0 then ((0, 0), if nzI w < 0 then 21 else 22)
  else if (divP (w.getD (nzI p).toNat (0, 0)) (p.getD (nzI p).toNat (0, 0))).2 = 0 then
    (if (balR (divP (w.getD (nzI p).toNat (0, 0)) (p.getD (nzI p).toNat (0, 0))).1 p w true).2 = 0 then
      (if (balR (divP (w.getD (nzI p).toNat (0, 0)) (p.getD (nzI p).toNat (0, 0))).1 p w true).1 = false then ((0, 0), 22)
       else if (divP (w.getD (nzI p).toNat (0, 0)) (p.getD (nzI p).toNat (0, 0))).1.1 < 0 then ((0, 0), 13)
       else ((divP (w.getD (nzI p).toNat (0, 0)) (p.getD (nzI p).toNat (0, 0))).1, 0))
     else ((0, 0), (balR (divP (w.getD (nzI p).toNat (0, 0)) (p.getD (nzI p).toNat (0, 0))).1 p w true).2))
  else ((0, 0), (divP (w.getD (nzI p).toNat (0, 0)) (p.getD (nzI p).toNat (0, 0))).2)
def Y92 (r : Rp) : Bool := r.hs.any fun h => !(h.n == 1 && h.d == 1)
def givL (s : Sy) : Int := if Y0g s = true then (if hix s < 0 then 12 else if (s.rs.any fun r => !r.hl && Y92 r) = true then 11 else 0) else 1
theorem Ytn {C1 C2 C3 C4 P Q : Prop} (c1 : C1) (c2 : C2) (c3 : C3) (c4 : C4) (q : Q) (h : C1 → C2 → C3 → C4 → Q → P := by
 intro cc1 cc2 cc3 cc4 hq
 (try with_reducible intro KR hKR)
 (repeat refine Y00 ?_); (repeat refine Y00 ?_); (refine Y0d tab_ok Y06 2 fun KR hKR => ?_); simp only [List.replicate_succ, List.replicate_zero, List.append_nil, List.nil_append, List.cons_append, List.length_cons, List.length_nil, Nat.reduceAdd]; (repeat' ((first | refine Y2s rfl fun KK hKK => ?_ | refine Y2t rfl rfl fun KK hKK => ?_ | refine Y15 rfl fun KK hKK => ?_ | refine Y14 fun KK hKK => ?_); simp (disch := omega) only [bb, bt, zDs, zD, Y01, simprocAttr, bne_self_eq_false, Int.reduceBNe, Int.reduceBEq, Bool.bne_false, Bool.bne_true, Bool.false_bne, Bool.true_bne, Y2a, Y0t, Y3y, Y0m, ufa, uf]; (try ((first | with_reducible refine PGive.ret (cc1) ?_ | with_reducible refine PGive.ret (cc2) ?_ | with_reducible refine PGive.ret (cc3) ?_ | with_reducible refine PGive.ret (cc4) ?_); simp (disch := omega) only [bb, bt, zDs, zD, Y01, simprocAttr, Y1d, bne_self_eq_false, Int.reduceBNe, Int.reduceBEq, Bool.bne_false, Bool.bne_true, Bool.false_bne, Bool.true_bne])); refine hKK _ _ _ ?_; clear hKK KK)); (refine Y0k ?_); simp only [List.reverse_cons, List.reverse_nil, List.nil_append, List.cons_append]; (refine hKR _ _ (by first | rfl | kernel_rfl) ?_); (try clear hKR KR); (refine qq1 ?_)
 (first | exact hq | (revert hKR; revert KR; exact hq))) : P := h c1 c2 c3 c4 q
theorem Ygl {n u D V : Int} (hD : 0 < D) (hV : 0 < V) : ((n < 0 ∧ ¬ u < 0) → cmpV (n, D) (u, V) = -1) ∧ ((¬ n < 0 ∧ u < 0) → cmpV (n, D) (u, V) = 1) := by
 constructor
 ·rintro ⟨h1, h2⟩
  have a := Int.mul_neg_of_neg_of_pos h1 hV
  have b := Int.mul_nonneg (show 0 ≤ u by omega) (show 0 ≤ D by omega)
  unfold cmpV
  rw [if_pos (by simp only; omega)]
 ·rintro ⟨h1, h2⟩
  have a := Int.mul_neg_of_neg_of_pos h2 hD
  have b := Int.mul_nonneg (show 0 ≤ n by omega) (show 0 ≤ V by omega)
  unfold cmpV
  rw [if_neg (by simp only; omega), if_pos (by simp only; omega)]
theorem Yqy {n u : Int} {D V : Nat} (h1 : ¬ n < 0) (h2 : ¬ u < 0) : cmpV (n, (D : Int)) (u, (V : Int)) = if n.natAbs * V < u.natAbs * D then -1 else if u.natAbs * D < n.natAbs * V then 1 else 0 := by
 have e1 : n * (V : Int) = ((n.natAbs * V : Nat) : Int) := by rw [Int.natCast_mul, Int.natAbs_of_nonneg (by omega)]
 have e2 : u * (D : Int) = ((u.natAbs * D : Nat) : Int) := by rw [Int.natCast_mul, Int.natAbs_of_nonneg (by omega)]
 unfold cmpV
 simp only [e1, e2, Int.ofNat_lt]
theorem Yqz {n u : Int} {D V : Nat} (h1 : n < 0) (h2 : u < 0) : cmpV (n, (D : Int)) (u, (V : Int)) = if u.natAbs * D < n.natAbs * V then -1 else if n.natAbs * V < u.natAbs * D then 1 else 0 := by
 have e1 : n * (V : Int) = -((n.natAbs * V : Nat) : Int) := by
  rw [Int.natCast_mul, ← Int.neg_mul]
  congr 1
  omega
 have e2 : u * (D : Int) = -((u.natAbs * D : Nat) : Int) := by
  rw [Int.natCast_mul, ← Int.neg_mul]
  congr 1
  omega
 unfold cmpV
 simp only [e1, e2]
 generalize u.natAbs * D = A
 generalize n.natAbs * V = B
 by_cases h : A < B
 ·rw [if_pos h, if_pos (by omega)]
 ·rw [if_neg h, if_neg (by omega)]
  by_cases h' : B < A
  ·rw [if_pos h', if_pos (by omega)]
  ·rw [if_neg h', if_neg (by omega)]
set_option maxHeartbeats 2000000 in
theorem rCmp (a b : Int × Int) : PRet Tryz.prog 33 [frD a, frD b] (.tup [int (cmpP a b).1, int (cmpP a b).2]) := by
 obtain ⟨n, d⟩ := a
 obtain ⟨u, v⟩ := b
 have va := Y5d n d
 have vb := Y5d u v
 refine pri 2 Tryz.func33 Tryz.ntmps33 fun t => ?_
 simp only [Y04]
 cases ha : Y09 n d
 ·rw [ha] at va
  have e : cmpP (n, d) (u, v) = (0, 1) := by unfold cmpP; rw [if_neg (by simp [ha])]
  refine gga1 va ?_
  exact exx (F := _ ∧ _) ⟨Tryz.results33, e⟩
 rw [ha] at va
 cases hb : Y09 u v
 ·rw [hb] at vb
  have e : cmpP (n, d) (u, v) = (0, 1) := by unfold cmpP; rw [if_neg (by simp [hb])]
  refine gga2 va vb ?_
  exact exx (F := _ ∧ _) ⟨Tryz.results33, e⟩
 rw [hb] at vb
 rw [Yeg ha hb]
 obtain ⟨a1, a2, a3, a4, a5⟩ := Y0c ha
 obtain ⟨b1, b2, b3, b4, b5⟩ := Y0c hb
 obtain ⟨D, rfl⟩ : ∃ D : Nat, d = (D : Int) := ⟨d.toNat, by omega⟩
 obtain ⟨V, rfl⟩ : ∃ V : Nat, v = (V : Int) := ⟨v.toNat, by omega⟩
 obtain ⟨g1, g2⟩ := Ygl (n := n) (u := u) (D := (D : Int)) (V := (V : Int)) (by omega) (by omega)
 have hpos := fun h1 h2 => Yqy (n := n) (u := u) (D := D) (V := V) h1 h2
 have hneg := fun h1 h2 => Yqz (n := n) (u := u) (D := D) (V := V) h1 h2
 have s1 := Yfh n (by omega)
 have s2 := Yfh u (by omega)
 have p1 := Y2f n.natAbs V (by omega) (by omega)
 have p2 := Y2f u.natAbs D (by omega) (by omega)
 have c1 : n.natAbs * V ≤ 1152921504606846976 * 1152921504606846976 := Nat.mul_le_mul (by omega) (by omega)
 have c2 : u.natAbs * D ≤ 1152921504606846976 * 1152921504606846976 := Nat.mul_le_mul (by omega) (by omega)
 have l1 := Ycw (n.natAbs * V) (u.natAbs * D) (by omega) (by omega)
 have l2 := Ycw (u.natAbs * D) (n.natAbs * V) (by omega) (by omega)
 generalize cmpV (n, (D : Int)) (u, (V : Int)) = c at *
 generalize n.natAbs * V = x at *
 generalize u.natAbs * D = y at *
 refine gga2 va vb ?_
 ((repeat refine Y00 ?_); (refine Ytn s1 s2 p1 p2 ?_))
 repeat refine Y00 ?_
 refine Y02 ?_
 by_cases hn : n < 0
 ·by_cases hu : u < 0
  ·rw [hneg hn hu]
   ((refine ggb0 (F := _∧_) ⟨hn, hu⟩ ?_))
   repeat refine Y00 ?_
   refine Y02 ?_
   by_cases hyx : y < x
   ·rw [decide_eq_true hyx] at l2
    ((refine ggb2 (F := _∧_) ⟨hn, hu⟩ l1 l2 ?_))
    exact exx (F := _ ∧ _) ⟨Tryz.results33, hyx⟩
   ·rw [decide_eq_false hyx] at l2
    by_cases hxy : x < y
    ·rw [decide_eq_true hxy] at l1
     ((refine ggb2 (F := _∧_) ⟨hn, hu⟩ l1 l2 ?_))
     exact exx (F := _ ∧ _ ∧ _) ⟨Tryz.results33, hyx, hxy⟩
    ·rw [decide_eq_false hxy] at l1
     ((refine ggb2 (F := _∧_) ⟨hn, hu⟩ l1 l2 ?_))
     exact exx (F := _ ∧ _ ∧ _) ⟨Tryz.results33, hyx, hxy⟩
  ·rw [g1 ⟨hn, hu⟩]
   ((refine ggb0 (F := _∧_) ⟨hn, hu⟩ ?_))
   exact exx Tryz.results33
 ·by_cases hu : u < 0
  ·rw [g2 ⟨hn, hu⟩]
   ((refine ggb0 (F := _∧_) ⟨hn, hu⟩ ?_))
   exact exx Tryz.results33
  ·rw [hpos hn hu]
   ((refine ggb0 (F := _∧_) ⟨hn, hu⟩ ?_))
   repeat refine Y00 ?_
   refine Y02 ?_
   by_cases hxy : x < y
   ·rw [decide_eq_true hxy] at l1
    ((refine ggb2 (F := _∧_) ⟨hn, hu⟩ l1 l2 ?_))
    exact exx (F := _ ∧ _) ⟨Tryz.results33, hxy⟩
   ·rw [decide_eq_false hxy] at l1
    by_cases hyx : y < x
    ·rw [decide_eq_true hyx] at l2
     ((refine ggb2 (F := _∧_) ⟨hn, hu⟩ l1 l2 ?_))
     exact exx (F := _ ∧ _ ∧ _) ⟨Tryz.results33, hxy, hyx⟩
    ·rw [decide_eq_false hyx] at l2
     ((refine ggb2 (F := _∧_) ⟨hn, hu⟩ l1 l2 ?_))
     exact exx (F := _ ∧ _ ∧ _) ⟨Tryz.results33, hxy, hyx⟩
theorem Y4b (n : Int) : PRet Tryz.prog 50 [int n] (frD (n, 1)) := by
 refine pri 1 Tryz.func50 Tryz.ntmps50 fun t => ?_
 simp only [Y04]
 refine gga0 ?_
 exact exx Tryz.results50
theorem Ywx (n d : Int) : PRet Tryz.prog 132 [frD (n, d)] (bool (Y3h n d)) := by
 refine pri 1 Tryz.func132 Tryz.ntmps132 fun t => ?_
 simp only [Y04]
 have hc := Y5d n d
 cases hv : Y09 n d
 ·rw [hv] at hc
  refine gga1 hc ?_
  ((repeat refine Y00 ?_); (refine wta ?_); simp (disch := omega) only [retQ, resD, oneD, rsv, rs, rsL, Y0a, List.map_map, bb, bt, zDs, zD, Y01, simprocAttr, Tryz.results132, Y3h, hv])
 ·rw [hv] at hc
  by_cases h1 : d ≤ n <;> by_cases h2 : n ≤ 100 <;>
  ·((refine ggb1 (F := _∧_) ⟨h1, h2⟩ hc ?_))
   ((repeat refine Y00 ?_); (refine wta ?_); simp (disch := omega) only [retQ, resD, oneD, rsv, rs, rsL, Y0a, List.map_map, bb, bt, zDs, zD, Y01, simprocAttr, Tryz.results132, Y3h, hv, h1, h2])
set_option maxHeartbeats 4000000 in
theorem Yyw (a b : List (Int × Int)) (hl : a.length ≤ b.length) (hb : b.length ≤ 1000) : PRet Tryz.prog 99 [frs a, frs b] (fe (dotV a b (0, 1))) := by
 refine pri 1 Tryz.func99 Tryz.ntmps99 fun t => ?_
 simp only [Y04]
 have hw0 := Y4b 0
 have had := Y70 a
 have hbd := Y70 b
 generalize hdd : dotV a b (0, 1) = R at *
 refine ggb1 had hw0 ?_
 repeat refine Y00 ?_
 refine Y0i (fun x : Nat => ⟨[(4, .ptr 0 (t + 1) 0), (6, .ptr 1 (t + 1 + 1) 0)], [some ⟨33, t + 1, [int 0, int 0]⟩, some ⟨33, t + 1 + 1, [int R.1.1, int R.1.2]⟩], x⟩) (fun _ => R.2 = 0) ?_ ?_
 ·refine Y02 ?_
  refine Y05 (fun x : (Int × Int) × Nat × Nat => ⟨[(0, frs a), (1, frs b), (4, .ptr 0 (t + 1) 0), (6, .ptr 1 (t + 1 + 1) 0), (12, int a.length), (13, int x.2.1)], [some ⟨33, t + 1, [int 0, int 0]⟩, some ⟨33, t + 1 + 1, [int x.1.1, int x.1.2]⟩], x.2.2⟩) (fun x => a.length - x.2.1) (fun x => x.2.1 ≤ a.length ∧ dotV (a.drop x.2.1) (b.drop x.2.1) x.1 = R) ((0, 1), 0, t + 1 + 1) ⟨Nat.zero_le _, hdd⟩ ele ?_
  rintro ⟨c, k, tt⟩ ⟨hk, hd⟩
  simp only at hk hd
  by_cases hlt : k < a.length
  ·obtain ⟨x, hx⟩ : ∃ y, a[k]? = some y := ⟨_, List.getElem?_eq_getElem hlt⟩
   obtain ⟨y, hy⟩ : ∃ y, b[k]? = some y := ⟨_, List.getElem?_eq_getElem (by omega)⟩
   have hra := Y1p a k x hx
   have hrb := Y1p b k y hy
   have hkb : k < b.length := by omega
   rw [Yqq hx hy] at hd
   have hM := rMul x y
   generalize mulP x y = Y at *
   ((refine ggb0 (F := _∧_) ⟨@Int.ofNat_lt, hlt⟩ ?_))
   repeat refine Y00 ?_
   refine Y02 ?_
   refine gga0 ?_
   ((repeat refine Y00 ?_); (refine Ybf (F := _∧_∧_∧_∧_∧_) ⟨hlt, hkb, had, hbd, hra, hrb⟩ hM ?_))
   by_cases hy0 : Y.2 = 0
   rotate_left 1
   ·have e4 : (Y.2 != 0) = true := by simpa using hy0
    rw [if_neg hy0] at hd
    subst hd
    refine ggb0 e4 ?_
    exact exx Tryz.results99
   have e4 : (Y.2 != 0) = false := by simpa using hy0
   rw [if_pos hy0] at hd
   have hA := rAdd c Y.1
   generalize addP c Y.1 = Q at *
   by_cases hq : Q.2 = 0
   rotate_left 1
   ·have e5 : (Q.2 != 0) = true := by simpa using hq
    rw [if_neg hq] at hd
    subst hd
    ((refine ggb1 (F := _∧_) ⟨e4, e5⟩ hA ?_))
    exact exx Tryz.results99
   have e5 : (Q.2 != 0) = false := by simpa using hq
   rw [if_pos hq] at hd
   ((refine ggb1 (F := _∧_) ⟨e4, e5⟩ hA ?_))
   refine ⟨(Q.1, k + 1, tt + 1 + 1), ⟨hlt, hd⟩, by show a.length - (k + 1) < a.length - k; omega, ?_⟩
   exact ele
  ·have hke : k = a.length := by omega
   subst hke
   have hde : dotV (a.drop a.length) (b.drop a.length) c = (c, 0) := by
    rw [List.drop_eq_nil_of_le (Nat.le_refl _)]
    cases b.drop a.length <;> rfl
   rw [hde] at hd
   subst hd
   refine wqb @Int.lt_irrefl ?_
   refine wia ?_
   refine wxa ?_
   exact ⟨tt, rfl, ele⟩
 rintro tt hR
 have er : fe R = .tup [frD R.1, int 0] := by show D.tup [frD R.1, int R.2] = _; rw [hR]
 rw [er]
 refine gga0 ?_
 exact exx Tryz.results99
theorem Yxs (x : Int × Int) : PRet Tryz.prog 138 [frD x] (bool (x.1 != 0)) := by
 refine pri 1 Tryz.func138 Tryz.ntmps138 fun t => ?_
 simp only [Y04]
 refine gga0 ?_
 exact exx Tryz.results138
theorem Yrg (l : List (Int × Int)) (hl : l.length ≤ 1000) : PRet Tryz.prog 136 [frs l] (int (nzI l)) := by
 refine pri 1 Tryz.func136 Tryz.ntmps136 fun t => ?_
 simp only [Y04]
 have hI := Yi5 l 138 [] (fun x => x.1 != 0) (by omega) (fun x _ => Yxs x)
 unfold nzI
 refine gga1 hI ?_
 exact exx Tryz.results136
theorem Yrf {t x y : Int × Int} {p w : List (Int × Int)} {k : Nat} (hp : p[k]? = some x) (hw : w[k]? = some y) (ok : Bool) : balR t (p.drop k) (w.drop k) ok = if (mulP x t).2 = 0 then balR t (p.drop (k + 1)) (w.drop (k + 1)) (ok && decide ((mulP x t).1 = y)) else (false, (mulP x t).2) := by
 rw [List.drop_eq_getElem_cons (List.getElem?_eq_some_iff.1 hp).1, List.drop_eq_getElem_cons (List.getElem?_eq_some_iff.1 hw).1, (List.getElem?_eq_some_iff.1 hp).2, (List.getElem?_eq_some_iff.1 hw).2]
 rfl
theorem Yzr (a b : Int × Int) : (a.1 == b.1 && a.2 == b.2) = decide (a = b) := by
 obtain ⟨a1, a2⟩ := a
 obtain ⟨b1, b2⟩ := b
 rw [Bool.eq_iff_iff]
 simp
theorem Yzd {l : List (Int × Int)} (h : 0 ≤ nzI l) : ∃ (k : Nat) (x : Int × Int), nzI l = (k : Int) ∧ l[k]? = some x := by
 obtain ⟨h1, h2⟩ := Y8x (fun x : Int × Int => x.1 != 0) l 0
 unfold nzI at h ⊢
 cases ha : l.any (fun x => x.1 != 0)
 ·have := h2 ha
  omega
 ·obtain ⟨k, x, e, hx, _⟩ := h1 ha
  exact ⟨k, x, by rw [e]; simp, hx⟩
set_option maxRecDepth 100000 in
set_option maxHeartbeats 8000000 in
theorem Yre (w p : List (Int × Int)) (hl : w.length = p.length) (hb : p.length ≤ 1000) : PRet Tryz.prog 100 [frs w, frs p] (fe (balP w p)) := by
 refine pri 1 Tryz.func100 Tryz.ntmps100 fun t => ?_
 simp only [Y04]
 have hN1 := Yrg p hb
 have hN2 := Yrg w (by omega)
 have hwd := Y70 w
 have hpd := Y70 p
 by_cases h0 : nzI p < 0
 ·by_cases h1 : nzI w < 0
  ·have e : balP w p = ((0, 0), 21) := by unfold balP; rw [if_pos h0, if_pos h1]
   rw [e]
   ((refine ggb2 (F := _∧_) ⟨h0, h1⟩ hN1 hN2 ?_))
   exact exx Tryz.results100
  ·have e : balP w p = ((0, 0), 22) := by unfold balP; rw [if_pos h0, if_neg h1]
   rw [e]
   ((refine ggb2 (F := _∧_) ⟨h0, h1⟩ hN1 hN2 ?_))
   exact exx Tryz.results100
 obtain ⟨j, x, hj, hx⟩ := Yzd (l := p) (by omega)
 have hjp := (List.getElem?_eq_some_iff.1 hx).1
 obtain ⟨y, hy⟩ : ∃ z, w[j]? = some z := ⟨_, List.getElem?_eq_getElem (by omega)⟩
 have hjw : j < w.length := by omega
 unfold balP
 rw [if_neg h0]
 rw [hj] at h0 hN1 ⊢
 rw [Int.toNat_natCast, List.getD_eq_getElem?_getD, hy, List.getD_eq_getElem?_getD, hx, Option.getD_some, Option.getD_some]
 have hrx := Y1p p j x hx
 have hry := Y1p w j y hy
 have hD := rDiv y x
 generalize divP y x = T at *
 obtain ⟨f, te⟩ := T
 simp only at *
 refine ggb1 h0 hN1 ?_
 ((repeat refine Y00 ?_); (refine Ybf (F := _∧_∧_∧_∧_∧_) ⟨hjp, hjw, hwd, hpd, hrx, hry⟩ hD ?_))
 by_cases ht : te = 0
 rotate_left 1
 ·have e1 : (te != 0) = true := by simpa using ht
  rw [if_neg ht]
  refine ggb0 e1 ?_
  exact exx Tryz.results100
 subst ht
 rw [if_pos rfl]
 generalize hdd : balR f p w true = R at *
 refine ggb0 hpd ?_
 repeat refine Y00 ?_
 refine Y0i (fun x : Nat => ⟨[(4, .ptr 0 (t + 1) 0), (8, .ptr 1 (t + 1 + 1) 0), (10, bool R.1)], [some ⟨33, t + 1, [int 0, int 0]⟩, some ⟨33, t + 1 + 1, [int f.1, int f.2]⟩], x⟩) (fun _ => R.2 = 0) ?_ ?_
 ·refine Y02 ?_
  refine Y05 (fun x : Bool × Nat × Nat => ⟨[(0, frs w), (1, frs p), (4, .ptr 0 (t + 1) 0), (8, .ptr 1 (t + 1 + 1) 0), (10, bool x.1), (42, int p.length), (43, int x.2.1)], [some ⟨33, t + 1, [int 0, int 0]⟩, some ⟨33, t + 1 + 1, [int f.1, int f.2]⟩], x.2.2⟩) (fun x => p.length - x.2.1) (fun x => x.2.1 ≤ p.length ∧ balR f (p.drop x.2.1) (w.drop x.2.1) x.1 = R) (true, 0, t + 1 + 1) ⟨Nat.zero_le _, hdd⟩ ele ?_
  rintro ⟨ok, k, tt⟩ ⟨hk, hd⟩
  simp only at hk hd
  by_cases hlt : k < p.length
  ·obtain ⟨a, ha⟩ : ∃ y, p[k]? = some y := ⟨_, List.getElem?_eq_getElem hlt⟩
   have hkw : k < w.length := by omega
   obtain ⟨b, hb⟩ : ∃ y, w[k]? = some y := ⟨_, List.getElem?_eq_getElem hkw⟩
   have hra := Y1p p k a ha
   have hrb := Y1p w k b hb
   rw [Yrf ha hb] at hd
   have hM := rMul a f
   generalize mulP a f = M at *
   have hdec := Yzr M.1 b
   ((refine ggb0 (F := _∧_) ⟨@Int.ofNat_lt, hlt⟩ ?_))
   repeat refine Y00 ?_
   refine Y02 ?_
   refine gga0 ?_
   ((repeat refine Y00 ?_); (refine Ybf (F := _∧_∧_) ⟨hlt, hpd, hra⟩ hM ?_))
   by_cases hm : M.2 = 0
   rotate_left 1
   ·have e1 : (M.2 != 0) = true := by simpa using hm
    rw [if_neg hm] at hd
    subst hd
    refine ggb0 e1 ?_
    rw [if_neg hm]
    exact exx Tryz.results100
   have e1 : (M.2 != 0) = false := by simpa using hm
   rw [if_pos hm] at hd
   cases ok
   ·rw [Bool.false_and] at hd
    refine ggb0 e1 ?_
    ((repeat refine Y00 ?_); (refine gdzb (F := _∧_∧_) ⟨hkw, hwd, hrb⟩ ?_))
    refine gga0 ?_
    refine ⟨(false, k + 1, tt + 1 + 1 + 1), ⟨hlt, hd⟩, by show p.length - (k + 1) < p.length - k; omega, ?_⟩
    exact ele
   ·rw [Bool.true_and] at hd
    refine ggb0 e1 ?_
    ((repeat refine Y00 ?_); (refine gdzb (F := _∧_∧_∧_) ⟨hkw, hwd, hrb, hdec⟩ ?_))
    refine gga0 ?_
    refine ⟨(decide (M.1 = b), k + 1, tt + 1 + 1 + 1), ⟨hlt, hd⟩, by show p.length - (k + 1) < p.length - k; omega, ?_⟩
    exact ele
  ·have hke : k = p.length := by omega
   subst hke
   have hde : balR f (p.drop p.length) (w.drop p.length) ok = (ok, 0) := by
    rw [List.drop_eq_nil_of_le (Nat.le_refl _)]
    cases w.drop p.length <;> rfl
   rw [hde] at hd
   subst hd
   refine wqb @Int.lt_irrefl ?_
   refine wia ?_
   refine wxa ?_
   exact ⟨tt, rfl, ele⟩
 rintro tt hR
 rw [if_pos hR]
 repeat refine Y00 ?_
 refine Y02 ?_
 cases hR1 : R.1
 ·rw [if_pos rfl]
  refine ggb0 hR1 ?_
  exact exx Tryz.results100
 ·rw [if_neg (by decide)]
  by_cases hf : f.1 < 0
  ·rw [if_pos hf]
   ((refine ggb0 (F := _∧_) ⟨hR1, hf⟩ ?_))
   exact exx Tryz.results100
  ·rw [if_neg hf]
   ((refine ggb0 (F := _∧_) ⟨hR1, hf⟩ ?_))
   exact exx Tryz.results100
theorem Ye6 {α : Type} {p : α → Bool} : ∀ (l : List α) (k i : Nat) (a b : α), (l.filter p).length ≤ 1 → l[k]? = some a → l[i]? = some b → p a = true → p b = true → k = i
 | [], k, i, a, b, _, h, _, _, _ => by simp at h
 | x :: l, 0, 0, a, b, _, _, _, _, _ => rfl
 | x :: l, 0, i + 1, a, b, h, h1, h2, pa, pb => by
  simp only [List.getElem?_cons_zero, Option.some.injEq] at h1
  subst h1
  rw [List.filter_cons_of_pos pa, List.length_cons] at h
  simp only [List.getElem?_cons_succ] at h2
  have := List.length_pos_of_mem (List.mem_filter.2 ⟨List.mem_of_getElem? h2, pb⟩)
  omega
 | x :: l, k + 1, 0, a, b, h, h1, h2, pa, pb => by
  simp only [List.getElem?_cons_zero, Option.some.injEq] at h2
  subst h2
  rw [List.filter_cons_of_pos pb, List.length_cons] at h
  simp only [List.getElem?_cons_succ] at h1
  have := List.length_pos_of_mem (List.mem_filter.2 ⟨List.mem_of_getElem? h1, pa⟩)
  omega
 | x :: l, k + 1, i + 1, a, b, h, h1, h2, pa, pb => by
  simp only [List.getElem?_cons_succ] at h1 h2
  refine congrArg (· + 1) (Ye6 l k i a b (Nat.le_trans ?_ h) h1 h2 pa pb)
  rw [List.filter_cons]
  split
  ·simp
  ·exact Nat.le_refl _
theorem Y6k (l : List Hd) (g : FuncId) (caps : List D) (p : Hd → Bool) (hl : l.length ≤ 1000000) (hp : ∀ x ∈ l, PRet Tryz.prog g ((.agg (hd1 x) :: caps).map ufa) (bool (p x))) : PRet Tryz.prog 7 [hds l, .fn g caps] (bool (l.any p)) := by
 refine pri 1 Tryz.func7 Tryz.ntmps7 fun t => ?_
 simp only [Y04]
 have hI := Yi4 l g caps p hl hp
 have hA : decide (0 ≤ idx p l 0) = l.any p := by
  obtain ⟨h1, h2⟩ := Y8x p l 0
  cases ha : l.any p
  ·rw [h2 ha]; rfl
  ·obtain ⟨k, x, e, _⟩ := h1 ha
   rw [e]
   simp
 generalize idx p l 0 = z at *
 refine gga1 hI ?_
 exact exx (F := _ ∧ _) ⟨Tryz.results7, hA⟩
theorem Yx7 (r : Rp) : PRet Tryz.prog 130 [.agg (rp1 r)] (bool r.hl) := by
 refine pri 1 Tryz.func130 Tryz.ntmps130 fun t => ?_
 simp only [Y04]
 refine gga0 ?_
 exact exx Tryz.results130
theorem Yx6 (h : Hd) : PRet Tryz.prog 131 [.agg (hd1 h)] (bool (!(h.n == 1 && h.d == 1))) := by
 refine pri 1 Tryz.func131 Tryz.ntmps131 fun t => ?_
 simp only [Y04]
 have h1 := Y4b 1
 obtain ⟨b, p, n, d⟩ := h
 simp only
 cases e1 : (n == 1) <;> cases e2 : (d == 1)
 all_goals
  refine gga0 ?_
  ((repeat refine Y00 ?_); (refine Y6h (F := _∧_) ⟨e1, e2⟩ h1 ?_))
  refine gga0 ?_
  exact exx Tryz.results131
set_option maxHeartbeats 4000000 in
theorem Yx5 (s : Sy) (hf : Fits s) : PRet Tryz.prog 95 [syD s] (.tup [int (if givL s = 0 then hix s else 0), int (givL s)]) := by
 refine pri 1 Tryz.func95 Tryz.ntmps95 fun t => ?_
 simp only [Y04]
 have hV := Y43 s hf
 have hI := Y6x s.rs 130 [] (fun r => r.hl) hf.nr (fun x _ => Yx7 x)
 have eI : idx (fun r : Rp => r.hl) s.rs 0 = hix s := rfl
 rw [eI] at hI
 have hdr := Y1q s.rs
 have hnr := hf.nr
 cases hv : Y0g s
 ·rw [hv] at hV
  have e : givL s = 1 := by unfold givL; rw [if_neg (by simp [hv])]
  rw [e]
  refine gga1 hV ?_
  exact exx Tryz.results95
 rw [hv] at hV
 by_cases hh : hix s < 0
 ·have e : givL s = 12 := by unfold givL; rw [if_pos hv, if_pos hh]
  rw [e]
  refine ggb2 hh hV hI ?_
  exact exx Tryz.results95
 obtain ⟨i, q, hi, hq, hqh⟩ := Y5v hh
 have ok := Y0h hv
 have e : givL s = if (s.rs.any fun r => !r.hl && Y92 r) = true then 11 else 0 := by unfold givL; rw [if_pos hv, if_neg hh]
 rw [e]
 rw [hi] at hI hh ⊢
 have hone : Y3v s.rs ≤ 1 := by
  unfold Y0g at hv
  rw [Bool.and_eq_true, decide_eq_true_eq] at hv
  exact hv.2
 have huniq : ∀ (k : Nat) (r : Rp), s.rs[k]? = some r → r.hl = true → k = i := fun k r hr hrl => Ye6 (p := fun r : Rp => r.hl) s.rs k i r q hone hr hq hrl hqh
 have hr6 := ok.r6
 ((refine ggb2 (F := _∧_) ⟨hh, hdr⟩ hV hI ?_))
 repeat refine Y00 ?_
 refine Y0i (fun x : Nat => ⟨[(4, int i)], [], x⟩) (fun _ => (s.rs.any fun r => !r.hl && Y92 r) = false) ?_ ?_
 ·refine Y02 ?_
  refine Y05 (fun x : Nat × Nat => ⟨[(4, int i), (16, rps s.rs), (17, int s.rs.length), (18, int x.1)], [], x.2⟩) (fun x => s.rs.length - x.1) (fun x => x.1 ≤ s.rs.length ∧ ((s.rs.take x.1).any fun r => !r.hl && Y92 r) = false) (0, t + 1) ⟨Nat.zero_le _, rfl⟩ ele ?_
  rintro ⟨k, tt⟩ ⟨hk, hal⟩
  simp only at hk hal
  by_cases hlt : k < s.rs.length
  ·obtain ⟨r, hr⟩ : ∃ y, s.rs[k]? = some y := ⟨_, List.getElem?_eq_getElem hlt⟩
   have hra := Y2z s.rs k r hr
   have hsr := (hf.sr r (List.mem_of_getElem? hr)).2
   have hCF := Y6k r.hs 131 [] (fun h => !(h.n == 1 && h.d == 1)) hsr (fun x _ => Yx6 x)
   have eL : (r.hs.any fun h => !(h.n == 1 && h.d == 1)) = Y92 r := rfl
   rw [eL] at hCF
   have hst : ((s.rs.take (k + 1)).any fun r => !r.hl && Y92 r) = (!r.hl && Y92 r) := by
    rw [List.take_add_one, hr, Option.toList_some, List.any_append, hal]
    simp
   ((refine ggb0 (F := _∧_) ⟨@Int.ofNat_lt, hlt⟩ ?_))
   repeat refine Y00 ?_
   refine Y02 ?_
   by_cases hki : k = i
   ·subst hki
    rw [hq, Option.some.injEq] at hr
    subst hr
    have hql : q.hl = true := hqh
    have c1 : ((k : Int) != (k : Int)) = false := by simp
    ((refine ggb0 (F := _∧_∧_∧_) ⟨hlt, hdr, hra, c1⟩ ?_))
    refine ⟨(k + 1, tt + 1), ⟨hlt, by rw [hst, hql]; rfl⟩, by show s.rs.length - (k + 1) < s.rs.length - k; omega, ?_⟩
    exact ele
   ·have c1 : ((k : Int) != (i : Int)) = true := by simp; omega
    have hrl : r.hl = false := by
     cases hb : r.hl
     ·rfl
     ·exact absurd (huniq k r hr hb) hki
    cases hlo : Y92 r
    ·rw [hlo] at hCF
     ((refine ggb1 (F := _∧_∧_∧_) ⟨hlt, hdr, hra, c1⟩ hCF ?_))
     refine ⟨(k + 1, tt + 1), ⟨hlt, by rw [hst, hrl, hlo]; rfl⟩, by show s.rs.length - (k + 1) < s.rs.length - k; omega, ?_⟩
     exact ele
    ·rw [hlo] at hCF
     have ha : (s.rs.any fun r => !r.hl && Y92 r) = true := by
      rw [List.any_eq_true]
      exact ⟨r, List.mem_of_getElem? hr, by simp [hrl, hlo]⟩
     rw [if_pos ha]
     ((refine ggb1 (F := _∧_∧_∧_) ⟨hlt, hdr, hra, c1⟩ hCF ?_))
     exact exx Tryz.results95
  ·have hke : k = s.rs.length := by omega
   subst hke
   rw [List.take_length] at hal
   refine wqb @Int.lt_irrefl ?_
   refine wia ?_
   refine wxa ?_
   exact ⟨tt, hal, ele⟩
 rintro tt hal
 rw [hal]
 simp only [Bool.false_eq_true, ↓reduceIte]
 refine gga0 ?_
 exact exx Tryz.results95
theorem Yu3 {n k : Nat} (h1 : 1 ≤ k) (h2 : k + 1 < n) : endH n k = false := by
 unfold endH
 rw [Bool.or_eq_false_iff]
 constructor
 ·rw [beq_eq_false_iff_ne]; omega
 ·rw [beq_eq_false_iff_ne]; omega
def alnC (n k : Nat) : Nat := min (max k 1) (n - 1)
def alnS (r : Rp) (up : Bool) (t : Nat) (x : Bool × Nat × Nat × Nat) : St :=
 if x.1 = true then ⟨[(1, bool up), (2, .ptr 0 (t + 1) 0), (6, int r.hs.length), (7, .own 2 3 x.2.2.1 0 (alnC r.hs.length x.2.1)), (25, hds r.hs), (26, int r.hs.length), (27, int x.2.1)], [some ⟨30, t + 1, rp1 r⟩, none, none, some ⟨33, x.2.2.1, frC (facL r up (alnC r.hs.length x.2.1))⟩], x.2.2.2⟩
 else ⟨[(1, bool up), (2, .ptr 0 (t + 1) 0), (6, int r.hs.length), (7, .sl 2 (frC (facL r up (alnC r.hs.length x.2.1))) true), (25, hds r.hs), (26, int r.hs.length), (27, int x.2.1)], [some ⟨30, t + 1, rp1 r⟩], x.2.2.2⟩
theorem Ytx (r : Rp) (up : Bool) : frC (facL r up 1) = [int 1, int 1] := rfl
set_option maxRecDepth 100000 in
set_option maxHeartbeats 16000000 in
theorem Yxz (r : Rp) (up : Bool) (hl : r.hs.length ≤ 1000000) : PRet Tryz.prog 96 [.agg (rp1 r), bool up] (fse (Y1u r up)) := by
 refine pri 1 Tryz.func96 Tryz.ntmps96 fun t => ?_
 simp only [Y04]
 have hdh := Y4v r.hs
 have hw1 := Y4b 1
 by_cases hsz : 2 ≤ r.hs.length ∧ r.hs.length ≤ 10
 rotate_left 1
 ·have e : Y1u r up = ([], 1) := by
   unfold Y1u
   rw [if_neg]
   intro h
   exact hsz (Y3e h)
  rw [e]
  by_cases h2 : (r.hs.length : Int) < 2
  ·((refine ggb0 (F := _∧_) ⟨h2, hdh⟩ ?_))
   refine exq Tryz.results96 ?_
   rfl
  ·have h10 : (10 : Int) < r.hs.length := by omega
   ((refine ggb0 (F := _∧_∧_) ⟨h2, h10, hdh⟩ ?_))
   refine exq Tryz.results96 ?_
   rfl
 obtain ⟨n2, n10⟩ := hsz
 have h2 : ¬ (r.hs.length : Int) < 2 := by omega
 have h10 : ¬ (10 : Int) < r.hs.length := by omega
 have bad : ∀ {i : Nat} {x : Hd}, r.hs[i]? = some x → Y32 (endH r.hs.length i) x = false → Y1u r up = ([], 1) := fun hx h => by
  unfold Y1u
  rw [if_neg (by rw [Yl9 hx h]; decide)]
 ((refine ggb1 (F := _∧_∧_) ⟨h2, h10, hdh⟩ hw1 ?_))
 have hc0 : alnC r.hs.length 0 = 1 := by unfold alnC; omega
 have hf1 := Ytx r up
 have hfn : frC [] = [] := rfl
 repeat refine Y00 ?_
 refine Y02 ?_
 refine Y05 (alnS r up t) (fun x => r.hs.length - x.2.1) (fun x => x.2.1 ≤ r.hs.length ∧ (x.1 = false → alnC r.hs.length x.2.1 = 1) ∧ (x.1 = true → 2 ≤ x.2.1) ∧ ∀ i h, i < x.2.1 → r.hs[i]? = some h → Y32 (endH r.hs.length i) h = true) (false, 0, t, t + 1) ⟨Nat.zero_le _, fun _ => hc0, fun h => (by cases h), fun i h hi => absurd hi (Nat.not_lt_zero _)⟩ (by simp only [alnS, Bool.false_eq_true, ↓reduceIte, hc0, hf1]; (simp (disch := omega) only [StLe, tmLe, Y0b, hpLe, bl, bb, bt, zDs, zD, Y01, simprocAttr])) ?_
 rintro ⟨o, k, g, tt⟩ ⟨hk, ho1, ho2, hal⟩
 simp only at hk ho1 ho2 hal
 by_cases hlt : k < r.hs.length
 ·obtain ⟨x, hx⟩ : ∃ y, r.hs[k]? = some y := ⟨_, List.getElem?_eq_getElem hlt⟩
  have hra := Y4m r.hs k x hx
  have hLy := Ywx x.n x.d
  have nxt : Y32 (endH r.hs.length k) x = true → ∀ i h, i < k + 1 → r.hs[i]? = some h → Y32 (endH r.hs.length i) h = true := fun hok i h hi hh => by
   by_cases hik : i = k
   ·subst hik
    rw [hx, Option.some.injEq] at hh
    exact hh ▸ hok
   ·exact hal i h (by omega) hh
  by_cases hend : k = 0 ∨ k + 1 = r.hs.length
  ·have hE : endH r.hs.length k = true := by
    unfold endH
    rcases hend with h | h
    ·rw [h]; rfl
    ·rw [h]; simp
   have hc1 : alnC r.hs.length (k + 1) = alnC r.hs.length k := by unfold alnC; rcases hend with h | h <;> omega
   have e1 : k ≠ 0 → ((k : Int) == (r.hs.length : Int) - 1) = true := fun h => by
    rw [beq_iff_eq]
    rcases hend with h' | h' <;> omega
   by_cases hone : x.n = 1 ∧ x.d = 1
   ·obtain ⟨hn1, hd1⟩ := hone
    have hok : Y32 (endH r.hs.length k) x = true := by unfold Y32; rw [hn1, hd1]; simp; decide
    rw [hn1, hd1] at hLy
    have hl1 : Y3h 1 1 = true := by decide
    rw [hl1] at hLy
    by_cases hk0 : k = 0
    ·have e0 : ((k : Int) == 0) = true := by simp [hk0]
     cases o
     rotate_left 1
     ·have := ho2 rfl
      omega
     simp only [alnS, Bool.false_eq_true, ↓reduceIte]
     ((refine ggb0 (F := _∧_) ⟨@Int.ofNat_lt, hlt⟩ ?_))
     repeat refine Y00 ?_
     refine Y02 ?_
     ((refine ggb0 (F := _∧_∧_∧_) ⟨hlt, hdh, hra, e0⟩ ?_))
     ((repeat refine Y00 ?_); (refine Ydx (F := _∧_) ⟨hn1, hd1⟩ hw1 hLy ?_))
     refine gga0 ?_
     refine ⟨(false, k + 1, t, tt + 1 + 1), ⟨hlt, fun _ => by rw [hc1]; exact ho1 rfl, fun h => (by cases h), nxt hok⟩, by show r.hs.length - (k + 1) < r.hs.length - k; omega, ?_⟩
     simp only [alnS, Bool.false_eq_true, ↓reduceIte, hc1]
     exact ele
    ·have e0 : ((k : Int) == 0) = false := by simpa using hk0
     have e1 := e1 hk0
     cases o
     ·simp only [alnS, Bool.false_eq_true, ↓reduceIte]
      ((refine ggb0 (F := _∧_) ⟨@Int.ofNat_lt, hlt⟩ ?_))
      repeat refine Y00 ?_
      refine Y02 ?_
      ((refine ggb0 (F := _∧_∧_∧_∧_) ⟨hlt, hdh, hra, e0, e1⟩ ?_))
      ((repeat refine Y00 ?_); (refine Ydx (F := _∧_) ⟨hn1, hd1⟩ hw1 hLy ?_))
      refine gga0 ?_
      refine ⟨(false, k + 1, t, tt + 1 + 1), ⟨hlt, fun _ => by rw [hc1]; exact ho1 rfl, fun h => (by cases h), nxt hok⟩, by show r.hs.length - (k + 1) < r.hs.length - k; omega, ?_⟩
      simp only [alnS, Bool.false_eq_true, ↓reduceIte, hc1]
      exact ele
     ·simp only [alnS, ↓reduceIte]
      ((refine ggb0 (F := _∧_) ⟨@Int.ofNat_lt, hlt⟩ ?_))
      repeat refine Y00 ?_
      refine Y02 ?_
      ((refine ggb0 (F := _∧_∧_∧_∧_) ⟨hlt, hdh, hra, e0, e1⟩ ?_))
      ((repeat refine Y00 ?_); (refine Ydx (F := _∧_) ⟨hn1, hd1⟩ hw1 hLy ?_))
      refine gga0 ?_
      refine ⟨(true, k + 1, g, tt + 1 + 1), ⟨hlt, fun h => (by cases h), fun _ => by have := ho2 rfl; show 2 ≤ k + 1; omega, nxt hok⟩, by show r.hs.length - (k + 1) < r.hs.length - k; omega, ?_⟩
      simp only [alnS, ↓reduceIte, hc1]
      exact ele
   ·have hok : Y32 (endH r.hs.length k) x = false := by
     rw [hE]
     unfold Y32
     cases Y3h x.n x.d
     ·rfl
     ·simp
      intro h
      exact fun h2 => hone ⟨h, h2⟩
    rw [bad hx hok]
    have hne2 : (x.n == 1 && x.d == 1) = false := by
     rw [Bool.and_eq_false_iff]
     by_cases hn : x.n = 1
     ·right
      rw [beq_eq_false_iff_ne]
      exact fun h => hone ⟨hn, h⟩
     ·left
      rw [beq_eq_false_iff_ne]
      exact hn
    by_cases hk0 : k = 0
    ·have e0 : ((k : Int) == 0) = true := by simp [hk0]
     cases o
     rotate_left 1
     ·have := ho2 rfl
      omega
     simp only [alnS, Bool.false_eq_true, ↓reduceIte]
     ((refine ggb0 (F := _∧_) ⟨@Int.ofNat_lt, hlt⟩ ?_))
     repeat refine Y00 ?_
     refine Y02 ?_
     ((refine ggb0 (F := _∧_∧_∧_) ⟨hlt, hdh, hra, e0⟩ ?_))
     ((repeat refine Y00 ?_); (refine Ydx hne2 hw1 hLy ?_))
     refine gga0 ?_
     refine exq Tryz.results96 ?_
     rfl
    ·have e0 : ((k : Int) == 0) = false := by simpa using hk0
     have e1 := e1 hk0
     cases o
     ·simp only [alnS, Bool.false_eq_true, ↓reduceIte]
      ((refine ggb0 (F := _∧_) ⟨@Int.ofNat_lt, hlt⟩ ?_))
      repeat refine Y00 ?_
      refine Y02 ?_
      ((refine ggb0 (F := _∧_∧_∧_∧_) ⟨hlt, hdh, hra, e0, e1⟩ ?_))
      ((repeat refine Y00 ?_); (refine Ydx hne2 hw1 hLy ?_))
      refine gga0 ?_
      refine exq Tryz.results96 ?_
      rfl
     ·simp only [alnS, ↓reduceIte]
      ((refine ggb0 (F := _∧_) ⟨@Int.ofNat_lt, hlt⟩ ?_))
      repeat refine Y00 ?_
      refine Y02 ?_
      ((refine ggb0 (F := _∧_∧_∧_∧_) ⟨hlt, hdh, hra, e0, e1⟩ ?_))
      ((repeat refine Y00 ?_); (refine Ydx hne2 hw1 hLy ?_))
      refine gga0 ?_
      refine exq Tryz.results96 ?_
      rfl
  ·have hk0 : k ≠ 0 := fun h => hend (.inl h)
   have hkn : k + 1 < r.hs.length := by
    have : k + 1 ≠ r.hs.length := fun h => hend (.inr h)
    omega
   have hE := Yu3 (n := r.hs.length) (k := k) (by omega) hkn
   have e0 : ((k : Int) == 0) = false := by simpa using hk0
   have e1 : ((k : Int) == (r.hs.length : Int) - 1) = false := by rw [beq_eq_false_iff_ne]; omega
   cases hlo : Y3h x.n x.d
   ·have hok : Y32 (endH r.hs.length k) x = false := by unfold Y32; rw [hlo]; rfl
    rw [hlo] at hLy
    rw [bad hx hok]
    cases o
    ·simp only [alnS, Bool.false_eq_true, ↓reduceIte]
     ((refine ggb0 (F := _∧_) ⟨@Int.ofNat_lt, hlt⟩ ?_))
     repeat refine Y00 ?_
     refine Y02 ?_
     ((refine ggb0 (F := _∧_∧_∧_∧_) ⟨hlt, hdh, hra, e0, e1⟩ ?_))
     ((repeat refine Y00 ?_); (refine Ybe hw1 hLy ?_))
     refine gga0 ?_
     refine exq Tryz.results96 ?_
     rfl
    ·simp only [alnS, ↓reduceIte]
     ((refine ggb0 (F := _∧_) ⟨@Int.ofNat_lt, hlt⟩ ?_))
     repeat refine Y00 ?_
     refine Y02 ?_
     ((refine ggb0 (F := _∧_∧_∧_∧_) ⟨hlt, hdh, hra, e0, e1⟩ ?_))
     ((repeat refine Y00 ?_); (refine Ybe hw1 hLy ?_))
     refine gga0 ?_
     refine exq Tryz.results96 ?_
     rfl
   ·have hok : Y32 (endH r.hs.length k) x = true := by unfold Y32; rw [hlo, hE]; rfl
    rw [hlo] at hLy
    obtain ⟨j, rfl⟩ : ∃ j, k = j + 1 := ⟨k - 1, by omega⟩
    have hls : ∀ i h, 1 ≤ i → i ≤ j → r.hs[i]? = some h → Y3h h.n h.d = true := fun i h _ hi hh => Y3t (hal i h (by omega) hh)
    obtain ⟨n1, n2, n3⟩ := Ygf (hs := r.hs) (up := up) (k := j) (by omega) hls hx hlo
    have hfv := (Ye7 (up := up) j (by omega) hls).v
    have hlv := (Y69 hlo).v
    have hM := rMul (facK r.hs up j) (x.n, x.d)
    have hD := rDiv (facK r.hs up j) (x.n, x.d)
    rw [Ydo hfv hlv, n1] at hM
    rw [Yec hfv hlv, n2] at hD
    have hcj : alnC r.hs.length (j + 1) = j + 1 := by unfold alnC; omega
    have hcn : alnC r.hs.length (j + 1 + 1) = j + 1 + 1 := by unfold alnC; omega
    have hat := Yay r up (k := j + 1) (i := j) (by omega)
    have hrf := Y1p (facL r up (j + 1)) j _ hat
    have hll := Y1s (facL r up (j + 1))
    rw [Y7u] at hll
    have hsub : ((j + 1 : Nat) : Int) - 1 = (j : Int) := by omega
    have hpu := Yq9 r up (j + 1)
    have hap : frC (facL r up (j + 1)) ++ [int (facK r.hs up (j + 1)).1, int (facK r.hs up (j + 1)).2] = frC (facL r up (j + 1 + 1)) := by rw [hpu]; simp [frC]
    have hj1 : j < j + 1 := by omega
    rw [n3] at hap
    generalize (mulR (facK r.hs up j) (x.n, x.d)).1 = A at *
    generalize (divR (facK r.hs up j) (x.n, x.d)).1 = B at *
    have hll2 : (frC (facL r up (j + 1))).length / 2 = j + 1 := by omega
    have hdv : ((j + 1) * 2 + 2) / 2 = j + 1 + 1 := by omega
    cases o
    ·have hj0 : j = 0 := by have := ho1 rfl; omega
     have hfe : frC (facL r up (j + 1)) = [int 1, int 1] := by rw [hj0]; exact hf1
     have hcn2 : alnC r.hs.length (j + 1 + 1) = 2 := by rw [hcn, hj0]
     have hj2 : j < 1 := by omega
     rw [hfe] at hrf hap
     have hap := hap.symm
     simp only [List.cons_append, List.nil_append] at hap
     rw [show j + 1 + 1 = 2 by omega] at hap
     simp only [alnS, Bool.false_eq_true, ↓reduceIte, hcj, hfe]
     cases up
     ·simp only [Bool.false_eq_true, ↓reduceIte] at hap
      ((refine ggb0 (F := _∧_) ⟨@Int.ofNat_lt, hlt⟩ ?_))
      repeat refine Y00 ?_
      refine Y02 ?_
      ((refine ggb0 (F := _∧_∧_∧_∧_) ⟨hlt, hdh, hra, e0, e1⟩ ?_))
      ((repeat refine Y00 ?_); (refine Ybe hw1 hLy ?_))
      refine gga0 ?_
      ((repeat refine Y00 ?_); (refine Ybf (F := _∧_∧_) ⟨hsub, hj2, hrf⟩ hM ?_))
      refine gga0 ?_
      ((repeat refine Y00 ?_); (refine Y6h (F := _∧_∧_) ⟨hsub, hj2, hrf⟩ hD ?_))
      refine gga0 ?_
      refine ⟨(true, j + 1 + 1, tt + 1 + 1 + 1 + 1 + 1, tt + 1 + 1 + 1 + 1 + 1), ⟨hlt, fun h => (by cases h), fun _ => (by show 2 ≤ j + 1 + 1; omega), nxt hok⟩, by show r.hs.length - (j + 1 + 1) < r.hs.length - (j + 1); omega, ?_⟩
      simp only [alnS, ↓reduceIte, hcn2, hap]
      exact ele
     ·simp only [↓reduceIte] at hap
      ((refine ggb0 (F := _∧_) ⟨@Int.ofNat_lt, hlt⟩ ?_))
      repeat refine Y00 ?_
      refine Y02 ?_
      ((refine ggb0 (F := _∧_∧_∧_∧_) ⟨hlt, hdh, hra, e0, e1⟩ ?_))
      ((repeat refine Y00 ?_); (refine Ybe hw1 hLy ?_))
      refine gga0 ?_
      ((repeat refine Y00 ?_); (refine Ybf (F := _∧_∧_) ⟨hsub, hj2, hrf⟩ hM ?_))
      refine gga0 ?_
      refine gga0 ?_
      refine ⟨(true, j + 1 + 1, tt + 1 + 1 + 1 + 1, tt + 1 + 1 + 1 + 1), ⟨hlt, fun h => (by cases h), fun _ => (by show 2 ≤ j + 1 + 1; omega), nxt hok⟩, by show r.hs.length - (j + 1 + 1) < r.hs.length - (j + 1); omega, ?_⟩
      simp only [alnS, ↓reduceIte, hcn2, hap]
      exact ele
    ·simp only [alnS, ↓reduceIte, hcj]
     cases up
     ·simp only [Bool.false_eq_true, ↓reduceIte] at hap
      ((refine ggb0 (F := _∧_) ⟨@Int.ofNat_lt, hlt⟩ ?_))
      repeat refine Y00 ?_
      refine Y02 ?_
      ((refine ggb0 (F := _∧_∧_∧_∧_) ⟨hlt, hdh, hra, e0, e1⟩ ?_))
      ((repeat refine Y00 ?_); (refine Ybe hw1 hLy ?_))
      refine gga0 ?_
      ((repeat refine Y00 ?_); (refine Ybf (F := _∧_∧_∧_∧_) ⟨hsub, hll, hll2, hj1, hrf⟩ hM ?_))
      refine gga0 ?_
      ((repeat refine Y00 ?_); (refine Y6h (F := _∧_∧_∧_∧_) ⟨hsub, hll, hll2, hj1, hrf⟩ hD ?_))
      ((refine ggb0 (F := _∧_∧_∧_) ⟨hap, hll, hll2, hdv⟩ ?_))
      refine ⟨(true, j + 1 + 1, tt + 1 + 1 + 1 + 1 + 1, tt + 1 + 1 + 1 + 1 + 1), ⟨hlt, fun h => (by cases h), fun _ => (by show 2 ≤ j + 1 + 1; omega), nxt hok⟩, by show r.hs.length - (j + 1 + 1) < r.hs.length - (j + 1); omega, ?_⟩
      simp only [alnS, ↓reduceIte, hcn]
      exact ele
     ·simp only [↓reduceIte] at hap
      ((refine ggb0 (F := _∧_) ⟨@Int.ofNat_lt, hlt⟩ ?_))
      repeat refine Y00 ?_
      refine Y02 ?_
      ((refine ggb0 (F := _∧_∧_∧_∧_) ⟨hlt, hdh, hra, e0, e1⟩ ?_))
      ((repeat refine Y00 ?_); (refine Ybe hw1 hLy ?_))
      refine gga0 ?_
      ((repeat refine Y00 ?_); (refine Ybf (F := _∧_∧_∧_∧_) ⟨hsub, hll, hll2, hj1, hrf⟩ hM ?_))
      ((refine ggb0 (F := _∧_∧_∧_) ⟨hap, hll, hll2, hdv⟩ ?_))
      refine ⟨(true, j + 1 + 1, tt + 1 + 1 + 1 + 1, tt + 1 + 1 + 1 + 1), ⟨hlt, fun h => (by cases h), fun _ => (by show 2 ≤ j + 1 + 1; omega), nxt hok⟩, by show r.hs.length - (j + 1 + 1) < r.hs.length - (j + 1); omega, ?_⟩
      simp only [alnS, ↓reduceIte, hcn]
      exact ele
 ·have hke : k = r.hs.length := by omega
  subst hke
  have hr : Y25 r = true := Yfc ⟨n2, n10⟩ fun i h hi => hal i h (List.getElem?_eq_some_iff.1 hi).1 hi
  have e : Y1u r up = (facL r up (r.hs.length - 1), 0) := by unfold Y1u; rw [if_pos hr]
  have hcn : alnC r.hs.length r.hs.length = r.hs.length - 1 := by unfold alnC; omega
  rw [e]
  cases o
  ·have hm1 : r.hs.length - 1 = 1 := by have := ho1 rfl; rw [hcn] at this; exact this
   rw [hm1]
   simp only [alnS, Bool.false_eq_true, ↓reduceIte, hcn, hm1, hf1]
   refine ggb0 @Int.lt_irrefl ?_
   refine exq Tryz.results96 ?_
   rfl
  ·simp only [alnS, ↓reduceIte, hcn]
   have hlen := Y7u r up (r.hs.length - 1)
   generalize facL r up (r.hs.length - 1) = W at *
   have hlw := Y1s W
   rw [hlen] at hlw
   have hfin : List.take ((r.hs.length - 1) * 2) (frC W) = frC W := List.take_of_length_le (by omega)
   refine wqb @Int.lt_irrefl ?_
   refine wia ?_
   refine wxa ?_
   ((refine AW.freeze (3) (by first | rfl | (simp only [setH, List.getElem?_cons_zero, List.getElem?_cons_succ, Yly, Y5x, hfin, hlw, Nat.le_refl]; done)) ?_); simp (disch := omega) only [fzT, fz, fzL, Y0p, Y0y, fzH, fzB, eq_self, bb, bt, zDs, zD, Y01, simprocAttr, Yly, Y5x, hfin, hlw, Nat.le_refl])
   refine gga0 ?_
   ((repeat refine Y00 ?_); (refine wta ?_); simp (disch := omega) only [retQ, resD, oneD, bb, bt, zDs, zD, Y01, simprocAttr, Tryz.results96])
   exact Y2c _ _ (by simp only [Y2w, Y37, Y8a, Bool.not_false, Bool.and_self])
end Go.Proofs.YtpbpafmgkdihlaaGreatDoor.T
