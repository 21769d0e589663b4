import Derived.Test.YtpbpafmgkdihlaaGreatDoorQALGFW
import Derived.Test.YtpbpafmgkdihlaaGreatDoorQSG
set_option linter.all false
namespace Go.Proofs.YtpbpafmgkdihlaaGreatDoor.T
open Go Go.RowKit Lin
theorem Yr8 (l : List Bk) : (bkC l).all Y26 = true := by
 induction l with
 | nil => rfl
 | cons x r ih => simp only [bkC, List.flatMap_cons, List.all_append, Bool.and_eq_true] at ih ⊢; exact ⟨rfl, ih⟩
def chW (f : Nat → Bk → Int) (l : List Bk) : Nat → List Bk
 | 0 => l
 | k + 1 => match l[k]? with
  | some b => (chW f l k).set k ⟨b.nm, f k b⟩
  | none => chW f l k
theorem Yb3 (f : Nat → Bk → Int) (l : List Bk) : ∀ k, (chW f l k).length = l.length
 | 0 => rfl
 | k + 1 => by
  simp only [chW]
  split
  ·rw [List.length_set, Yb3 f l k]
  ·exact Yb3 f l k
theorem Yip (f : Nat → Bk → Int) (l : List Bk) : ∀ (k i : Nat) (b : Bk), l[i]? = some b → (chW f l k)[i]? = some (if i < k then ⟨b.nm, f i b⟩ else b)
 | 0, i, b, h => by rw [if_neg (by omega)]; exact h
 | k + 1, i, b, h => by
  have ih := Yip f l k i b h
  have hi := (List.getElem?_eq_some_iff.1 h).1
  simp only [chW]
  by_cases e : k = i
  ·subst e
   rw [h]
   simp only
   rw [List.getElem?_set_self (by rw [Yb3]; exact hi), if_pos (by omega)]
  ·have : (match l[k]? with | some b => (chW f l k).set k ⟨b.nm, f k b⟩ | none => chW f l k)[i]? = (chW f l k)[i]? := by
    split
    ·rw [List.getElem?_set_ne e]
    ·rfl
   rw [this, ih]
   by_cases e2 : i < k
   ·rw [if_pos e2, if_pos (by omega)]
   ·rw [if_neg e2, if_neg (by omega)]
theorem Yxo {f : Nat → Bk → Int} {l : List Bk} {k : Nat} {b : Bk} (h : l[k]? = some b) : chW f l (k + 1) = (chW f l k).set k ⟨b.nm, f k b⟩ := by simp only [chW, h]
theorem Y103 {f : Nat → Bk → Int} {l : List Bk} {k : Nat} {b : Bk} (h : l[k]? = some b) : (chW f l k)[k]? = some b := by
 rw [Yip f l k k b h, if_neg (by omega)]
theorem Yr3 (f : Nat → Bk → Int) (l : List Bk) : chW f l l.length = l.mapIdx fun i b => ⟨b.nm, f i b⟩ := by
 refine List.ext_getElem? fun i => ?_
 rw [List.getElem?_mapIdx]
 cases h : l[i]? with
 | none => rw [List.getElem?_eq_none (by rw [Yb3]; exact List.getElem?_eq_none_iff.1 h)]; rfl
 | some b => rw [Yip f l _ i b h, if_pos (List.getElem?_eq_some_iff.1 h).1]; rfl
theorem Yvk {l : List Bk} {i : Nat} {b : Bk} (h : l[i]? = some b) (w : Int) : (bkC l).set (i * 2 + 1) (int w) = bkC (l.set i ⟨b.nm, w⟩) := by
 have h1 := Yxq l i ⟨b.nm, w⟩ (List.getElem?_eq_some_iff.1 h).1
 have hl := Y1z l
 have hi := (List.getElem?_eq_some_iff.1 h).1
 have h2 := Y4r l i b h
 rw [← h1]
 have e : bkC l = (bkC l).take (i * 2) ++ ([str b.nm, int b.w] ++ (bkC l).drop (i * 2 + 2)) := by
  have : [str b.nm, int b.w] = ((bkC l).drop (i * 2)).take 2 := h2.symm
  rw [this, ← List.drop_drop, List.take_append_drop, List.take_append_drop]
 have hlt : ((bkC l).take (i * 2)).length = i * 2 := by simp; omega
 conv => lhs; rw [e]
 rw [List.set_append_right _ _ (by omega), hlt, show i * 2 + 1 - i * 2 = 1 by omega]
 simp
theorem Yvl {l : List Bk} {i : Nat} {b : Bk} (h : l[i]? = some b) : (bkC l)[i * 2]? = some (str b.nm) := Yej l i b h
theorem mul0 {a b : Int × Int} (h : (mulP a b).2 = 0) : Y09 a.1 a.2 = true ∧ Y09 b.1 b.2 = true ∧ mulP a b = mulR a b ∧ (mulR a b).2 = 0 := by
 unfold mulP at h ⊢
 split at h
 ·rename_i h1
  rw [if_pos h1]
  exact ⟨h1.1, h1.2, rfl, h⟩
 ·simp at h
theorem add0 {a b : Int × Int} (h : (addP a b).2 = 0) : Y09 a.1 a.2 = true ∧ Y09 b.1 b.2 = true ∧ addP a b = addR a b ∧ (addR a b).2 = 0 := by
 unfold addP at h ⊢
 split at h
 ·rename_i h1
  rw [if_pos h1]
  exact ⟨h1.1, h1.2, rfl, h⟩
 ·simp at h
theorem mul5 {a b : Int × Int} (ha : Y09 a.1 a.2 = true) (hb : Y09 b.1 b.2 = true) (h : (mulP a b).2 ≠ 5) : (mulP a b).2 = 0 := by
 rw [Ydo ha hb] at h ⊢
 rcases Ydn ha hb with e | e
 ·exact e
 ·exact absurd e h
theorem add5 {a b : Int × Int} (ha : Y09 a.1 a.2 = true) (hb : Y09 b.1 b.2 = true) (h : (addP a b).2 ≠ 5) : (addP a b).2 = 0 := by
 rw [Yrm ha hb] at h ⊢
 rcases Ykl ha hb with e | e
 ·exact e
 ·exact absurd e h
theorem div5 {a b : Int × Int} (ha : Y09 a.1 a.2 = true) (hb : Y09 b.1 b.2 = true) (h0 : b.1 ≠ 0) (h : (divP a b).2 ≠ 5) : (divP a b).2 = 0 := by
 rw [Yec ha hb] at h ⊢
 rcases Yk9 ha hb with ⟨e, _⟩ | ⟨_, e | e⟩
 ·exact absurd e h0
 ·exact e
 ·exact absurd e h
theorem Yp6 {a b : Int × Int} (h : (mulP a b).2 = 0) : Y09 (mulP a b).1.1 (mulP a b).1.2 = true := by
 obtain ⟨h1, h2, e, h3⟩ := mul0 h
 rw [e]
 exact Y8g h1 h2 h3
theorem Yur {a b : Int × Int} (h : (addP a b).2 = 0) : Y09 (addP a b).1.1 (addP a b).1.2 = true := by
 obtain ⟨h1, h2, e, h3⟩ := add0 h
 rw [e]
 exact Y6d h1 h2 h3
theorem Val.mulP {a b : Int × Int} {p q r s : Int} (h : Val a p q) (k : Val b r s) (ok : (T.mulP a b).2 = 0) : Val (T.mulP a b).1 (p * r) (q * s) := by
 obtain ⟨h1, h2, e, h3⟩ := mul0 ok
 rw [e]
 exact h.mul k h3
theorem Val.addP {a b : Int × Int} {p q r s : Int} (h : Val a p q) (k : Val b r s) (ok : (T.addP a b).2 = 0) : Val (T.addP a b).1 (p * s + r * q) (q * s) := by
 obtain ⟨h1, h2, e, h3⟩ := add0 ok
 rw [e]
 exact h.add k h3
theorem Val.divP {a b : Int × Int} {p q r s : Int} (h : Val a p q) (k : Val b r s) (ok : (T.divP a b).2 = 0) : Val (T.divP a b).1 (p * s) (q * r) := by
 obtain ⟨h1, h2, h0, e⟩ := Y7y ok
 rw [e] at ok ⊢
 exact h.div k h0 ok
def Twi (x y : Int × Int) : Prop := ∃ p q, Val x p q ∧ Val y (2 * p) q
theorem Twi.vl {x y : Int × Int} (h : Twi x y) : Y09 x.1 x.2 = true := by obtain ⟨p, q, a, b⟩ := h; exact a.v
theorem Twi.vr {x y : Int × Int} (h : Twi x y) : Y09 y.1 y.2 = true := by obtain ⟨p, q, a, b⟩ := h; exact b.v
theorem Twi.zero : Twi (0, 1) (0, 1) := ⟨0, 1, Val.one (by omega), Val.one (by omega)⟩
theorem Twi.cross {x y : Int × Int} (h : Twi x y) : 2 * (x.1 * y.2) = y.1 * x.2 := by
 obtain ⟨p, q, a, b⟩ := h
 refine Y4i (c := q) a.n0 ?_
 have h1 := a.e
 have h2 := b.e
 calc 2 * (x.1 * y.2) * q = 2 * y.2 * (x.1 * q) := by ac_rfl
  _ = 2 * y.2 * (p * x.2) := by rw [h1]
  _ = x.2 * (2 * p * y.2) := by ac_rfl
  _ = x.2 * (y.1 * q) := by rw [h2]
  _ = y.1 * x.2 * q := by ac_rfl
theorem Twi.neg {x y : Int × Int} (h : Twi x y) : x.1 < 0 ↔ y.1 < 0 := by
 have hc := h.cross
 have h1 := (Y0c h.vl).1
 have h2 := (Y0c h.vr).1
 constructor
 ·intro hx
  have : x.1 * y.2 < 0 := Int.mul_neg_of_neg_of_pos hx (by omega)
  refine Int.not_le.1 fun hy => ?_
  have : 0 ≤ y.1 * x.2 := Int.mul_nonneg hy (by omega)
  omega
 ·intro hy
  have : y.1 * x.2 < 0 := Int.mul_neg_of_neg_of_pos hy (by omega)
  refine Int.not_le.1 fun hx => ?_
  have : 0 ≤ x.1 * y.2 := Int.mul_nonneg hx (by omega)
  omega
theorem Twi.nz {x y : Int × Int} (h : Twi x y) : x.1 = 0 ↔ y.1 = 0 := by
 have hc := h.cross
 have h1 := (Y0c h.vl).1
 have h2 := (Y0c h.vr).1
 constructor
 ·intro hx
  rw [hx, Int.zero_mul] at hc
  rcases Int.mul_eq_zero.1 hc.symm with e | e
  ·exact e
  ·omega
 ·intro hy
  rw [hy, Int.zero_mul] at hc
  have : x.1 * y.2 = 0 := by omega
  rcases Int.mul_eq_zero.1 this with e | e
  ·exact e
  ·omega
theorem Twi.eq {x y a b : Int × Int} (h : Twi x y) (k : Twi a b) : x = a ↔ y = b := by
 obtain ⟨p, q, h1, h2⟩ := h
 obtain ⟨r, s, k1, k2⟩ := k
 constructor
 ·intro e
  subst e
  have := h1.same k1
  exact h2.eq k2 (by rw [Int.mul_assoc, Int.mul_assoc, this])
 ·intro e
  subst e
  have := h2.same k2
  rw [Int.mul_assoc, Int.mul_assoc] at this
  exact h1.eq k1 (by omega)
theorem Twi.mulL {a x y : Int × Int} (h : Twi x y) (h1 : (mulP a x).2 = 0) (h2 : (mulP a y).2 = 0) : Twi (mulP a x).1 (mulP a y).1 := by
 obtain ⟨p, q, k1, k2⟩ := h
 have va := Val.self (mul0 h1).1
 refine ⟨_, _, va.mulP k1 h1, ?_⟩
 rw [show 2 * (a.1 * p) = a.1 * (2 * p) by ac_rfl]
 exact va.mulP k2 h2
theorem Twi.mulRt {a x y : Int × Int} (h : Twi x y) (h1 : (mulP x a).2 = 0) (h2 : (mulP y a).2 = 0) : Twi (mulP x a).1 (mulP y a).1 := by
 obtain ⟨p, q, k1, k2⟩ := h
 have va := Val.self (mul0 h1).2.1
 refine ⟨_, _, k1.mulP va h1, ?_⟩
 rw [show 2 * (p * a.1) = 2 * p * a.1 by ac_rfl]
 exact k2.mulP va h2
theorem Twi.add {x y a b : Int × Int} (h : Twi x y) (k : Twi a b) (h1 : (addP x a).2 = 0) (h2 : (addP y b).2 = 0) : Twi (addP x a).1 (addP y b).1 := by
 obtain ⟨p, q, k1, k2⟩ := h
 obtain ⟨r, s, l1, l2⟩ := k
 refine ⟨_, _, k1.addP l1 h1, ?_⟩
 rw [show 2 * (p * s + r * q) = 2 * p * s + 2 * r * q by grind]
 exact k2.addP l2 h2
theorem Twi.div {x y a : Int × Int} (h : Twi x y) (h1 : (divP x a).2 = 0) (h2 : (divP y a).2 = 0) : Twi (divP x a).1 (divP y a).1 := by
 obtain ⟨p, q, k1, k2⟩ := h
 have va := Val.self (Y7y h1).2.1
 refine ⟨_, _, k1.divP va h1, ?_⟩
 rw [show 2 * (p * a.2) = 2 * p * a.2 by ac_rfl]
 exact k2.divP va h2
theorem Twi.two {x y : Int × Int} (h : Twi x y) (h1 : (mulP x (2, 1)).2 = 0) : (mulP x (2, 1)).1 = y := by
 obtain ⟨p, q, k1, k2⟩ := h
 exact (k1.mulP (Val.one (by omega)) h1).eq k2 (by grind)
def TwL : List (Int × Int) → List (Int × Int) → Prop
 | [], [] => True
 | x :: l, y :: m => Twi x y ∧ TwL l m
 | _, _ => False
theorem TwL.len : ∀ {l m : List (Int × Int)}, TwL l m → l.length = m.length
 | [], [], _ => rfl
 | _ :: l, _ :: m, h => by simp [TwL.len (l := l) (m := m) h.2]
 | [], _ :: _, h => h.elim
 | _ :: _, [], h => h.elim
theorem TwL.push {x y : Int × Int} (hx : Twi x y) : ∀ {l m : List (Int × Int)}, TwL l m → TwL (l ++ [x]) (m ++ [y])
 | [], [], _ => ⟨hx, trivial⟩
 | _ :: l, _ :: m, h => ⟨h.1, TwL.push hx (l := l) (m := m) h.2⟩
 | [], _ :: _, h => h.elim
 | _ :: _, [], h => h.elim
theorem TwL.at : ∀ {l m : List (Int × Int)} (k : Nat), TwL l m → k < l.length → Twi (l.getD k (0, 0)) (m.getD k (0, 0))
 | [], [], _, _, h => absurd h (by simp)
 | _ :: l, _ :: m, 0, h, _ => h.1
 | _ :: l, _ :: m, k + 1, h, hk => TwL.at (l := l) (m := m) k h.2 (by simp at hk; omega)
 | [], _ :: _, _, h, _ => h.elim
 | _ :: _, [], _, h, _ => h.elim
theorem TwL.any : ∀ {l m : List (Int × Int)}, TwL l m → (l.any fun x => x.1 != 0) = m.any fun x => x.1 != 0
 | [], [], _ => rfl
 | x :: l, y :: m, h => by
  have e : (x.1 != 0) = (y.1 != 0) := by
   have := h.1.nz
   rw [Bool.eq_iff_iff]
   simp [this]
  rw [List.any_cons, List.any_cons, TwL.any (l := l) (m := m) h.2, e]
 | [], _ :: _, h => h.elim
 | _ :: _, [], h => h.elim
theorem Ydl (l : List (Int × Int)) : nzI l < 0 ↔ (l.any fun x => x.1 != 0) = false := by
 have := Yao (fun x : Int × Int => x.1 != 0) l 0
 unfold nzI
 rw [← this, decide_eq_false_iff_not]
 omega
theorem Yoy {l : List (Int × Int)} (h : ¬ nzI l < 0) : (nzI l).toNat < l.length ∧ (l.getD (nzI l).toNat (0, 0)).1 ≠ 0 ∧ l.getD (nzI l).toNat (0, 0) ∈ l := by
 rw [Ydl, Bool.not_eq_false] at h
 obtain ⟨k, x, e, hk, hx⟩ := (Y8x (fun x : Int × Int => x.1 != 0) l 0).1 h
 have e' : (nzI l).toNat = k := by unfold nzI; rw [e]; simp
 rw [e', List.getD_eq_getElem?_getD, hk, Option.getD_some]
 exact ⟨(List.getElem?_eq_some_iff.1 hk).1, by simpa using hx, List.mem_of_getElem? hk⟩
theorem Ycl : ∀ (a b : List (Int × Int)) (s : Int × Int), Y09 s.1 s.2 = true → (dotV a b s).2 = 0 → Y09 (dotV a b s).1.1 (dotV a b s).1.2 = true
 | [], _, s, hs, _ => by simpa [dotV] using hs
 | _ :: _, [], s, hs, _ => by simpa [dotV] using hs
 | x :: a, y :: b, s, hs, h => by
  simp only [dotV] at h ⊢
  by_cases h1 : (mulP x y).2 = 0
  ·rw [if_pos h1] at h ⊢
   by_cases h2 : (addP s (mulP x y).1).2 = 0
   ·rw [if_pos h2] at h ⊢
    exact Ycl a b _ (Yur h2) h
   ·rw [if_neg h2] at h
    exact absurd h h2
  ·rw [if_neg h1] at h
   exact absurd h h1
theorem Yk8 : ∀ (v l m : List (Int × Int)) (s u : Int × Int), (∀ x ∈ v, Y09 x.1 x.2 = true) → TwL l m → Twi s u → (dotV v l s).2 ≠ 5 → (dotV v m u).2 ≠ 5 → (dotV v l s).2 = 0 ∧ (dotV v m u).2 = 0 ∧ Twi (dotV v l s).1 (dotV v m u).1
 | [], l, m, s, u, _, _, hs, _, _ => by cases l <;> cases m <;> exact ⟨rfl, rfl, hs⟩
 | _ :: _, [], [], s, u, _, _, hs, _, _ => ⟨rfl, rfl, hs⟩
 | _ :: _, [], _ :: _, _, _, _, h, _, _, _ => h.elim
 | _ :: _, _ :: _, [], _, _, _, h, _, _, _ => h.elim
 | x :: v, a :: l, b :: m, s, u, hv, hl, hs, h1, h2 => by
  have vx := hv x (by simp)
  simp only [dotV] at h1 h2 ⊢
  have m1 : (mulP x a).2 = 0 := by
   refine mul5 vx hl.1.vl fun e => h1 ?_
   rw [if_neg (by omega), e]
  have m2 : (mulP x b).2 = 0 := by
   refine mul5 vx hl.1.vr fun e => h2 ?_
   rw [if_neg (by omega), e]
  rw [if_pos m1] at h1 ⊢
  rw [if_pos m2] at h2 ⊢
  have ht := hl.1.mulL m1 m2
  have a1 : (addP s (mulP x a).1).2 = 0 := by
   refine add5 hs.vl ht.vl fun e => h1 ?_
   rw [if_neg (by omega), e]
  have a2 : (addP u (mulP x b).1).2 = 0 := by
   refine add5 hs.vr ht.vr fun e => h2 ?_
   rw [if_neg (by omega), e]
  rw [if_pos a1] at h1 ⊢
  rw [if_pos a2] at h2 ⊢
  exact Yk8 v l m _ _ (fun y hy => hv y (by simp [hy])) hl.2 (hs.add ht a1 a2) h1 h2
theorem Yfo {l m grip : List (Int × Int)} (hl : TwL l m) : ∀ (L : List (List (Int × Int))) (w u p : List (Int × Int)), (∀ v ∈ L, ∀ x ∈ v, Y09 x.1 x.2 = true) → TwL w u → (∀ x ∈ p, Y09 x.1 x.2 = true) → w.length = p.length → (Y2n l grip L w p).2 ≠ 5 → (Y2n m grip L u p).2 ≠ 5 →
    (Y2n l grip L w p).2 = (Y2n m grip L u p).2 ∧ ((Y2n l grip L w p).2 = 0 → TwL (Y2n l grip L w p).1.1 (Y2n m grip L u p).1.1 ∧ (Y2n m grip L u p).1.2 = (Y2n l grip L w p).1.2 ∧ (∀ x ∈ (Y2n l grip L w p).1.2, Y09 x.1 x.2 = true) ∧ (Y2n l grip L w p).1.1.length = (Y2n l grip L w p).1.2.length)
  | [], w, u, p, _, hw, hp, hlen, _, _ => ⟨rfl, fun _ => ⟨hw, rfl, hp, hlen⟩⟩
  | v :: L, w, u, p, hL, hw, hp, hlen, h1, h2 => by
    have vv := hL v (by simp)
    simp only [Y2n] at h1 h2 ⊢
    have q1' : (dotV v l (0, 1)).2 ≠ 5 := fun e => h1 (by rw [if_neg (by omega), e])
    have q2' : (dotV v m (0, 1)).2 ≠ 5 := fun e => h2 (by rw [if_neg (by omega), e])
    obtain ⟨d1, d2, dt⟩ := Yk8 v l m _ _ vv hl Twi.zero q1' q2'
    rw [if_pos d1] at h1 ⊢
    rw [if_pos d2] at h2 ⊢
    by_cases hg : (dotV v grip (0, 1)).2 = 0
    · rw [if_pos hg] at h1 h2 ⊢
      rw [if_pos hg]
      refine Yfo hl L _ _ _ (fun y hy => hL y (by simp [hy])) (hw.push dt) (fun x hx => ?_) (by simp [hlen]) h1 h2
      rcases List.mem_append.1 hx with hx | hx
      · exact hp x hx
      · rw [List.mem_singleton] at hx
        subst hx
        exact Ycl _ _ _ (by decide) hg
    · rw [if_neg hg, if_neg hg]
      exact ⟨rfl, fun e => absurd e hg⟩
theorem Yke {t u : Int × Int} (ht : Twi t u) : ∀ (p w z : List (Int × Int)) (ok : Bool), (∀ x ∈ p, Y09 x.1 x.2 = true) → TwL w z → (balR t p w ok).2 ≠ 5 → (balR u p z ok).2 ≠ 5 → (balR t p w ok).2 = 0 ∧ balR u p z ok = balR t p w ok
 | [], w, z, ok, _, _, _, _ => by cases w <;> cases z <;> exact ⟨rfl, rfl⟩
 | _ :: _, [], [], ok, _, _, _, _ => ⟨rfl, rfl⟩
 | _ :: _, [], _ :: _, _, _, h, _, _ => h.elim
 | _ :: _, _ :: _, [], _, _, h, _, _ => h.elim
 | x :: p, a :: w, b :: z, ok, hp, hw, h1, h2 => by
  have vx := hp x (by simp)
  simp only [balR] at h1 h2 ⊢
  have m1 : (mulP x t).2 = 0 := by
   refine mul5 vx ht.vl fun e => h1 ?_
   rw [if_neg (by omega), e]
  have m2 : (mulP x u).2 = 0 := by
   refine mul5 vx ht.vr fun e => h2 ?_
   rw [if_neg (by omega), e]
  rw [if_pos m1] at h1 ⊢
  rw [if_pos m2] at h2 ⊢
  have e : decide ((mulP x u).1 = b) = decide ((mulP x t).1 = a) := decide_eq_decide.2 ((ht.mulL m1 m2).eq hw.1).symm
  rw [e] at h2 ⊢
  exact Yke ht p w z _ (fun y hy => hp y (by simp [hy])) hw.2 h1 h2
theorem Yuh {w u p : List (Int × Int)} (hw : TwL w u) (hp : ∀ x ∈ p, Y09 x.1 x.2 = true) (hlen : w.length = p.length) (h1 : (balP w p).2 ≠ 5) (h2 : (balP u p).2 ≠ 5) : (balP w p).2 = (balP u p).2 ∧ ((balP w p).2 = 0 → Twi (balP w p).1 (balP u p).1) := by
 unfold balP at h1 h2 ⊢
 by_cases hn : nzI p < 0
 ·rw [if_pos hn, if_pos hn]
  have e : (nzI w < 0) ↔ (nzI u < 0) := by rw [Ydl, Ydl, hw.any]
  by_cases h : nzI w < 0
  ·rw [if_pos h, if_pos (e.1 h)]
   exact ⟨rfl, fun h => by simp at h⟩
  ·rw [if_neg h, if_neg fun k => h (e.2 k)]
   exact ⟨rfl, fun h => by simp at h⟩
 ·rw [if_neg hn] at h1 h2 ⊢
  rw [if_neg hn]
  obtain ⟨hk, hnz, hmem⟩ := Yoy hn
  have hx := hw.at (nzI p).toNat (by omega)
  have vp := hp _ hmem
  generalize p.getD (nzI p).toNat (0, 0) = c at *
  generalize w.getD (nzI p).toNat (0, 0) = a at *
  generalize u.getD (nzI p).toNat (0, 0) = b at *
  have d1 : (divP a c).2 = 0 := by
   refine div5 hx.vl vp hnz fun e => h1 ?_
   rw [if_neg (by omega), e]
  have d2 : (divP b c).2 = 0 := by
   refine div5 hx.vr vp hnz fun e => h2 ?_
   rw [if_neg (by omega), e]
  rw [if_pos d1] at h1 ⊢
  rw [if_pos d2] at h2 ⊢
  have ht := hx.div d1 d2
  generalize (divP a c).1 = t at *
  generalize (divP b c).1 = t' at *
  have b1 : (balR t p w true).2 ≠ 5 := fun e => h1 (by rw [if_neg (by omega), e])
  have b2 : (balR t' p u true).2 ≠ 5 := fun e => h2 (by rw [if_neg (by omega), e])
  obtain ⟨r1, r2⟩ := Yke ht p w u true hp hw b1 b2
  rw [r2, if_pos r1, if_pos r1]
  by_cases hb : (balR t p w true).1 = false
  ·rw [if_pos hb, if_pos hb]
   exact ⟨rfl, fun h => by simp at h⟩
  ·rw [if_neg hb, if_neg hb]
   by_cases hs : t.1 < 0
   ·rw [if_pos hs, if_pos (ht.neg.1 hs)]
    exact ⟨rfl, fun h => by simp at h⟩
   ·rw [if_neg hs, if_neg fun k => hs (ht.neg.2 k)]
    exact ⟨rfl, fun _ => ht⟩
def dblB (bs : List Bk) : List Bk := chW (fun _ b => b.w * 2) bs bs.length
def dblS (s : Sy) : Sy := ⟨dblB s.bs, s.rs⟩
theorem Yxd (bs : List Bk) : dblB bs = bs.map fun b => ⟨b.nm, b.w * 2⟩ := by
 unfold dblB
 rw [Yr3]
 refine List.ext_getElem? fun i => ?_
 rw [List.getElem?_mapIdx, List.getElem?_map]
theorem Ycc {f : Bk → Bk} (h : ∀ b, (f b).nm = b.nm) (r : Rp) (up : Bool) : ∀ (bs : List Bk) (acc : List (Int × Int)), Y1i r up (bs.map f) acc = Y1i r up bs acc
 | [], _ => rfl
 | b :: l, acc => by
  simp only [List.map_cons, Y1i, h b]
  rw [Ycc h r up l]
theorem Yt3 {s : Sy} {f : Bk → Bk} (h : ∀ b, (f b).nm = b.nm) : matS ⟨s.bs.map f, s.rs⟩ = matS s := by
 unfold matS
 rw [List.map_map]
 refine List.map_congr_left fun b _ => ?_
 simp only [Function.comp, h b]
theorem Yws {s : Sy} (hv : Y0g s = true) : ∀ v ∈ (Y12 s).1, ∀ x ∈ v, Y09 x.1 x.2 = true := by
 intro v hvm x hx
 obtain ⟨k, hk⟩ := List.mem_iff_getElem?.1 hx
 have ok := Y0h hv
 unfold Y12 at hvm
 rw [if_pos hv] at hvm
 by_cases hf : fixA s = []
 ·rw [if_pos hf] at hvm
  obtain ⟨i, _, rfl⟩ := List.mem_map.1 hvm
  obtain ⟨j, _, rfl⟩ := List.mem_map.1 hx
  simp only
  split <;> decide
 ·rw [if_neg hf] at hvm
  obtain ⟨rv, _, _⟩ := Y54 ok hf (by have := Y6b s.rs (-1) s.rs.length; unfold fixA; have := ok.r6; omega) (fun i hi => Y8k hi)
  obtain ⟨_, Z, D, _, _, hval⟩ := Yfz rv hvm
  exact (hval k x hk).v
theorem twice {s : Sy} (hv : Y0g s = true) (hd : Y0g (dblS s) = true) (up : Bool) (h1 : (Y07 s up).2 ≠ 5) (h2 : (Y07 (dblS s) up).2 ≠ 5) : (Y07 s up).2 = (Y07 (dblS s) up).2 ∧ ((Y07 s up).2 = 0 → Twi (Y07 s up).1 (Y07 (dblS s) up).1) ∧ ((Y07 s up).2 ≠ 0 → (Y07 s up).1 = (0, 0) ∧ (Y07 (dblS s) up).1 = (0, 0)) := by
 have ok := Y0h hv
 have okd := Y0h hd
 have eb : (dblS s).bs = s.bs.map fun b => ⟨b.nm, b.w * 2⟩ := Yxd s.bs
 have er : (dblS s).rs = s.rs := rfl
 have es : dblS s = ⟨s.bs.map fun b => ⟨b.nm, b.w * 2⟩, s.rs⟩ := by rw [← eb]; rfl
 have ex : hix (dblS s) = hix s := rfl
 have eg : givL (dblS s) = givL s := by
  unfold givL
  rw [if_pos hv, if_pos hd, ex, er]
 have eh : hauR (dblS s) = hauR s := rfl
 have em : matS (dblS s) = matS s := by rw [es]; exact Yt3 fun _ => rfl
 have ef : fixA (dblS s) = fixA s := rfl
 have et : trS (dblS s) = trS s := by unfold trS; rw [em, er]
 have eM : (Y12 (dblS s)).1 = (Y12 s).1 := by
  unfold Y12 Y2m
  rw [if_pos hv, if_pos hd, ef, et, eb, List.length_map]
 have eG : ∀ r, Y1i r up (dblS s).bs [] = Y1i r up s.bs [] := fun r => by rw [eb]; exact Ycc (f := fun b => ⟨b.nm, b.w * 2⟩) (fun _ => rfl) r up s.bs []
 have hT : ∀ (l : List Bk), (∀ b ∈ l, 0 ≤ b.w ∧ b.w ≤ 16777216) → TwL (l.map fun b => (b.w, (1 : Int))) ((l.map fun b => (⟨b.nm, b.w * 2⟩ : Bk)).map fun b => (b.w, 1)) := by
  intro l
  induction l with
  | nil => intro _; trivial
  | cons b l ih =>
   intro hw
   refine ⟨⟨b.w, 1, Val.one (by have := hw b (by simp); omega), ?_⟩, ih fun c hc => hw c (by simp [hc])⟩
   have := hw b (by simp)
   rw [Int.mul_comm]
   exact Val.one (by simp only; omega)
 have hL : TwL (Y6w s) (Y6w (dblS s)) := by
  unfold Y6w
  rw [eb]
  exact hT s.bs ok.wts
 have hpair := Yfo (grip := (Y1i (hauR s) up s.bs []).1) hL (Y12 s).1 [] [] [] (Yws hv) trivial (by simp) rfl
 have ep : prsP (dblS s) up = Y2n (Y6w (dblS s)) (Y1i (hauR s) up s.bs []).1 (Y12 s).1 [] [] := by unfold prsP; rw [eh, eG, eM]
 have ep0 : prsP s up = Y2n (Y6w s) (Y1i (hauR s) up s.bs []).1 (Y12 s).1 [] [] := rfl
 rw [← ep, ← ep0] at hpair
 have key : (Y0r s up).2.2 ≠ 5 → (Y0r (dblS s) up).2.2 ≠ 5 → (Y0r s up).2.2 = (Y0r (dblS s) up).2.2 ∧ ((Y0r s up).2.2 = 0 → Twi (Y0r s up).1 (Y0r (dblS s) up).1 ∧ (Y0r (dblS s) up).2.1 = (Y0r s up).2.1) := by
  intro k1 k2
  unfold Y0r at k1 k2 ⊢
  rw [eg, eh, eG] at k2 ⊢
  by_cases hg : givL s = 0
  rotate_left 1
  ·rw [if_neg hg, if_neg hg]
   exact ⟨rfl, fun h => absurd h hg⟩
  rw [if_pos hg] at k1 k2 ⊢
  rw [if_pos hg]
  by_cases ha : (Y1u (hauR s) up).2 = 0
  rotate_left 1
  ·rw [if_neg ha, if_neg ha]
   exact ⟨rfl, fun h => absurd h ha⟩
  rw [if_pos ha] at k1 k2 ⊢
  rw [if_pos ha]
  by_cases hgr : (Y1i (hauR s) up s.bs []).2 = 0
  rotate_left 1
  ·rw [if_neg hgr, if_neg hgr]
   exact ⟨rfl, fun h => absurd h hgr⟩
  rw [if_pos hgr] at k1 k2 ⊢
  rw [if_pos hgr]
  have p1 : (prsP s up).2 ≠ 5 := fun e => k1 (by rw [if_neg (by omega), e])
  have p2 : (prsP (dblS s) up).2 ≠ 5 := fun e => k2 (by rw [if_neg (by omega), e])
  obtain ⟨pe, pt⟩ := hpair p1 p2
  by_cases hp : (prsP s up).2 = 0
  rotate_left 1
  ·rw [if_neg hp, if_neg (by omega), pe]
   exact ⟨rfl, fun h => absurd (pe.trans h) hp⟩
  obtain ⟨t1, t2, t3, t4⟩ := pt hp
  rw [if_pos hp] at k1 ⊢
  rw [if_pos (by omega)] at k2 ⊢
  simp only at k1 k2 ⊢
  rw [t2] at k2 ⊢
  obtain ⟨b1, b2⟩ := Yuh t1 t3 t4 k1 k2
  exact ⟨b1, fun h => ⟨b2 h, by first | rfl | trivial⟩⟩
 have f1 : (Y0r s up).2.2 ≠ 5 := fun e => h1 (by unfold Y07; rw [if_neg (by omega), e])
 have f2 : (Y0r (dblS s) up).2.2 ≠ 5 := fun e => h2 (by unfold Y07; rw [if_neg (by omega), e])
 obtain ⟨ke, kt⟩ := key f1 f2
 unfold Y07 at h1 h2 ⊢
 by_cases h0 : (Y0r s up).2.2 = 0
 rotate_left 1
 ·rw [if_neg h0, if_neg (by omega), ke]
  exact ⟨rfl, fun h => absurd (ke.trans h) h0, fun _ => ⟨rfl, rfl⟩⟩
 obtain ⟨t1, t2⟩ := kt h0
 rw [if_pos h0] at h1 ⊢
 rw [if_pos (by omega)] at h2 ⊢
 rw [t2] at h2 ⊢
 generalize (Y0r s up).2.1.getD ((Y0r s up).2.1.length - 1) (0, 0) = c at *
 by_cases hc : Y09 c.1 c.2 = true
 ·have m1 := mul5 t1.vl hc h1
  have m2 := mul5 t1.vr hc h2
  exact ⟨by rw [m1, m2], fun _ => t1.mulRt m1 m2, fun h => absurd m1 h⟩
 ·have e : ∀ x, mulP x c = ((0, 0), 1) := fun x => by unfold mulP; rw [if_neg fun h => hc h.2]
  simp [e]
theorem Yfp {load grip : List (Int × Int)} : ∀ (L : List (List (Int × Int))) (w p : List (Int × Int)), (Y2n load grip L w p).2 = 0 → (Y2n load grip L w p).1 = (w ++ L.map (fun x => (dotV x load (0, 1)).1), p ++ L.map fun x => (dotV x grip (0, 1)).1) ∧ ∀ x ∈ L, (dotV x load (0, 1)).2 = 0 ∧ (dotV x grip (0, 1)).2 = 0
 | [], w, p, _ => ⟨by simp [Y2n], by simp⟩
 | v :: L, w, p, h => by
  simp only [Y2n] at h ⊢
  by_cases h1 : (dotV v load (0, 1)).2 = 0
  rotate_left 1
  ·rw [if_neg h1] at h
   exact absurd h h1
  rw [if_pos h1] at h ⊢
  by_cases h2 : (dotV v grip (0, 1)).2 = 0
  rotate_left 1
  ·rw [if_neg h2] at h
   exact absurd h h2
  rw [if_pos h2] at h ⊢
  obtain ⟨k1, k2⟩ := Yfp L _ _ h
  refine ⟨by rw [k1]; simp, fun x hx => ?_⟩
  rcases List.mem_cons.1 hx with rfl | hx
  ·exact ⟨h1, h2⟩
  ·exact k2 x hx
theorem Y2d {s : Sy} (h : givL s = 0) : Y0g s = true ∧ ¬ hix s < 0 ∧ (s.rs.any fun r => !r.hl && Y92 r) = false := by
 unfold givL at h
 split at h
 ·rename_i h1
  split at h
  ·cases h
  ·rename_i h2
   split at h
   ·cases h
   ·rename_i h3
    exact ⟨h1, h2, by simpa using h3⟩
 ·cases h
theorem Yq5 {s : Sy} {up : Bool} (h : (Y0r s up).2.2 = 0) : givL s = 0 ∧ Y25 (hauR s) = true ∧ (Y1i (hauR s) up s.bs []).2 = 0 ∧ (prsP s up).2 = 0 ∧ (balP (prsP s up).1.1 (prsP s up).1.2).2 = 0 ∧ Y0r s up = ((balP (prsP s up).1.1 (prsP s up).1.2).1, facL (hauR s) up ((hauR s).hs.length - 1), 0) := by
 have h' := h
 unfold Y0r at h ⊢
 by_cases h1 : givL s = 0
 rotate_left 1
 ·rw [if_neg h1] at h
  exact absurd h h1
 rw [if_pos h1] at h ⊢
 by_cases h2 : (Y1u (hauR s) up).2 = 0
 rotate_left 1
 ·rw [if_neg h2] at h
  exact absurd h h2
 rw [if_pos h2] at h ⊢
 have hr : Y25 (hauR s) = true := by
  cases hr : Y25 (hauR s)
  ·unfold Y1u at h2
   rw [if_neg (by simp [hr])] at h2
   cases h2
  ·rfl
 by_cases h3 : (Y1i (hauR s) up s.bs []).2 = 0
 rotate_left 1
 ·rw [if_neg h3] at h
  exact absurd h h3
 rw [if_pos h3] at h ⊢
 by_cases h4 : (prsP s up).2 = 0
 rotate_left 1
 ·rw [if_neg h4] at h
  exact absurd h h4
 rw [if_pos h4] at h ⊢
 simp only at h
 refine ⟨h1, hr, h3, h4, h, ?_⟩
 unfold Y1u
 rw [if_pos hr, h]
theorem Yea {D E : Int} (hD : D ≠ 0) (hE : E ≠ 0) : ∀ (v l : List (Int × Int)) (X Y : Nat → Int) (s : Int × Int) (S : Int), v.length = l.length → (∀ (k : Nat) (f : Int × Int), v[k]? = some f → Val f (X k) D) → (∀ (k : Nat) (f : Int × Int), l[k]? = some f → Val f (Y k) E) → Val s S (D * E) → (dotV v l s).2 = 0 → Val (dotV v l s).1 (S + sumN (fun k => X k * Y k) v.length) (D * E)
 | [], [], X, Y, s, S, _, _, _, hs, _ => by simp only [dotV, List.length_nil, sumN, Int.add_zero]; exact hs
 | [], _ :: _, _, _, _, _, h, _, _, _, _ => by simp at h
 | _ :: _, [], _, _, _, _, h, _, _, _, _ => by simp at h
 | f :: v, g :: l, X, Y, s, S, hl, hv, hy, hs, h => by
  have hf := hv 0 f (by simp)
  have hg := hy 0 g (by simp)
  simp only [dotV] at h ⊢
  by_cases h1 : (mulP f g).2 = 0
  rotate_left 1
  ·rw [if_neg h1] at h
   exact absurd h h1
  rw [if_pos h1] at h ⊢
  have ht := hf.mulP hg h1
  by_cases h2 : (addP s (mulP f g).1).2 = 0
  rotate_left 1
  ·rw [if_neg h2] at h
   exact absurd h h2
  rw [if_pos h2] at h ⊢
  have hw := (hs.addP ht h2).to (r := S + X 0 * Y 0) hs.n0 (by grind)
  have ih := Yea hD hE v l (fun k => X (k + 1)) (fun k => Y (k + 1)) _ (S + X 0 * Y 0) (by simpa using hl) (fun k q hq => hv (k + 1) q (by simpa using hq)) (fun k q hq => hy (k + 1) q (by simpa using hq)) hw h
  rw [List.length_cons, Ya1, ← Int.add_assoc]
  exact ih
def Y39 (P : Nat → Int) (n : Nat) (nm : ByteArray) : List Hd → Nat → Int
 | [], _ => 0
 | h :: l, i => (if h.b = nm then (if i = 0 then h.p * P 0 else if i + 1 = n then h.p * P (n - 2) else h.p.tdiv 2 * (P (i - 1) + P i)) else 0) + Y39 P n nm l (i + 1)
theorem Ypw {F : Nat → Int × Int} {P : Nat → Int} {Q : Int} {n i : Nat} {h : Hd} (hF : ∀ j, j + 1 < n → Val (F j) (P j) Q) (h2 : 2 ≤ n) (hi : i < n) (hp : -2 ≤ h.p ∧ h.p ≤ 2) (h0 : (Y3a n F i h).2 = 0) : Val (Y3a n F i h).1 (if i = 0 then h.p * P 0 else if i + 1 = n then h.p * P (n - 2) else h.p.tdiv 2 * (P (i - 1) + P i)) Q := by
 have v1 : Val (h.p, 1) h.p 1 := .one (by omega)
 unfold Y3a at h0 ⊢
 by_cases e0 : i = 0
 ·rw [if_pos e0] at h0 ⊢
  rw [if_pos e0]
  have := v1.mulP (hF 0 (by omega)) h0
  rwa [Int.one_mul] at this
 rw [if_neg e0] at h0 ⊢
 rw [if_neg e0]
 by_cases e1 : i + 1 = n
 ·rw [if_pos e1] at h0 ⊢
  rw [if_pos e1]
  have := v1.mulP (hF (n - 2) (by omega)) h0
  rwa [Int.one_mul] at this
 rw [if_neg e1] at h0 ⊢
 rw [if_neg e1]
 have v2 : Val (h.p.tdiv 2, 1) (h.p.tdiv 2) 1 := .one (by
  have h1 : h.p = -2 ∨ h.p = -1 ∨ h.p = 0 ∨ h.p = 1 ∨ h.p = 2 := by omega
  rcases h1 with e | e | e | e | e <;> rw [e] <;> decide)
 by_cases ha : (addP (F (i - 1)) (F i)).2 = 0
 rotate_left 1
 ·rw [if_neg ha] at h0
  exact absurd h0 ha
 rw [if_pos ha] at h0 ⊢
 have hq := (hF i (by omega)).n0
 have hs := ((hF (i - 1) (by omega)).addP (hF i (by omega)) ha).to (r := P (i - 1) + P i) (s := Q) hq (by grind)
 have := v2.mulP hs h0
 rwa [Int.one_mul] at this
theorem Yas {F : Nat → Int × Int} {P : Nat → Int} {Q : Int} {n : Nat} {nm : ByteArray} (hF : ∀ j, j + 1 < n → Val (F j) (P j) Q) (h2 : 2 ≤ n) : ∀ (hs : List Hd) (i : Nat) (c : Int × Int) (C : Int), (∀ h ∈ hs, -2 ≤ h.p ∧ h.p ≤ 2) → i + hs.length ≤ n → Val c C Q → (Y6g n F nm hs i c).2 = 0 → Val (Y6g n F nm hs i c).1 (C + Y39 P n nm hs i) Q
 | [], i, c, C, _, _, hc, _ => by simp only [Y6g, Y39, Int.add_zero]; exact hc
 | h :: l, i, c, C, hp, hi, hc, h0 => by
  simp only [List.length_cons] at hi
  simp only [Y6g] at h0 ⊢
  simp only [Y39]
  by_cases hn : h.b = nm
  rotate_left 1
  ·rw [if_neg hn] at h0 ⊢
   rw [if_neg hn, Int.zero_add]
   exact Yas hF h2 l (i + 1) c C (fun x hx => hp x (by simp [hx])) (by omega) hc h0
  rw [if_pos hn] at h0 ⊢
  rw [if_pos hn]
  by_cases ht : (Y3a n F i h).2 = 0
  rotate_left 1
  ·rw [if_neg ht] at h0
   exact absurd h0 ht
  rw [if_pos ht] at h0 ⊢
  have hv := Ypw hF h2 (by omega) (hp h (by simp)) ht
  generalize (if i = 0 then h.p * P 0 else if i + 1 = n then h.p * P (n - 2) else h.p.tdiv 2 * (P (i - 1) + P i)) = G at *
  by_cases ha : (addP c (Y3a n F i h).1).2 = 0
  rotate_left 1
  ·rw [if_neg ha] at h0
   exact absurd h0 ha
  rw [if_pos ha] at h0 ⊢
  have hw := (hc.addP hv ha).to (r := C + G) (s := Q) hc.n0 (by grind)
  rw [← Int.add_assoc]
  exact Yas hF h2 l (i + 1) _ _ (fun x hx => hp x (by simp [hx])) (by omega) hw h0
theorem Ypx {r : Rp} {up : Bool} {P : Nat → Int} {Q : Int} {nm : ByteArray} (hF : ∀ j, j + 1 < r.hs.length → Val (facK r.hs up j) (P j) Q) (h2 : 2 ≤ r.hs.length) (hp : ∀ h ∈ r.hs, -2 ≤ h.p ∧ h.p ≤ 2) (h0 : (Y3j r up nm).2 = 0) : Val (Y3j r up nm).1 (Y39 P r.hs.length nm r.hs 0) Q := by
 have hq := (hF 0 (by omega)).n0
 have := Yas (nm := nm) hF h2 r.hs 0 (0, 1) 0 hp (by omega) ⟨Y2v (by omega), hq, by simp⟩ h0
 rwa [Int.zero_add] at this
theorem Yce {n : Nat} {nm : ByteArray} : ∀ (hs : List Hd) (i : Nat), (∀ (k : Nat) (h : Hd), hs[k]? = some h → i + k ≠ 0 → i + k + 1 ≠ n → h.p.tdiv 2 * 2 = h.p) → Y39 (fun _ => 1) n nm hs i = pull nm hs
 | [], _, _ => rfl
 | h :: l, i, he => by
  have ih := Yce (n := n) (nm := nm) l (i + 1) (fun k x hx h0 h1 => he (k + 1) x (by simpa using hx) (by omega) (by omega))
  simp only [Y39, pull, ih]
  congr 1
  split
  ·split
   ·rw [Int.mul_one]
   ·split
    ·rw [Int.mul_one]
    ·exact he 0 h (by simp) (by omega) (by omega)
  ·rfl
theorem Ywt {s : Sy} (hv : Y0g s = true) {v : List (Int × Int)} (hm : v ∈ (Y12 s).1) : v.length = s.bs.length ∧ ∃ (X : Nat → Int) (D : Int), D ≠ 0 ∧ (∀ (k : Nat) (f : Int × Int), v[k]? = some f → Val f (X k) D) ∧ ∀ a ∈ fixA s, sumN (fun b => Lin.at_ (colP (matS s) a) b * X b) s.bs.length = 0 := by
 have ok := Y0h hv
 refine ⟨(Y5s s).1 v hm, ?_⟩
 unfold Y12 at hm
 rw [if_pos hv] at hm
 by_cases hf : fixA s = []
 ·rw [if_pos hf] at hm
  obtain ⟨i, _, rfl⟩ := List.mem_map.1 hm
  refine ⟨fun k => if k = i then 1 else 0, 1, by decide, fun k f hk => ?_, fun a ha => by rw [hf] at ha; cases ha⟩
  unfold Yne at hk
  rw [List.getElem?_map] at hk
  cases e : (List.range s.bs.length)[k]? with
  | none => rw [e] at hk; simp at hk
  | some j =>
   rw [e] at hk
   obtain ⟨h1, h2⟩ := List.getElem?_eq_some_iff.1 e
   rw [List.getElem_range] at h2
   subst h2
   simp only [Option.map_some, Option.some.injEq] at hk
   subst hk
   show Val (if k = i then 1 else 0, 1) (if k = i then 1 else 0) 1
   split
   ·exact Val.one (n := 1) (by omega)
   ·exact Val.one (n := 0) (by omega)
 ·rw [if_neg hf] at hm
  obtain ⟨rv, rw', _⟩ := Y54 ok hf (by have := Y6b s.rs (-1) s.rs.length; unfold fixA; have := ok.r6; omega) (fun i hi => Y8k hi)
  obtain ⟨_, Z, D, hD, hK, hval⟩ := Yfz rv hm
  refine ⟨Z, D, hD, hval, fun a ha => ?_⟩
  have := hK ((trS s).getD a []) (by unfold Y2m; exact List.mem_map.2 ⟨a, ha, rfl⟩)
  rw [rw', Yj4 s (Y8k ha)] at this
  exact this
theorem Y5u (hs : List Hd) (i : Nat) : Y1h (hs.map Y2q) i = (1, 1) := by
 unfold Y1h
 rw [List.getElem?_map]
 cases hs[i]? <;> rfl
theorem Y47 (hs : List Hd) (up : Bool) : ∀ k, facK (hs.map Y2q) up k = (1, 1)
 | 0 => rfl
 | k + 1 => by
  simp only [facK, Y5u, Y47 hs up k]
  cases up <;> decide
theorem Y45 (s : Sy) : hauR (Y0j s) = Y13 (hauR s) := by
 unfold hauR
 rw [Yaq, List.getD_eq_getElem?_getD, List.getD_eq_getElem?_getD]
 show ((s.rs.map Y13)[(hix s).toNat]?).getD _ = _
 rw [List.getElem?_map]
 cases s.rs[(hix s).toNat]? <;> rfl
theorem Yic (s : Sy) : Y07 (Y0j s) true = Y07 (Y0j s) false := by
 have e1 : ∀ k, facL (Y13 (hauR s)) true k = facL (Y13 (hauR s)) false k := fun k => by
  unfold facL
  refine List.map_congr_left fun i _ => ?_
  simp only [Y13]
  rw [Y47, Y47]
 have e2 : ∀ nm, Y3j (Y13 (hauR s)) true nm = Y3j (Y13 (hauR s)) false nm := fun nm => by
  unfold Y3j
  have : facK (Y13 (hauR s)).hs true = facK (Y13 (hauR s)).hs false := by
   funext k
   simp only [Y13]
   rw [Y47, Y47]
  rw [this]
 have e3 : ∀ (bs : List Bk) (acc : List (Int × Int)), Y1i (Y13 (hauR s)) true bs acc = Y1i (Y13 (hauR s)) false bs acc := by
  intro bs
  induction bs with
  | nil => intro acc; rfl
  | cons b l ih =>
   intro acc
   simp only [Y1i, e2, ih]
 have e4 : Y1u (Y13 (hauR s)) true = Y1u (Y13 (hauR s)) false := by unfold Y1u; rw [e1]
 have e5 : prsP (Y0j s) true = prsP (Y0j s) false := by unfold prsP; rw [Y45, e3]
 have e6 : Y0r (Y0j s) true = Y0r (Y0j s) false := by unfold Y0r; rw [Y45, e3, e4, e5]
 unfold Y07
 rw [e6]
theorem mulc {a b c : Int} (h : 0 < c) : a * c ≤ b * c ↔ a ≤ b := ⟨fun w => Int.le_of_mul_le_mul_right w h, fun w => Int.mul_le_mul_of_nonneg_right w (by omega)⟩
def leF (a b : Int × Int) : Prop := a.1 * b.2 ≤ b.1 * a.2
theorem Val.leF {x y : Int × Int} {p q r s : Int} (h : Val x p q) (k : Val y r s) (hq : 0 < q) (hs : 0 < s) : T.leF x y ↔ p * s ≤ r * q := by
 have hx := (Y0c h.v).1
 have hy := (Y0c k.v).1
 have h1 := h.e
 have h2 := k.e
 have hc : 0 < q * s := Int.mul_pos hq hs
 have hd : 0 < x.2 * y.2 := Int.mul_pos (by omega) (by omega)
 have e1 : x.1 * y.2 * (q * s) = (p * s) * (x.2 * y.2) := by
  calc x.1 * y.2 * (q * s) = (x.1 * q) * (y.2 * s) := by ac_rfl
   _ = (p * x.2) * (y.2 * s) := by rw [h1]
   _ = (p * s) * (x.2 * y.2) := by ac_rfl
 have e2 : y.1 * x.2 * (q * s) = (r * q) * (x.2 * y.2) := by
  calc y.1 * x.2 * (q * s) = (y.1 * s) * (x.2 * q) := by ac_rfl
   _ = (r * y.2) * (x.2 * q) := by rw [h2]
   _ = (r * q) * (x.2 * y.2) := by ac_rfl
 unfold T.leF
 rw [← mulc hc, e1, e2, mulc hd]
theorem Ykb {a b : Int × Int} : cmpV a b ≤ 0 ↔ leF a b := by
 have := @Yxi a b
 unfold leF
 omega
theorem Ykc {a b : Int × Int} : 0 ≤ cmpV a b ↔ leF b a := by
 have := @Yxh a b
 unfold leF
 omega
def Y1x (s : Sy) : (Int × Int) × (Int × Int) × Int :=
 if (Y07 s true).2 = 0 then (if (Y07 s false).2 = 0 then (if cmpV (Y07 s true).1 (Y07 s false).1 < 0 then ((0, 0), (0, 0), 17) else ((Y07 s false).1, (Y07 s true).1, 0)) else ((0, 0), (0, 0), (Y07 s false).2)) else ((0, 0), (0, 0), (Y07 s true).2)
def Y8y (s : Sy) (f : Int × Int) : Bool × Int :=
 if Y09 f.1 f.2 = true then (if (Y1x s).2.2 = 0 then (decide (0 ≤ cmpV f (Y1x s).1) && decide (cmpV f (Y1x s).2.1 ≤ 0), 0) else (false, (Y1x s).2.2)) else (false, 1)
theorem Y8j {s : Sy} {up : Bool} (h : (Y07 s up).2 = 0) : Y09 (Y07 s up).1.1 (Y07 s up).1.2 = true := by
 unfold Y07 at h ⊢
 by_cases h0 : (Y0r s up).2.2 = 0
 ·rw [if_pos h0] at h ⊢
  exact Yp6 h
 ·rw [if_neg h0] at h
  exact absurd h h0
theorem Y7p {s : Sy} (h : (Y1x s).2.2 = 0) : (Y07 s true).2 = 0 ∧ (Y07 s false).2 = 0 ∧ (Y1x s).1 = (Y07 s false).1 ∧ (Y1x s).2.1 = (Y07 s true).1 ∧ leF (Y1x s).1 (Y1x s).2.1 ∧ Y09 (Y1x s).1.1 (Y1x s).1.2 = true ∧ Y09 (Y1x s).2.1.1 (Y1x s).2.1.2 = true := by
 unfold Y1x at h ⊢
 by_cases h1 : (Y07 s true).2 = 0
 rotate_left 1
 ·rw [if_neg h1] at h
  exact absurd h h1
 rw [if_pos h1] at h ⊢
 by_cases h2 : (Y07 s false).2 = 0
 rotate_left 1
 ·rw [if_neg h2] at h
  exact absurd h h2
 rw [if_pos h2] at h ⊢
 by_cases h3 : cmpV (Y07 s true).1 (Y07 s false).1 < 0
 ·rw [if_pos h3] at h
  cases h
 rw [if_neg h3]
 exact ⟨h1, h2, rfl, rfl, Ykc.1 (show 0 ≤ cmpV (Y07 s true).1 (Y07 s false).1 by omega), Y8j h2, Y8j h1⟩
theorem Yps {s : Sy} (h : (Y1x s).2.2 = 0) {f : Int × Int} (hf : Y09 f.1 f.2 = true) : (leF (Y1x s).1 f → leF f (Y1x s).2.1 → Y8y s f = (true, 0)) ∧ (¬ leF (Y1x s).1 f → Y8y s f = (false, 0)) ∧ (¬ leF f (Y1x s).2.1 → Y8y s f = (false, 0)) := by
 unfold Y8y
 rw [if_pos hf, if_pos h]
 refine ⟨fun a b => ?_, fun a => ?_, fun a => ?_⟩
 ·rw [decide_eq_true (Ykc.2 a), decide_eq_true (Ykb.2 b)]
  rfl
 ·rw [decide_eq_false (fun k => a (Ykc.1 k))]
  rfl
 ·rw [decide_eq_false (fun k => a (Ykb.1 k)), Bool.and_false]
structure Fam (n : Nat) (P a c : Nat → Int) : Prop where
 pos : ∀ j, j + 1 < n → 0 < P j
 step : ∀ j, j + 2 < n → P (j + 1) * c (j + 1) = P j * a (j + 1)
 ap : ∀ j, 0 < a j
 cp : ∀ j, 0 < c j
theorem Yvf {n : Nat} {P a c P' a' c' : Nat → Int} (h : Fam n P a c) (h' : Fam n P' a' c') (hle : ∀ j, 1 ≤ j → j + 1 < n → a j * c' j ≤ a' j * c j) : ∀ k j, j + k + 2 = n → P' j * P (n - 2) ≤ P j * P' (n - 2)
 | 0, j, e => by
  have e2 : n - 2 = j := by omega
  rw [e2, Int.mul_comm]
  exact Int.le_refl _
 | k + 1, j, e => by
  have ih := Yvf h h' hle k (j + 1) (by omega)
  have s1 := h.step j (by omega)
  have s2 := h'.step j (by omega)
  have l := hle (j + 1) (by omega) (by omega)
  have p1 := h.pos j (by omega)
  have p2 := h'.pos (n - 2) (by omega)
  have u2 := h'.ap (j + 1)
  have c1 := h.cp (j + 1)
  have c2 := h'.cp (j + 1)
  generalize P (n - 2) = L at *
  generalize P' (n - 2) = L' at *
  generalize P (j + 1) = x at *
  generalize P' (j + 1) = x' at *
  generalize P j = y at *
  generalize P' j = y' at *
  generalize a (j + 1) = A at *
  generalize a' (j + 1) = A' at *
  generalize c (j + 1) = C at *
  generalize c' (j + 1) = C' at *
  refine (mulc (Int.mul_pos u2 c1)).1 ?_
  have e1 : y' * L * (A' * C) = x' * L * (C * C') := by
   calc y' * L * (A' * C) = (y' * A') * (L * C) := by ac_rfl
    _ = (x' * C') * (L * C) := by rw [s2]
    _ = x' * L * (C * C') := by ac_rfl
  have e2 : x * L' * (C * C') = y * L' * (A * C') := by
   calc x * L' * (C * C') = (x * C) * (L' * C') := by ac_rfl
    _ = (y * A) * (L' * C') := by rw [s1]
    _ = y * L' * (A * C') := by ac_rfl
  have m1 : x' * L * (C * C') ≤ x * L' * (C * C') := Int.mul_le_mul_of_nonneg_right ih (Int.le_of_lt (Int.mul_pos c1 c2))
  have m2 : y * L' * (A * C') ≤ y * L' * (A' * C) := Int.mul_le_mul_of_nonneg_left l (Int.le_of_lt (Int.mul_pos p1 p2))
  rw [e1]
  rw [e2] at m1
  exact Int.le_trans m1 m2
def Yf1 (P : Nat → Int) (n i : Nat) (p : Int) : Int := if i = 0 then p * P 0 else if i + 1 = n then p * P (n - 2) else p.tdiv 2 * (P (i - 1) + P i)
theorem Y46 (P : Nat → Int) (n : Nat) (nm : ByteArray) (h : Hd) (l : List Hd) (i : Nat) : Y39 P n nm (h :: l) i = (if h.b = nm then Yf1 P n i h.p else 0) + Y39 P n nm l (i + 1) := rfl
theorem Yzk {p : Int} (h : 0 ≤ p ∧ p ≤ 2) : 0 ≤ p.tdiv 2 := Int.tdiv_nonneg h.1 (by decide)
theorem Yhu {p x y a b : Int} (hp : 0 ≤ p) (h : x * a ≤ y * b) : p * x * a ≤ p * y * b := by
 rw [Int.mul_assoc, Int.mul_assoc]
 exact Int.mul_le_mul_of_nonneg_left h hp
theorem Yju {n : Nat} {P P' : Nat → Int} {nm : ByteArray} {L L' : Int} (h2 : 2 ≤ n) (hc : ∀ j, j + 1 < n → P' j * L ≤ P j * L') : ∀ (hs : List Hd) (i : Nat), i + hs.length ≤ n → (∀ h ∈ hs, 0 ≤ h.p ∧ h.p ≤ 2) → Y39 P' n nm hs i * L ≤ Y39 P n nm hs i * L'
 | [], _, _, _ => by simp [Y39]
 | h :: l, i, hi, hp => by
  simp only [List.length_cons] at hi
  have ih := Yju (nm := nm) h2 hc l (i + 1) (by omega) (fun x hx => hp x (by simp [hx]))
  have hp0 := hp h (by simp)
  rw [Y46, Y46, Int.add_mul, Int.add_mul]
  refine Int.add_le_add ?_ ih
  split
  ·unfold Yf1
   split
   ·exact Yhu hp0.1 (hc 0 (by omega))
   ·split
    ·exact Yhu hp0.1 (hc (n - 2) (by omega))
    ·refine Yhu (Yzk hp0) ?_
     rw [Int.add_mul, Int.add_mul]
     exact Int.add_le_add (hc (i - 1) (by omega)) (hc i (by omega))
  ·simp
theorem Yj7 {n i : Nat} {P : Nat → Int} {p : Int} (h2 : 2 ≤ n) (hi : i < n) (hP : ∀ j, j + 1 < n → 0 < P j) (hp : 0 ≤ p ∧ p ≤ 2) : 0 ≤ Yf1 P n i p ∧ (Yf1 P n i p = 0 ↔ Yf1 (fun _ => 1) n i p = 0) := by
 have key : ∀ (q x y : Int), 0 ≤ q → 0 < x → 0 < y → 0 ≤ q * x ∧ (q * x = 0 ↔ q * y = 0) := fun q x y hq hx hy => by
  refine ⟨Int.mul_nonneg hq (by omega), ?_⟩
  rw [Int.mul_eq_zero, Int.mul_eq_zero]
  omega
 unfold Yf1
 split
 ·exact key _ _ _ hp.1 (hP 0 (by omega)) Int.one_pos
 ·split
  ·exact key _ _ _ hp.1 (hP (n - 2) (by omega)) Int.one_pos
  ·have := hP (i - 1) (by omega)
   have := hP i (by omega)
   exact key _ _ _ (Yzk hp) (by omega) (show (0 : Int) < 1 + 1 by omega)
theorem Y9i {n : Nat} {P : Nat → Int} {nm : ByteArray} (h2 : 2 ≤ n) (hP : ∀ j, j + 1 < n → 0 < P j) : ∀ (hs : List Hd) (i : Nat), i + hs.length ≤ n → (∀ h ∈ hs, 0 ≤ h.p ∧ h.p ≤ 2) → 0 ≤ Y39 P n nm hs i ∧ (Y39 P n nm hs i = 0 ↔ Y39 (fun _ => 1) n nm hs i = 0)
 | [], _, _, _ => by simp [Y39]
 | h :: l, i, hi, hp => by
  simp only [List.length_cons] at hi
  obtain ⟨a, b⟩ := Y9i (nm := nm) h2 hP l (i + 1) (by omega) (fun x hx => hp x (by simp [hx]))
  have a1 := (Y9i (nm := nm) (P := fun _ => 1) h2 (fun _ _ => by decide) l (i + 1) (by omega) (fun x hx => hp x (by simp [hx]))).1
  obtain ⟨c, d⟩ := Yj7 (i := i) h2 (by omega) hP (hp h (by simp))
  have c1 := (Yj7 (i := i) (P := fun _ => 1) h2 (by omega) (fun _ _ => by decide) (hp h (by simp))).1
  rw [Y46, Y46]
  split
  ·constructor
   ·omega
   ·constructor
    ·intro e
     have e1 : Yf1 P n i h.p = 0 := by omega
     have e2 : Y39 P n nm l (i + 1) = 0 := by omega
     rw [d.1 e1, b.1 e2]
     rfl
    ·intro e
     have e1 : Yf1 (fun _ => 1) n i h.p = 0 := by omega
     have e2 : Y39 (fun _ => 1) n nm l (i + 1) = 0 := by omega
     rw [d.2 e1, b.2 e2]
     rfl
  ·rw [Int.zero_add, Int.zero_add]
   exact ⟨a, b⟩
def aS (up : Bool) (hs : List Hd) (j : Nat) : Int := if up = true then (Y1h hs j).1 else (Y1h hs j).2
def cS (up : Bool) (hs : List Hd) (j : Nat) : Int := if up = true then (Y1h hs j).2 else (Y1h hs j).1
theorem Y5t {r : Rp} (hr : Y25 r = true) (j : Nat) : FB (Y1h r.hs j) 100 := by
 unfold Y1h
 split
 ·rename_i x hx
  exact Y69 (Y3t (Y5p hr hx))
 ·exact ⟨by decide, by decide, by decide, by decide⟩
theorem Ygd {r : Rp} (hr : Y25 r = true) (up : Bool) : ∃ (P : Nat → Int) (Q : Int), 0 < Q ∧ (∀ j, j + 1 < r.hs.length → Val (facK r.hs up j) (P j) Q) ∧ Fam r.hs.length P (aS up r.hs) (cS up r.hs) := by
 obtain ⟨n2, n10⟩ := Y3e hr
 have hls : ∀ j, j + 1 < r.hs.length → ∀ i h, 1 ≤ i → i ≤ j → r.hs[i]? = some h → Y3h h.n h.d = true := fun j _ i h _ _ hh => Y3t (Y5p hr hh)
 have hfb : ∀ j, j + 1 < r.hs.length → FB (facK r.hs up j) (100 ^ j) := fun j hj => Ye7 (hs := r.hs) (up := up) j (by omega) (hls j hj)
 obtain ⟨X, D, hD, hX⟩ := dens (facL r up (r.hs.length - 1)) (List.all_eq_true.2 fun x hx => by
  obtain ⟨i, hi, rfl⟩ := List.mem_map.1 hx
  exact (hfb i (by have := List.mem_range.1 hi; omega)).v)
 obtain ⟨P, Q, hQ, hP⟩ : ∃ (P : Nat → Int) (Q : Int), 0 < Q ∧ ∀ j, j + 1 < r.hs.length → Val (facK r.hs up j) (P j) Q := by
  by_cases h : 0 < D
  ·exact ⟨X, D, h, fun j hj => hX j _ (Yay r up (by omega))⟩
  ·refine ⟨fun j => - X j, - D, by omega, fun j hj => ?_⟩
   refine (hX j _ (Yay r up (by omega))).to (by omega) ?_
   rw [Int.mul_neg, Int.neg_mul]
 have hpos : ∀ j, j + 1 < r.hs.length → 0 < P j := fun j hj => by
  have e := (hP j hj).e
  have a1 := (hfb j hj).n1
  have a2 := (hfb j hj).d1
  have : 0 < (facK r.hs up j).1 * Q := Int.mul_pos (by omega) hQ
  rw [e] at this
  refine Int.not_le.1 fun h => ?_
  have : P j * (facK r.hs up j).2 ≤ 0 := Int.mul_nonpos_of_nonpos_of_nonneg h (by omega)
  omega
 refine ⟨P, Q, hQ, hP, hpos, fun j hj => ?_, fun j => ?_, fun j => ?_⟩
 ·obtain ⟨x, hx⟩ : ∃ y, r.hs[j + 1]? = some y := ⟨_, List.getElem?_eq_getElem (by omega)⟩
  have hlo := Y3t (Y5p hr hx)
  obtain ⟨m1, m2, m3⟩ := Ygf (hs := r.hs) (up := up) (k := j) (by omega) (hls j (by omega)) hx hlo
  have hl : Y1h r.hs (j + 1) = (x.n, x.d) := by unfold Y1h; rw [hx]
  have hlf := Y69 hlo
  have hn1 := hlf.n1
  simp only at hn1
  have v0 := hP j (by omega)
  have v1 := hP (j + 1) (by omega)
  have vl := Val.self hlf.v
  simp only at vl
  unfold aS cS
  rw [hl]
  cases up
  ·simp only [Bool.false_eq_true, if_false] at m3 ⊢
   have v2 := v0.div vl (by omega) (by rw [m2])
   rw [← m3] at v2
   have e := v1.same v2
   refine Y4i (c := Q) (by omega) ?_
   calc P (j + 1) * x.n * Q = P (j + 1) * (Q * x.n) := by ac_rfl
    _ = P j * x.d * Q := e
  ·simp only [if_true] at m3 ⊢
   have v2 := v0.mul vl (by rw [m1])
   rw [← m3] at v2
   have e := v1.same v2
   refine Y4i (c := Q) (by omega) ?_
   calc P (j + 1) * x.d * Q = P (j + 1) * (Q * x.d) := by ac_rfl
    _ = P j * x.n * Q := e
 ·have h1 := (Y5t hr j).n1
  have h2 := (Y5t hr j).d1
  unfold aS
  split <;> omega
 ·have h1 := (Y5t hr j).n1
  have h2 := (Y5t hr j).d1
  unfold cS
  split <;> omega
end Go.Proofs.YtpbpafmgkdihlaaGreatDoor.T
