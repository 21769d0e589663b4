import Derived.Test.YtpcakodemleoiaaGreatHTB
import Derived.Test.YtpcakodemleoiaaGreatHSG
import Derived.Test.YtpcakodemleoiaaGreatHMGWAVR
import Derived.Test.YtpcakodemleoiaaGreatHSKM
import Derived.Test.YtpcakodemleoiaaGreatHSNQMGI
import Derived.Test.YtpcakodemleoiaaGreatHALPMQX
import Derived.Test.YtpcakodemleoiaaGreatHALMALR
set_option linter.all false
namespace Go.Proofs.YtpcakodemleoiaaGreat.T
open Go Go.RowKit
theorem Y6g {F : Mem} {G : Ghost} {d : D} {b : List D} : ∀ {a : List D} {us : List Value}, RepL F G (a ++ d :: b) us → ∃ ua u ub, us = ua ++ u :: ub ∧ RepL F G a ua ∧ Rep F G d u ∧ RepL F G b ub
  | [], us, h => by
    simp only [List.nil_append, RepL] at h
    obtain ⟨u, us', e, h1, h2⟩ := h
    exact ⟨[], u, us', e, by simp [RepL], h1, h2⟩
  | x :: a, us, h => by
    simp only [List.cons_append, RepL] at h
    obtain ⟨u, us', rfl, h1, h2⟩ := h
    obtain ⟨ua, v, ub, rfl, k1, k2, k3⟩ := Y6g h2
    exact ⟨u :: ua, v, ub, rfl, by simp only [RepL]; exact ⟨u, ua, rfl, h1, k1⟩, k2, k3⟩
theorem Y8r {F : Mem} {G : Ghost} {d : D} {b : List D} {u : Value} {ub : List Value} (h2 : Rep F G d u) (h3 : RepL F G b ub) : ∀ {a : List D} {ua : List Value}, RepL F G a ua → RepL F G (a ++ d :: b) (ua ++ u :: ub)
  | [], ua, h => by
    simp only [RepL] at h
    subst h
    simp only [List.nil_append, RepL]
    exact ⟨u, ub, rfl, h2, h3⟩
  | x :: a, ua, h => by
    simp only [RepL] at h
    obtain ⟨v, us', rfl, h1, h4⟩ := h
    simp only [List.cons_append, RepL]
    exact ⟨v, _, rfl, h1, Y8r h2 h3 h4⟩
def wrapD (tup : Bool) (pre post : List D) (o : D) : D := if tup = true then .tup (pre ++ o :: post) else .agg (pre ++ o :: post)
theorem wrap_split {F : Mem} {G : Ghost} {tup : Bool} {pre post : List D} {o : D} {u : Value} (h1 : Y0q pre = true) (h2 : Y0q post = true) (h : Rep F G (wrapD tup pre post o) u) : ∃ v, Rep F G o v ∧ ∀ G' o', Rep F G' o' v → Rep F G' (wrapD tup pre post o') u := by
  unfold wrapD at h ⊢
  cases tup
  · simp only [Bool.false_eq_true, if_false, Rep] at h ⊢
    obtain ⟨vs, rfl, hL⟩ := h
    obtain ⟨ua, v, ub, rfl, k1, k2, k3⟩ := Y6g hL
    exact ⟨v, k2, fun G' o' ho => ⟨_, rfl, Y8r ho (Y16 _ _ h2 k3) (Y16 _ _ h1 k1)⟩⟩
  · simp only [if_true, Rep] at h ⊢
    obtain ⟨vs, rfl, hL⟩ := h
    obtain ⟨ua, v, ub, rfl, k1, k2, k3⟩ := Y6g hL
    exact ⟨v, k2, fun G' o' ho => ⟨_, rfl, Y8r ho (Y16 _ _ h2 k3) (Y16 _ _ h1 k1)⟩⟩
section
variable {P : Program}
theorem PFreshX.intro {f : FuncId} {ds : List D} {ty : TypeId} {sz n : Nat} {cells : List D} {tup : Bool} {pre post : List D} (hc : Y0q cells = true) (h1 : Y0q pre = true) (h2 : Y0q post = true)
    (h : ∀ t, ACall P f ds [] t fun d H' _ => ∃ b g, d = wrapD tup pre post (.own sz b g 0 n) ∧ H'[b]? = some (some ⟨ty, g, cells⟩)) : PFreshX P f ds ty sz n cells (wrapD tup pre post) := by
  refine fun F G w us hF hL => ?_
  obtain ⟨t, ht⟩ := Yd8 G
  have R : Rel w F G [] t w := ⟨Below.refl _ _, hF, Nat.zero_le _, ht, fun i bl h => by simp at h, fun i j bi bj p q r s t u _ h => by simp at h⟩
  refine (h t w F G w us R hL).mono fun e w' hx => ?_
  obtain ⟨F', G', u, d', H', t', rfl, onw, R', hd, b, g, rfl, hb⟩ := hx
  obtain ⟨v, hv, hw⟩ := wrap_split h1 h2 hd
  obtain ⟨p, hp, hg, hl⟩ := R'.own b _ hb
  refine ⟨F', u, v, p, rfl, onw.mem, fun b o hb => onw.old b o hb, R'.mem, R'.below, ⟨rfl, ?_⟩, ?_, hw⟩
  · cases hr : p.r with
    | none => rw [hr] at hl; exact hl
    | some rs =>
      obtain ⟨r, s⟩ := rs
      rw [hr] at hl
      obtain ⟨k1, k2, hl⟩ := hl
      refine ⟨k1, k2, ?_⟩
      cases hpm : p.m with
      | false =>
        rw [hpm] at hl
        obtain ⟨vs, junk, k3, k4, k5⟩ := hl
        exact ⟨vs, junk, k3, k4, Y16 _ _ hc k5⟩
      | true => rw [hpm] at hl; exact hl
  · simp only [Rep] at hv ⊢
    obtain ⟨k1, p', hp', k2, k3⟩ := hv
    rw [hp] at hp'; cases hp'
    exact ⟨k1, p, rfl, Nat.le_refl _, fun _ => k3 hg⟩
end
end Go.Proofs.YtpcakodemleoiaaGreat.T

namespace Go.Proofs.YtpcakodemleoiaaGreat.T
open Go Go.RowKit Lin
def chW (f : Nat → Bk → Int) (l : List Bk) : Nat → List Bk
 | 0 => l
 | k + 1 => match l[k]? with
  | some b => (chW f l k).set k ⟨b.nm, f k b⟩
  | none => chW f l k
theorem Yb3 (f : Nat → Bk → Int) (l : List Bk) : ∀ k, (chW f l k).length = l.length
 | 0 => rfl
 | k + 1 => by
  simp only [chW]
  split
  ·rw [List.length_set, Yb3 f l k]
  ·exact Yb3 f l k
theorem Ygb (f : Nat → Bk → Int) (l : List Bk) : ∀ (k i : Nat) (b : Bk), l[i]? = some b → (chW f l k)[i]? = some (if i < k then ⟨b.nm, f i b⟩ else b)
 | 0, i, b, h => by rw [if_neg (by omega)]; exact h
 | k + 1, i, b, h => by
  have ih := Ygb f l k i b h
  have hi := (List.getElem?_eq_some_iff.1 h).1
  simp only [chW]
  by_cases e : k = i
  ·subst e
   rw [h]
   simp only
   rw [List.getElem?_set_self (by rw [Yb3]; exact hi), if_pos (by omega)]
  ·have : (match l[k]? with | some b => (chW f l k).set k ⟨b.nm, f k b⟩ | none => chW f l k)[i]? = (chW f l k)[i]? := by
    split
    ·rw [List.getElem?_set_ne e]
    ·rfl
   rw [this, ih]
   by_cases e2 : i < k
   ·rw [if_pos e2, if_pos (by omega)]
   ·rw [if_neg e2, if_neg (by omega)]
theorem chW_end (f : Nat → Bk → Int) (l : List Bk) : chW f l l.length = l.mapIdx fun i b => ⟨b.nm, f i b⟩ := by
 refine List.ext_getElem? fun i => ?_
 rw [List.getElem?_mapIdx]
 cases h : l[i]? with
 | none => rw [List.getElem?_eq_none (by rw [Yb3]; exact List.getElem?_eq_none_iff.1 h)]; rfl
 | some b => rw [Ygb f l _ i b h, if_pos (List.getElem?_eq_some_iff.1 h).1]; rfl
theorem Yh7 {l : List Bk} {i : Nat} {b : Bk} (h : l[i]? = some b) : (bkC l)[i * 2]? = some (str b.nm) := Y75 l i b h
theorem bkC_w {l : List Bk} {i : Nat} {b : Bk} (h : l[i]? = some b) : (bkC l)[i * 2 + 1]? = some (int b.w) := Yei l i b h 1 (by decide)
end Go.Proofs.YtpcakodemleoiaaGreat.T

namespace Go.Proofs.YtpcakodemleoiaaGreat.T
open Go Go.RowKit Lin
theorem Ygd {l : List Bk} {i : Nat} {b : Bk} (h : l[i]? = some b) : ((bkC l).drop (i * 2)).take 1 = [str b.nm] := by
 have := Yh7 h
 obtain ⟨h1, h2⟩ := List.getElem?_eq_some_iff.1 this
 rw [List.drop_eq_getElem_cons h1, h2]
 rfl
end Go.Proofs.YtpcakodemleoiaaGreat.T

namespace Go.Proofs.YtpcakodemleoiaaGreat.T
open Go Go.RowKit Lin
end Go.Proofs.YtpcakodemleoiaaGreat.T

namespace Go.Proofs.YtpcakodemleoiaaGreat.T
open Go Go.RowKit Lin
theorem gga4_ALL {C1 C2 C3 C4 P Q : Prop} (c1 : C1) (c2 : C2) (c3 : C3) (c4 : C4) (q : Q) (h : C1 → C2 → C3 → C4 → Q → P := by
 intro cc1 cc2 cc3 cc4 hq
 (try with_reducible intro KR hKR)
 (repeat' (first | (with_reducible refine Y01 ?_) | (with_reducible refine Y05 tab_ok fun KR hKR => ?_) | ((first | with_reducible refine Y1q ?_ | with_reducible refine Y1r ?_ | ((with_reducible refine Y0g ?_); refine hKR _ ?_; (try clear hKR KR))); (repeat (with_reducible first | refine q1 ?_ | refine q2 ?_ | refine q3 ?_ | refine q4 ?_ | refine q5 ?_ | refine q6 ?_ | (refine q7 ?_ ?_; (focus (with_unfolding_all rfl)))))) | ((first | ((with_reducible refine Y14 ?_); (first | refine Y0r rfl fun KK hKK => ?_ | refine Y0s rfl rfl fun KK hKK => ?_ | refine Y0c rfl fun KK hKK => ?_ | refine Y0v fun KK hKK => ?_)) | with_reducible refine Y10 (tab := tab) fun KK hKK => ?_); simp (disch := omega) only [bb, bt, zDs, zD, Y00, simprocAttr, bne_self_eq_false, Int.reduceBNe, Int.reduceBEq, Bool.bne_false, Bool.bne_true, Bool.false_bne, Bool.true_bne, goC, Y0u, argsD, and_self]; (try ((first | (with_reducible refine ACall.of_pret (cc1) ?_ ?_; (focus (first | (simp only [um]; done) | rfl))) | (with_reducible refine ACall.of_pret (cc2) ?_ ?_; (focus (first | (simp only [um]; done) | rfl))) | (with_reducible refine ACall.of_pret (cc3) ?_ ?_; (focus (first | (simp only [um]; done) | rfl))) | (with_reducible refine ACall.of_pret (cc4) ?_ ?_; (focus (first | (simp only [um]; done) | rfl)))); simp only [Y1e, St.put, putTM, ↓reduceIte, Nat.reduceEqDiff])); refine hKK _ ?_; clear hKK KK; (first | with_reducible refine Y14 ?_ | with_reducible refine i1 ?_ | with_reducible refine i0 ?_))))
 (first | exact hq | (revert hKR; revert KR; exact hq))) : P := h c1 c2 c3 c4 q
def ex14 : Sy := ⟨[⟨hB, 300⟩], [⟨hR, [⟨hE, 0, 1, 1⟩, ⟨hB, 2, 11, 10⟩, ⟨hE, 0, 1, 1⟩], true⟩]⟩
theorem example14 : PRet Tryz.prog 39 [] (syD ex14) := by
 refine PRet.intro 4 fun t => ACall.enter tab_ok Tryz.func39 rfl rfl Tryz.ntmps39 (by simp) ?_
 simp only [Y06]
 have h1 := refOf 1
 ((refine gga1 h1 ?_))
 ((repeat refine Y01 ?_); (refine wta ?_); simp (disch := omega) only [retQ, resD, oneD, rsv, rs, rsL, Y02, List.map_map, bb, bt, zDs, zD, Y00, simprocAttr, Tryz.results39])
 rfl
theorem Y8d : Fits ex14 := Y8y (by decide +kernel)
theorem ex14_raise : Y0b ex14 true = ((1100, 7), 0) := by decide +kernel
theorem ex14_lower : Y0b ex14 false = ((1000, 7), 0) := by decide +kernel
theorem ex14_eff : effP ex14 = ((21, 22), 0) := by decide +kernel
set_option maxHeartbeats 2000000 in
theorem Y6d : PRet Tryz.prog 9 [] (bool true) := by
 refine PRet.intro 1 fun t => ACall.enter tab_ok Tryz.func9 rfl rfl Tryz.ntmps9 (by simp) ?_
 simp only [Y06]
 have hX := example14
 have hR := Yah ex14 Y8d
 have hL := Yfm ex14 Y8d
 have hE := eff14 ex14 Y8d
 rw [ex14_raise] at hR
 rw [ex14_lower] at hL
 rw [ex14_eff] at hE
 generalize ex14 = e at *
 ((refine gga4_ALL hX hR hL hE ?_))
 ((repeat refine Y01 ?_); (refine wta ?_); simp (disch := omega) only [retQ, resD, oneD, rsv, rs, rsL, Y02, List.map_map, bb, bt, zDs, zD, Y00, simprocAttr, Tryz.results9])
end Go.Proofs.YtpcakodemleoiaaGreat.T

namespace Go.Proofs.YtpcakodemleoiaaGreat.T
open Go Go.RowKit Lin
theorem mul0 {a b : Int × Int} (h : (mulP a b).2 = 0) : vfrac a.1 a.2 = true ∧ vfrac b.1 b.2 = true ∧ mulP a b = mulR a b ∧ (mulR a b).2 = 0 := by
  unfold mulP at h ⊢
  split at h
  · rename_i h1
    rw [if_pos h1]
    exact ⟨h1.1, h1.2, rfl, h⟩
  · simp at h
theorem add0 {a b : Int × Int} (h : (addP a b).2 = 0) : vfrac a.1 a.2 = true ∧ vfrac b.1 b.2 = true ∧ addP a b = addR a b ∧ (addR a b).2 = 0 := by
  unfold addP at h ⊢
  split at h
  · rename_i h1
    rw [if_pos h1]
    exact ⟨h1.1, h1.2, rfl, h⟩
  · simp at h
theorem mul5 {a b : Int × Int} (ha : vfrac a.1 a.2 = true) (hb : vfrac b.1 b.2 = true) (h : (mulP a b).2 ≠ 5) : (mulP a b).2 = 0 := by
  rw [Y41 ha hb] at h ⊢
  rcases Ydr ha hb with e | e
  · exact e
  · exact absurd e h
theorem add5 {a b : Int × Int} (ha : vfrac a.1 a.2 = true) (hb : vfrac b.1 b.2 = true) (h : (addP a b).2 ≠ 5) : (addP a b).2 = 0 := by
  rw [Y8p ha hb] at h ⊢
  rcases addR_err ha hb with e | e
  · exact e
  · exact absurd e h
theorem div5 {a b : Int × Int} (ha : vfrac a.1 a.2 = true) (hb : vfrac b.1 b.2 = true) (h0 : b.1 ≠ 0) (h : (divP a b).2 ≠ 5) : (divP a b).2 = 0 := by
  rw [Y8i ha hb] at h ⊢
  rcases divR_err ha hb with ⟨e, _⟩ | ⟨_, e | e⟩
  · exact absurd e h0
  · exact e
  · exact absurd e h
theorem mul0v {a b : Int × Int} (h : (mulP a b).2 = 0) : vfrac (mulP a b).1.1 (mulP a b).1.2 = true := by
  obtain ⟨h1, h2, e, h3⟩ := mul0 h
  rw [e]
  exact Y3d h1 h2 h3
theorem add0v {a b : Int × Int} (h : (addP a b).2 = 0) : vfrac (addP a b).1.1 (addP a b).1.2 = true := by
  obtain ⟨h1, h2, e, h3⟩ := add0 h
  rw [e]
  exact Y2l h1 h2 h3
theorem Val.mulP {a b : Int × Int} {p q r s : Int} (h : Val a p q) (k : Val b r s) (ok : (T.mulP a b).2 = 0) : Val (T.mulP a b).1 (p * r) (q * s) := by
  obtain ⟨h1, h2, e, h3⟩ := mul0 ok
  rw [e]
  exact h.mul k h3
theorem Val.addP {a b : Int × Int} {p q r s : Int} (h : Val a p q) (k : Val b r s) (ok : (T.addP a b).2 = 0) : Val (T.addP a b).1 (p * s + r * q) (q * s) := by
  obtain ⟨h1, h2, e, h3⟩ := add0 ok
  rw [e]
  exact h.add k h3
theorem Val.divP {a b : Int × Int} {p q r s : Int} (h : Val a p q) (k : Val b r s) (ok : (T.divP a b).2 = 0) : Val (T.divP a b).1 (p * s) (q * r) := by
  obtain ⟨h1, h2, h0, e⟩ := Yay ok
  rw [e] at ok ⊢
  exact h.div k h0 ok
def Twi (x y : Int × Int) : Prop := ∃ p q, Val x p q ∧ Val y (2 * p) q
theorem Twi.vl {x y : Int × Int} (h : Twi x y) : vfrac x.1 x.2 = true := by obtain ⟨p, q, a, b⟩ := h; exact a.v
theorem Twi.vr {x y : Int × Int} (h : Twi x y) : vfrac y.1 y.2 = true := by obtain ⟨p, q, a, b⟩ := h; exact b.v
theorem Twi.zero : Twi (0, 1) (0, 1) := ⟨0, 1, Val.one (by omega), Val.one (by omega)⟩
theorem Twi.cross {x y : Int × Int} (h : Twi x y) : 2 * (x.1 * y.2) = y.1 * x.2 := by
  obtain ⟨p, q, a, b⟩ := h
  refine Y3g (c := q) a.n0 ?_
  have h1 := a.e
  have h2 := b.e
  calc 2 * (x.1 * y.2) * q = 2 * y.2 * (x.1 * q) := by ac_rfl
    _ = 2 * y.2 * (p * x.2) := by rw [h1]
    _ = x.2 * (2 * p * y.2) := by ac_rfl
    _ = x.2 * (y.1 * q) := by rw [h2]
    _ = y.1 * x.2 * q := by ac_rfl
theorem Twi.neg {x y : Int × Int} (h : Twi x y) : x.1 < 0 ↔ y.1 < 0 := by
  have hc := h.cross
  have h1 := (Y09 h.vl).1
  have h2 := (Y09 h.vr).1
  constructor
  · intro hx
    have : x.1 * y.2 < 0 := Int.mul_neg_of_neg_of_pos hx (by omega)
    refine Int.not_le.1 fun hy => ?_
    have : 0 ≤ y.1 * x.2 := Int.mul_nonneg hy (by omega)
    omega
  · intro hy
    have : y.1 * x.2 < 0 := Int.mul_neg_of_neg_of_pos hy (by omega)
    refine Int.not_le.1 fun hx => ?_
    have : 0 ≤ x.1 * y.2 := Int.mul_nonneg hx (by omega)
    omega
theorem Twi.nz {x y : Int × Int} (h : Twi x y) : x.1 = 0 ↔ y.1 = 0 := by
  have hc := h.cross
  have h1 := (Y09 h.vl).1
  have h2 := (Y09 h.vr).1
  constructor
  · intro hx
    rw [hx, Int.zero_mul] at hc
    rcases Int.mul_eq_zero.1 hc.symm with e | e
    · exact e
    · omega
  · intro hy
    rw [hy, Int.zero_mul] at hc
    have : x.1 * y.2 = 0 := by omega
    rcases Int.mul_eq_zero.1 this with e | e
    · exact e
    · omega
theorem Twi.eq {x y a b : Int × Int} (h : Twi x y) (k : Twi a b) : x = a ↔ y = b := by
  obtain ⟨p, q, h1, h2⟩ := h
  obtain ⟨r, s, k1, k2⟩ := k
  constructor
  · intro e
    subst e
    have := h1.same k1
    exact h2.eq k2 (by rw [Int.mul_assoc, Int.mul_assoc, this])
  · intro e
    subst e
    have := h2.same k2
    rw [Int.mul_assoc, Int.mul_assoc] at this
    exact h1.eq k1 (by omega)
theorem Twi.mulL {a x y : Int × Int} (h : Twi x y) (h1 : (mulP a x).2 = 0) (h2 : (mulP a y).2 = 0) : Twi (mulP a x).1 (mulP a y).1 := by
  obtain ⟨p, q, k1, k2⟩ := h
  have va := Val.self (mul0 h1).1
  refine ⟨_, _, va.mulP k1 h1, ?_⟩
  rw [show 2 * (a.1 * p) = a.1 * (2 * p) by ac_rfl]
  exact va.mulP k2 h2
theorem Twi.mulRt {a x y : Int × Int} (h : Twi x y) (h1 : (mulP x a).2 = 0) (h2 : (mulP y a).2 = 0) : Twi (mulP x a).1 (mulP y a).1 := by
  obtain ⟨p, q, k1, k2⟩ := h
  have va := Val.self (mul0 h1).2.1
  refine ⟨_, _, k1.mulP va h1, ?_⟩
  rw [show 2 * (p * a.1) = 2 * p * a.1 by ac_rfl]
  exact k2.mulP va h2
theorem Twi.add {x y a b : Int × Int} (h : Twi x y) (k : Twi a b) (h1 : (addP x a).2 = 0) (h2 : (addP y b).2 = 0) : Twi (addP x a).1 (addP y b).1 := by
  obtain ⟨p, q, k1, k2⟩ := h
  obtain ⟨r, s, l1, l2⟩ := k
  refine ⟨_, _, k1.addP l1 h1, ?_⟩
  rw [show 2 * (p * s + r * q) = 2 * p * s + 2 * r * q by grind]
  exact k2.addP l2 h2
theorem Twi.div {x y a : Int × Int} (h : Twi x y) (h1 : (divP x a).2 = 0) (h2 : (divP y a).2 = 0) : Twi (divP x a).1 (divP y a).1 := by
  obtain ⟨p, q, k1, k2⟩ := h
  have va := Val.self (Yay h1).2.1
  refine ⟨_, _, k1.divP va h1, ?_⟩
  rw [show 2 * (p * a.2) = 2 * p * a.2 by ac_rfl]
  exact k2.divP va h2
theorem Twi.two {x y : Int × Int} (h : Twi x y) (h1 : (mulP x (2, 1)).2 = 0) : (mulP x (2, 1)).1 = y := by
  obtain ⟨p, q, k1, k2⟩ := h
  exact (k1.mulP (Val.one (by omega)) h1).eq k2 (by grind)
def TwL : List (Int × Int) → List (Int × Int) → Prop
  | [], [] => True
  | x :: l, y :: m => Twi x y ∧ TwL l m
  | _, _ => False
theorem TwL.len : ∀ {l m : List (Int × Int)}, TwL l m → l.length = m.length
  | [], [], _ => rfl
  | _ :: l, _ :: m, h => by simp [TwL.len (l := l) (m := m) h.2]
  | [], _ :: _, h => h.elim
  | _ :: _, [], h => h.elim
theorem TwL.push {x y : Int × Int} (hx : Twi x y) : ∀ {l m : List (Int × Int)}, TwL l m → TwL (l ++ [x]) (m ++ [y])
  | [], [], _ => ⟨hx, trivial⟩
  | _ :: l, _ :: m, h => ⟨h.1, TwL.push hx (l := l) (m := m) h.2⟩
  | [], _ :: _, h => h.elim
  | _ :: _, [], h => h.elim
theorem TwL.at : ∀ {l m : List (Int × Int)} (k : Nat), TwL l m → k < l.length → Twi (l.getD k (0, 0)) (m.getD k (0, 0))
  | [], [], _, _, h => absurd h (by simp)
  | _ :: l, _ :: m, 0, h, _ => h.1
  | _ :: l, _ :: m, k + 1, h, hk => TwL.at (l := l) (m := m) k h.2 (by simp at hk; omega)
  | [], _ :: _, _, h, _ => h.elim
  | _ :: _, [], _, h, _ => h.elim
theorem TwL.any : ∀ {l m : List (Int × Int)}, TwL l m → (l.any fun x => x.1 != 0) = m.any fun x => x.1 != 0
  | [], [], _ => rfl
  | x :: l, y :: m, h => by
    have e : (x.1 != 0) = (y.1 != 0) := by
      have := h.1.nz
      rw [Bool.eq_iff_iff]
      simp [this]
    rw [List.any_cons, List.any_cons, TwL.any (l := l) (m := m) h.2, e]
  | [], _ :: _, h => h.elim
  | _ :: _, [], h => h.elim
theorem Yal (l : List (Int × Int)) : nzI l < 0 ↔ (l.any fun x => x.1 != 0) = false := by
  have := Y7z (fun x : Int × Int => x.1 != 0) l 0
  unfold nzI
  rw [← this, decide_eq_false_iff_not]
  omega
theorem Yfh {l : List (Int × Int)} (h : ¬ nzI l < 0) : (nzI l).toNat < l.length ∧ (l.getD (nzI l).toNat (0, 0)).1 ≠ 0 ∧ l.getD (nzI l).toNat (0, 0) ∈ l := by
  rw [Yal, Bool.not_eq_false] at h
  obtain ⟨k, x, e, hk, hx⟩ := (Y6l (fun x : Int × Int => x.1 != 0) l 0).1 h
  have e' : (nzI l).toNat = k := by unfold nzI; rw [e]; simp
  rw [e', List.getD_eq_getElem?_getD, hk, Option.getD_some]
  exact ⟨(List.getElem?_eq_some_iff.1 hk).1, by simpa using hx, List.mem_of_getElem? hk⟩
theorem Y4k : ∀ (a b : List (Int × Int)) (s : Int × Int), vfrac s.1 s.2 = true → (dotV a b s).2 = 0 → vfrac (dotV a b s).1.1 (dotV a b s).1.2 = true
  | [], _, s, hs, _ => by simpa [dotV] using hs
  | _ :: _, [], s, hs, _ => by simpa [dotV] using hs
  | x :: a, y :: b, s, hs, h => by
    simp only [dotV] at h ⊢
    by_cases h1 : (mulP x y).2 = 0
    · rw [if_pos h1] at h ⊢
      by_cases h2 : (addP s (mulP x y).1).2 = 0
      · rw [if_pos h2] at h ⊢
        exact Y4k a b _ (add0v h2) h
      · rw [if_neg h2] at h
        exact absurd h h2
    · rw [if_neg h1] at h
      exact absurd h h1
theorem Yef : ∀ (v l m : List (Int × Int)) (s u : Int × Int), (∀ x ∈ v, vfrac x.1 x.2 = true) → TwL l m → Twi s u → (dotV v l s).2 ≠ 5 → (dotV v m u).2 ≠ 5 → (dotV v l s).2 = 0 ∧ (dotV v m u).2 = 0 ∧ Twi (dotV v l s).1 (dotV v m u).1
  | [], l, m, s, u, _, _, hs, _, _ => by cases l <;> cases m <;> exact ⟨rfl, rfl, hs⟩
  | _ :: _, [], [], s, u, _, _, hs, _, _ => ⟨rfl, rfl, hs⟩
  | _ :: _, [], _ :: _, _, _, _, h, _, _, _ => h.elim
  | _ :: _, _ :: _, [], _, _, _, h, _, _, _ => h.elim
  | x :: v, a :: l, b :: m, s, u, hv, hl, hs, h1, h2 => by
    have vx := hv x (by simp)
    simp only [dotV] at h1 h2 ⊢
    have m1 : (mulP x a).2 = 0 := by
      refine mul5 vx hl.1.vl fun e => h1 ?_
      rw [if_neg (by omega), e]
    have m2 : (mulP x b).2 = 0 := by
      refine mul5 vx hl.1.vr fun e => h2 ?_
      rw [if_neg (by omega), e]
    rw [if_pos m1] at h1 ⊢
    rw [if_pos m2] at h2 ⊢
    have ht := hl.1.mulL m1 m2
    have a1 : (addP s (mulP x a).1).2 = 0 := by
      refine add5 hs.vl ht.vl fun e => h1 ?_
      rw [if_neg (by omega), e]
    have a2 : (addP u (mulP x b).1).2 = 0 := by
      refine add5 hs.vr ht.vr fun e => h2 ?_
      rw [if_neg (by omega), e]
    rw [if_pos a1] at h1 ⊢
    rw [if_pos a2] at h2 ⊢
    exact Yef v l m _ _ (fun y hy => hv y (by simp [hy])) hl.2 (hs.add ht a1 a2) h1 h2
theorem Ybr {l m grip : List (Int × Int)} (hl : TwL l m) : ∀ (L : List (List (Int × Int))) (w u p : List (Int × Int)), (∀ v ∈ L, ∀ x ∈ v, vfrac x.1 x.2 = true) → TwL w u → (∀ x ∈ p, vfrac x.1 x.2 = true) → w.length = p.length → (pairA l grip L w p).2 ≠ 5 → (pairA m grip L u p).2 ≠ 5 →
    (pairA l grip L w p).2 = (pairA m grip L u p).2 ∧ ((pairA l grip L w p).2 = 0 → TwL (pairA l grip L w p).1.1 (pairA m grip L u p).1.1 ∧ (pairA m grip L u p).1.2 = (pairA l grip L w p).1.2 ∧ (∀ x ∈ (pairA l grip L w p).1.2, vfrac x.1 x.2 = true) ∧ (pairA l grip L w p).1.1.length = (pairA l grip L w p).1.2.length)
  | [], w, u, p, _, hw, hp, hlen, _, _ => ⟨rfl, fun _ => ⟨hw, rfl, hp, hlen⟩⟩
  | v :: L, w, u, p, hL, hw, hp, hlen, h1, h2 => by
    have vv := hL v (by simp)
    simp only [pairA] at h1 h2 ⊢
    have q1' : (dotV v l (0, 1)).2 ≠ 5 := fun e => h1 (by rw [if_neg (by omega), e])
    have q2' : (dotV v m (0, 1)).2 ≠ 5 := fun e => h2 (by rw [if_neg (by omega), e])
    obtain ⟨d1, d2, dt⟩ := Yef v l m _ _ vv hl Twi.zero q1' q2'
    rw [if_pos d1] at h1 ⊢
    rw [if_pos d2] at h2 ⊢
    by_cases hg : (dotV v grip (0, 1)).2 = 0
    · rw [if_pos hg] at h1 h2 ⊢
      rw [if_pos hg]
      refine Ybr hl L _ _ _ (fun y hy => hL y (by simp [hy])) (hw.push dt) (fun x hx => ?_) (by simp [hlen]) h1 h2
      rcases List.mem_append.1 hx with hx | hx
      · exact hp x hx
      · rw [List.mem_singleton] at hx
        subst hx
        exact Y4k _ _ _ (by decide) hg
    · rw [if_neg hg, if_neg hg]
      exact ⟨rfl, fun e => absurd e hg⟩
theorem Yej {t u : Int × Int} (ht : Twi t u) : ∀ (p w z : List (Int × Int)) (ok : Bool), (∀ x ∈ p, vfrac x.1 x.2 = true) → TwL w z → (balR t p w ok).2 ≠ 5 → (balR u p z ok).2 ≠ 5 → (balR t p w ok).2 = 0 ∧ balR u p z ok = balR t p w ok
  | [], w, z, ok, _, _, _, _ => by cases w <;> cases z <;> exact ⟨rfl, rfl⟩
  | _ :: _, [], [], ok, _, _, _, _ => ⟨rfl, rfl⟩
  | _ :: _, [], _ :: _, _, _, h, _, _ => h.elim
  | _ :: _, _ :: _, [], _, _, h, _, _ => h.elim
  | x :: p, a :: w, b :: z, ok, hp, hw, h1, h2 => by
    have vx := hp x (by simp)
    simp only [balR] at h1 h2 ⊢
    have m1 : (mulP x t).2 = 0 := by
      refine mul5 vx ht.vl fun e => h1 ?_
      rw [if_neg (by omega), e]
    have m2 : (mulP x u).2 = 0 := by
      refine mul5 vx ht.vr fun e => h2 ?_
      rw [if_neg (by omega), e]
    rw [if_pos m1] at h1 ⊢
    rw [if_pos m2] at h2 ⊢
    have e : decide ((mulP x u).1 = b) = decide ((mulP x t).1 = a) := decide_eq_decide.2 ((ht.mulL m1 m2).eq hw.1).symm
    rw [e] at h2 ⊢
    exact Yej ht p w z _ (fun y hy => hp y (by simp [hy])) hw.2 h1 h2
theorem balP_twi {w u p : List (Int × Int)} (hw : TwL w u) (hp : ∀ x ∈ p, vfrac x.1 x.2 = true) (hlen : w.length = p.length) (h1 : (balP w p).2 ≠ 5) (h2 : (balP u p).2 ≠ 5) : (balP w p).2 = (balP u p).2 ∧ ((balP w p).2 = 0 → Twi (balP w p).1 (balP u p).1) := by
  unfold balP at h1 h2 ⊢
  by_cases hn : nzI p < 0
  · rw [if_pos hn, if_pos hn]
    have e : (nzI w < 0) ↔ (nzI u < 0) := by rw [Yal, Yal, hw.any]
    by_cases h : nzI w < 0
    · rw [if_pos h, if_pos (e.1 h)]
      exact ⟨rfl, fun h => by simp at h⟩
    · rw [if_neg h, if_neg fun k => h (e.2 k)]
      exact ⟨rfl, fun h => by simp at h⟩
  · rw [if_neg hn] at h1 h2 ⊢
    rw [if_neg hn]
    obtain ⟨hk, hnz, hmem⟩ := Yfh hn
    have hx := hw.at (nzI p).toNat (by omega)
    have vp := hp _ hmem
    generalize p.getD (nzI p).toNat (0, 0) = c at *
    generalize w.getD (nzI p).toNat (0, 0) = a at *
    generalize u.getD (nzI p).toNat (0, 0) = b at *
    have d1 : (divP a c).2 = 0 := by
      refine div5 hx.vl vp hnz fun e => h1 ?_
      rw [if_neg (by omega), e]
    have d2 : (divP b c).2 = 0 := by
      refine div5 hx.vr vp hnz fun e => h2 ?_
      rw [if_neg (by omega), e]
    rw [if_pos d1] at h1 ⊢
    rw [if_pos d2] at h2 ⊢
    have ht := hx.div d1 d2
    generalize (divP a c).1 = t at *
    generalize (divP b c).1 = t' at *
    have b1 : (balR t p w true).2 ≠ 5 := fun e => h1 (by rw [if_neg (by omega), e])
    have b2 : (balR t' p u true).2 ≠ 5 := fun e => h2 (by rw [if_neg (by omega), e])
    obtain ⟨r1, r2⟩ := Yej ht p w u true hp hw b1 b2
    rw [r2, if_pos r1, if_pos r1]
    by_cases hb : (balR t p w true).1 = false
    · rw [if_pos hb, if_pos hb]
      exact ⟨rfl, fun h => by simp at h⟩
    · rw [if_neg hb, if_neg hb]
      by_cases hs : t.1 < 0
      · rw [if_pos hs, if_pos (ht.neg.1 hs)]
        exact ⟨rfl, fun h => by simp at h⟩
      · rw [if_neg hs, if_neg fun k => hs (ht.neg.2 k)]
        exact ⟨rfl, fun _ => ht⟩
def dblB (bs : List Bk) : List Bk := chW (fun _ b => b.w * 2) bs bs.length
def dblS (s : Sy) : Sy := ⟨dblB s.bs, s.rs⟩
theorem dblB_eq (bs : List Bk) : dblB bs = bs.map fun b => ⟨b.nm, b.w * 2⟩ := by
  unfold dblB
  rw [chW_end]
  refine List.ext_getElem? fun i => ?_
  rw [List.getElem?_mapIdx, List.getElem?_map]
theorem Y9l {f : Bk → Bk} (h : ∀ b, (f b).nm = b.nm) (r : Rp) (up : Bool) : ∀ (bs : List Bk) (acc : List (Int × Int)), Y11 r up (bs.map f) acc = Y11 r up bs acc
  | [], _ => rfl
  | b :: l, acc => by
    simp only [List.map_cons, Y11, h b]
    rw [Y9l h r up l]
theorem matS_map {s : Sy} {f : Bk → Bk} (h : ∀ b, (f b).nm = b.nm) : matS ⟨s.bs.map f, s.rs⟩ = matS s := by
  unfold matS
  rw [List.map_map]
  refine List.map_congr_left fun b _ => ?_
  simp only [Function.comp, h b]
theorem Yfk {s : Sy} (hv : Y0f s = true) : ∀ v ∈ (Y1c s).1, ∀ x ∈ v, vfrac x.1 x.2 = true := by
  intro v hvm x hx
  obtain ⟨k, hk⟩ := List.mem_iff_getElem?.1 hx
  have ok := Y1b hv
  unfold Y1c at hvm
  rw [if_pos hv] at hvm
  by_cases hf : fixA s = []
  · rw [if_pos hf] at hvm
    obtain ⟨i, _, rfl⟩ := List.mem_map.1 hvm
    obtain ⟨j, _, rfl⟩ := List.mem_map.1 hx
    simp only
    split <;> decide
  · rw [if_neg hf] at hvm
    obtain ⟨rv, _, _⟩ := Y3k ok hf (by have := Y3m s.rs (-1) s.rs.length; unfold fixA; have := ok.r6; omega) (fun i hi => Y88 hi)
    obtain ⟨_, Z, D, _, _, hval⟩ := modes_val rv hvm
    exact (hval k x hk).v
theorem twice {s : Sy} (hv : Y0f s = true) (hd : Y0f (dblS s) = true) (up : Bool) (h1 : (Y0b s up).2 ≠ 5) (h2 : (Y0b (dblS s) up).2 ≠ 5) : (Y0b s up).2 = (Y0b (dblS s) up).2 ∧ ((Y0b s up).2 = 0 → Twi (Y0b s up).1 (Y0b (dblS s) up).1) ∧ ((Y0b s up).2 ≠ 0 → (Y0b s up).1 = (0, 0) ∧ (Y0b (dblS s) up).1 = (0, 0)) := by
  have ok := Y1b hv
  have okd := Y1b hd
  have eb : (dblS s).bs = s.bs.map fun b => ⟨b.nm, b.w * 2⟩ := dblB_eq s.bs
  have er : (dblS s).rs = s.rs := rfl
  have es : dblS s = ⟨s.bs.map fun b => ⟨b.nm, b.w * 2⟩, s.rs⟩ := by rw [← eb]; rfl
  have ex : hix (dblS s) = hix s := rfl
  have eg : givL (dblS s) = givL s := by
    unfold givL
    rw [if_pos hv, if_pos hd, ex, er]
  have eh : hauR (dblS s) = hauR s := rfl
  have em : matS (dblS s) = matS s := by rw [es]; exact matS_map fun _ => rfl
  have ef : fixA (dblS s) = fixA s := rfl
  have et : trS (dblS s) = trS s := by unfold trS; rw [em, er]
  have eM : (Y1c (dblS s)).1 = (Y1c s).1 := by
    unfold Y1c rowsF
    rw [if_pos hv, if_pos hd, ef, et, eb, List.length_map]
  have eG : ∀ r, Y11 r up (dblS s).bs [] = Y11 r up s.bs [] := fun r => by rw [eb]; exact Y9l (f := fun b => ⟨b.nm, b.w * 2⟩) (fun _ => rfl) r up s.bs []
  have hT : ∀ (l : List Bk), (∀ b ∈ l, 0 ≤ b.w ∧ b.w ≤ 16777216) → TwL (l.map fun b => (b.w, (1 : Int))) ((l.map fun b => (⟨b.nm, b.w * 2⟩ : Bk)).map fun b => (b.w, 1)) := by
    intro l
    induction l with
    | nil => intro _; trivial
    | cons b l ih =>
      intro hw
      refine ⟨⟨b.w, 1, Val.one (by have := hw b (by simp); omega), ?_⟩, ih fun c hc => hw c (by simp [hc])⟩
      have := hw b (by simp)
      rw [Int.mul_comm]
      exact Val.one (by simp only; omega)
  have hL : TwL (loadP s) (loadP (dblS s)) := by
    unfold loadP
    rw [eb]
    exact hT s.bs ok.wts
  have hpair := Ybr (grip := (Y11 (hauR s) up s.bs []).1) hL (Y1c s).1 [] [] [] (Yfk hv) trivial (by simp) rfl
  have ep : prsP (dblS s) up = pairA (loadP (dblS s)) (Y11 (hauR s) up s.bs []).1 (Y1c s).1 [] [] := by unfold prsP; rw [eh, eG, eM]
  have ep0 : prsP s up = pairA (loadP s) (Y11 (hauR s) up s.bs []).1 (Y1c s).1 [] [] := rfl
  rw [← ep, ← ep0] at hpair
  have key : (Y0h s up).2.2 ≠ 5 → (Y0h (dblS s) up).2.2 ≠ 5 → (Y0h s up).2.2 = (Y0h (dblS s) up).2.2 ∧ ((Y0h s up).2.2 = 0 → Twi (Y0h s up).1 (Y0h (dblS s) up).1 ∧ (Y0h (dblS s) up).2.1 = (Y0h s up).2.1) := by
    intro k1 k2
    unfold Y0h at k1 k2 ⊢
    rw [eg, eh, eG] at k2 ⊢
    by_cases hg : givL s = 0
    rotate_left 1
    · rw [if_neg hg, if_neg hg]
      exact ⟨rfl, fun h => absurd h hg⟩
    rw [if_pos hg] at k1 k2 ⊢
    rw [if_pos hg]
    by_cases ha : (Y1j (hauR s) up).2 = 0
    rotate_left 1
    · rw [if_neg ha, if_neg ha]
      exact ⟨rfl, fun h => absurd h ha⟩
    rw [if_pos ha] at k1 k2 ⊢
    rw [if_pos ha]
    by_cases hgr : (Y11 (hauR s) up s.bs []).2 = 0
    rotate_left 1
    · rw [if_neg hgr, if_neg hgr]
      exact ⟨rfl, fun h => absurd h hgr⟩
    rw [if_pos hgr] at k1 k2 ⊢
    rw [if_pos hgr]
    have p1 : (prsP s up).2 ≠ 5 := fun e => k1 (by rw [if_neg (by omega), e])
    have p2 : (prsP (dblS s) up).2 ≠ 5 := fun e => k2 (by rw [if_neg (by omega), e])
    obtain ⟨pe, pt⟩ := hpair p1 p2
    by_cases hp : (prsP s up).2 = 0
    rotate_left 1
    · rw [if_neg hp, if_neg (by omega), pe]
      exact ⟨rfl, fun h => absurd (pe.trans h) hp⟩
    obtain ⟨t1, t2, t3, t4⟩ := pt hp
    rw [if_pos hp] at k1 ⊢
    rw [if_pos (by omega)] at k2 ⊢
    simp only at k1 k2 ⊢
    rw [t2] at k2 ⊢
    obtain ⟨b1, b2⟩ := balP_twi t1 t3 t4 k1 k2
    exact ⟨b1, fun h => ⟨b2 h, by first | rfl | trivial⟩⟩
  have f1 : (Y0h s up).2.2 ≠ 5 := fun e => h1 (by unfold Y0b; rw [if_neg (by omega), e])
  have f2 : (Y0h (dblS s) up).2.2 ≠ 5 := fun e => h2 (by unfold Y0b; rw [if_neg (by omega), e])
  obtain ⟨ke, kt⟩ := key f1 f2
  unfold Y0b at h1 h2 ⊢
  by_cases h0 : (Y0h s up).2.2 = 0
  rotate_left 1
  · rw [if_neg h0, if_neg (by omega), ke]
    exact ⟨rfl, fun h => absurd (ke.trans h) h0, fun _ => ⟨rfl, rfl⟩⟩
  obtain ⟨t1, t2⟩ := kt h0
  rw [if_pos h0] at h1 ⊢
  rw [if_pos (by omega)] at h2 ⊢
  rw [t2] at h2 ⊢
  generalize (Y0h s up).2.1.getD ((Y0h s up).2.1.length - 1) (0, 0) = c at *
  by_cases hc : vfrac c.1 c.2 = true
  · have m1 := mul5 t1.vl hc h1
    have m2 := mul5 t1.vr hc h2
    exact ⟨by rw [m1, m2], fun _ => t1.mulRt m1 m2, fun h => absurd m1 h⟩
  · have e : ∀ x, mulP x c = ((0, 0), 1) := fun x => by unfold mulP; rw [if_neg fun h => hc h.2]
    simp [e]
end Go.Proofs.YtpcakodemleoiaaGreat.T

