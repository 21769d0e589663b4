import Derived.Test.YtpcakodemleoiaaRMQACPY
import Derived.Test.YtpcakodemleoiaaTB
import Derived.Test.YtpcakodemleoiaaWPJ
import Derived.Test.YtpcakodemleoiaaRMGIMGK
import Derived.Test.YtpcakodemleoiaaLSJ
import Derived.Test.YtpcakodemleoiaaRAVQALG
import Derived.Test.YtpcakodemleoiaaRSKM
set_option linter.all false
namespace Go.Proofs.Ytpcakodemleoiaa.T
open Go Go.RowKit Lin
set_option linter.unusedSimpArgs false

/-! Chapter 14 (plain): twice the weights need twice the forces. -/
theorem mul0 {a b : Int × Int} (h : (mulP a b).2 = 0) : vfrac a.1 a.2 = true ∧ vfrac b.1 b.2 = true ∧ mulP a b = mulR a b ∧ (mulR a b).2 = 0 := by
  unfold mulP at h ⊢
  split at h
  · rename_i h1
    rw [if_pos h1]
    exact ⟨h1.1, h1.2, rfl, h⟩
  · simp at h
theorem add0 {a b : Int × Int} (h : (addP a b).2 = 0) : vfrac a.1 a.2 = true ∧ vfrac b.1 b.2 = true ∧ addP a b = addR a b ∧ (addR a b).2 = 0 := by
  unfold addP at h ⊢
  split at h
  · rename_i h1
    rw [if_pos h1]
    exact ⟨h1.1, h1.2, rfl, h⟩
  · simp at h
theorem mul5 {a b : Int × Int} (ha : vfrac a.1 a.2 = true) (hb : vfrac b.1 b.2 = true) (h : (mulP a b).2 ≠ 5) : (mulP a b).2 = 0 := by
  rw [mulP_ok ha hb] at h ⊢
  rcases mulR_err ha hb with e | e
  · exact e
  · exact absurd e h
theorem add5 {a b : Int × Int} (ha : vfrac a.1 a.2 = true) (hb : vfrac b.1 b.2 = true) (h : (addP a b).2 ≠ 5) : (addP a b).2 = 0 := by
  rw [addP_ok ha hb] at h ⊢
  rcases addR_err ha hb with e | e
  · exact e
  · exact absurd e h
theorem div5 {a b : Int × Int} (ha : vfrac a.1 a.2 = true) (hb : vfrac b.1 b.2 = true) (h0 : b.1 ≠ 0) (h : (divP a b).2 ≠ 5) : (divP a b).2 = 0 := by
  rw [divP_ok ha hb] at h ⊢
  rcases divR_err ha hb with ⟨e, _⟩ | ⟨_, e | e⟩
  · exact absurd e h0
  · exact e
  · exact absurd e h
theorem mul0v {a b : Int × Int} (h : (mulP a b).2 = 0) : vfrac (mulP a b).1.1 (mulP a b).1.2 = true := by
  obtain ⟨h1, h2, e, h3⟩ := mul0 h
  rw [e]
  exact mulR_valid h1 h2 h3
theorem add0v {a b : Int × Int} (h : (addP a b).2 = 0) : vfrac (addP a b).1.1 (addP a b).1.2 = true := by
  obtain ⟨h1, h2, e, h3⟩ := add0 h
  rw [e]
  exact addR_valid h1 h2 h3
theorem Val.mulP {a b : Int × Int} {p q r s : Int} (h : Val a p q) (k : Val b r s) (ok : (T.mulP a b).2 = 0) : Val (T.mulP a b).1 (p * r) (q * s) := by
  obtain ⟨h1, h2, e, h3⟩ := mul0 ok
  rw [e]
  exact h.mul k h3
theorem Val.addP {a b : Int × Int} {p q r s : Int} (h : Val a p q) (k : Val b r s) (ok : (T.addP a b).2 = 0) : Val (T.addP a b).1 (p * s + r * q) (q * s) := by
  obtain ⟨h1, h2, e, h3⟩ := add0 ok
  rw [e]
  exact h.add k h3
theorem Val.divP {a b : Int × Int} {p q r s : Int} (h : Val a p q) (k : Val b r s) (ok : (T.divP a b).2 = 0) : Val (T.divP a b).1 (p * s) (q * r) := by
  obtain ⟨h1, h2, h0, e⟩ := divP_val ok
  rw [e] at ok ⊢
  exact h.div k h0 ok
def Twi (x y : Int × Int) : Prop := ∃ p q, Val x p q ∧ Val y (2 * p) q
theorem Twi.vl {x y : Int × Int} (h : Twi x y) : vfrac x.1 x.2 = true := by obtain ⟨p, q, a, b⟩ := h; exact a.v
theorem Twi.vr {x y : Int × Int} (h : Twi x y) : vfrac y.1 y.2 = true := by obtain ⟨p, q, a, b⟩ := h; exact b.v
theorem Twi.zero : Twi (0, 1) (0, 1) := ⟨0, 1, Val.one (by omega), Val.one (by omega)⟩
theorem Twi.cross {x y : Int × Int} (h : Twi x y) : 2 * (x.1 * y.2) = y.1 * x.2 := by
  obtain ⟨p, q, a, b⟩ := h
  refine cancel (c := q) a.n0 ?_
  have h1 := a.e
  have h2 := b.e
  calc 2 * (x.1 * y.2) * q = 2 * y.2 * (x.1 * q) := by ac_rfl
    _ = 2 * y.2 * (p * x.2) := by rw [h1]
    _ = x.2 * (2 * p * y.2) := by ac_rfl
    _ = x.2 * (y.1 * q) := by rw [h2]
    _ = y.1 * x.2 * q := by ac_rfl
theorem Twi.neg {x y : Int × Int} (h : Twi x y) : x.1 < 0 ↔ y.1 < 0 := by
  have hc := h.cross
  have h1 := (fr_bounds h.vl).1
  have h2 := (fr_bounds h.vr).1
  constructor
  · intro hx
    have : x.1 * y.2 < 0 := Int.mul_neg_of_neg_of_pos hx (by omega)
    refine Int.not_le.1 fun hy => ?_
    have : 0 ≤ y.1 * x.2 := Int.mul_nonneg hy (by omega)
    omega
  · intro hy
    have : y.1 * x.2 < 0 := Int.mul_neg_of_neg_of_pos hy (by omega)
    refine Int.not_le.1 fun hx => ?_
    have : 0 ≤ x.1 * y.2 := Int.mul_nonneg hx (by omega)
    omega
theorem Twi.nz {x y : Int × Int} (h : Twi x y) : x.1 = 0 ↔ y.1 = 0 := by
  have hc := h.cross
  have h1 := (fr_bounds h.vl).1
  have h2 := (fr_bounds h.vr).1
  constructor
  · intro hx
    rw [hx, Int.zero_mul] at hc
    rcases Int.mul_eq_zero.1 hc.symm with e | e
    · exact e
    · omega
  · intro hy
    rw [hy, Int.zero_mul] at hc
    have : x.1 * y.2 = 0 := by omega
    rcases Int.mul_eq_zero.1 this with e | e
    · exact e
    · omega
theorem Twi.eq {x y a b : Int × Int} (h : Twi x y) (k : Twi a b) : x = a ↔ y = b := by
  obtain ⟨p, q, h1, h2⟩ := h
  obtain ⟨r, s, k1, k2⟩ := k
  constructor
  · intro e
    subst e
    have := h1.same k1
    exact h2.eq k2 (by rw [Int.mul_assoc, Int.mul_assoc, this])
  · intro e
    subst e
    have := h2.same k2
    rw [Int.mul_assoc, Int.mul_assoc] at this
    exact h1.eq k1 (by omega)
theorem Twi.mulL {a x y : Int × Int} (h : Twi x y) (h1 : (mulP a x).2 = 0) (h2 : (mulP a y).2 = 0) : Twi (mulP a x).1 (mulP a y).1 := by
  obtain ⟨p, q, k1, k2⟩ := h
  have va := Val.self (mul0 h1).1
  refine ⟨_, _, va.mulP k1 h1, ?_⟩
  rw [show 2 * (a.1 * p) = a.1 * (2 * p) by ac_rfl]
  exact va.mulP k2 h2
theorem Twi.mulRt {a x y : Int × Int} (h : Twi x y) (h1 : (mulP x a).2 = 0) (h2 : (mulP y a).2 = 0) : Twi (mulP x a).1 (mulP y a).1 := by
  obtain ⟨p, q, k1, k2⟩ := h
  have va := Val.self (mul0 h1).2.1
  refine ⟨_, _, k1.mulP va h1, ?_⟩
  rw [show 2 * (p * a.1) = 2 * p * a.1 by ac_rfl]
  exact k2.mulP va h2
theorem Twi.add {x y a b : Int × Int} (h : Twi x y) (k : Twi a b) (h1 : (addP x a).2 = 0) (h2 : (addP y b).2 = 0) : Twi (addP x a).1 (addP y b).1 := by
  obtain ⟨p, q, k1, k2⟩ := h
  obtain ⟨r, s, l1, l2⟩ := k
  refine ⟨_, _, k1.addP l1 h1, ?_⟩
  rw [show 2 * (p * s + r * q) = 2 * p * s + 2 * r * q by grind]
  exact k2.addP l2 h2
theorem Twi.div {x y a : Int × Int} (h : Twi x y) (h1 : (divP x a).2 = 0) (h2 : (divP y a).2 = 0) : Twi (divP x a).1 (divP y a).1 := by
  obtain ⟨p, q, k1, k2⟩ := h
  have va := Val.self (divP_val h1).2.1
  refine ⟨_, _, k1.divP va h1, ?_⟩
  rw [show 2 * (p * a.2) = 2 * p * a.2 by ac_rfl]
  exact k2.divP va h2
theorem Twi.two {x y : Int × Int} (h : Twi x y) (h1 : (mulP x (2, 1)).2 = 0) : (mulP x (2, 1)).1 = y := by
  obtain ⟨p, q, k1, k2⟩ := h
  exact (k1.mulP (Val.one (by omega)) h1).eq k2 (by grind)
def TwL : List (Int × Int) → List (Int × Int) → Prop
  | [], [] => True
  | x :: l, y :: m => Twi x y ∧ TwL l m
  | _, _ => False
theorem TwL.len : ∀ {l m : List (Int × Int)}, TwL l m → l.length = m.length
  | [], [], _ => rfl
  | _ :: l, _ :: m, h => by simp [TwL.len (l := l) (m := m) h.2]
  | [], _ :: _, h => h.elim
  | _ :: _, [], h => h.elim
theorem TwL.push {x y : Int × Int} (hx : Twi x y) : ∀ {l m : List (Int × Int)}, TwL l m → TwL (l ++ [x]) (m ++ [y])
  | [], [], _ => ⟨hx, trivial⟩
  | _ :: l, _ :: m, h => ⟨h.1, TwL.push hx (l := l) (m := m) h.2⟩
  | [], _ :: _, h => h.elim
  | _ :: _, [], h => h.elim
theorem TwL.at : ∀ {l m : List (Int × Int)} (k : Nat), TwL l m → k < l.length → Twi (l.getD k (0, 0)) (m.getD k (0, 0))
  | [], [], _, _, h => absurd h (by simp)
  | _ :: l, _ :: m, 0, h, _ => h.1
  | _ :: l, _ :: m, k + 1, h, hk => TwL.at (l := l) (m := m) k h.2 (by simp at hk; omega)
  | [], _ :: _, _, h, _ => h.elim
  | _ :: _, [], _, h, _ => h.elim
theorem TwL.any : ∀ {l m : List (Int × Int)}, TwL l m → (l.any fun x => x.1 != 0) = m.any fun x => x.1 != 0
  | [], [], _ => rfl
  | x :: l, y :: m, h => by
    have e : (x.1 != 0) = (y.1 != 0) := by
      have := h.1.nz
      rw [Bool.eq_iff_iff]
      simp [this]
    rw [List.any_cons, List.any_cons, TwL.any (l := l) (m := m) h.2, e]
  | [], _ :: _, h => h.elim
  | _ :: _, [], h => h.elim
theorem nzI_neg (l : List (Int × Int)) : nzI l < 0 ↔ (l.any fun x => x.1 != 0) = false := by
  have := idx_any (fun x : Int × Int => x.1 != 0) l 0
  unfold nzI
  rw [← this, decide_eq_false_iff_not]
  omega
theorem nzI_hit {l : List (Int × Int)} (h : ¬ nzI l < 0) : (nzI l).toNat < l.length ∧ (l.getD (nzI l).toNat (0, 0)).1 ≠ 0 ∧ l.getD (nzI l).toNat (0, 0) ∈ l := by
  rw [nzI_neg, Bool.not_eq_false] at h
  obtain ⟨k, x, e, hk, hx⟩ := (idx_lt (fun x : Int × Int => x.1 != 0) l 0).1 h
  have e' : (nzI l).toNat = k := by unfold nzI; rw [e]; simp
  rw [e', List.getD_eq_getElem?_getD, hk, Option.getD_some]
  exact ⟨(List.getElem?_eq_some_iff.1 hk).1, by simpa using hx, List.mem_of_getElem? hk⟩
theorem dotV_valid : ∀ (a b : List (Int × Int)) (s : Int × Int), vfrac s.1 s.2 = true → (dotV a b s).2 = 0 → vfrac (dotV a b s).1.1 (dotV a b s).1.2 = true
  | [], _, s, hs, _ => by simpa [dotV] using hs
  | _ :: _, [], s, hs, _ => by simpa [dotV] using hs
  | x :: a, y :: b, s, hs, h => by
    simp only [dotV] at h ⊢
    by_cases h1 : (mulP x y).2 = 0
    · rw [if_pos h1] at h ⊢
      by_cases h2 : (addP s (mulP x y).1).2 = 0
      · rw [if_pos h2] at h ⊢
        exact dotV_valid a b _ (add0v h2) h
      · rw [if_neg h2] at h
        exact absurd h h2
    · rw [if_neg h1] at h
      exact absurd h h1
theorem dotV_twi : ∀ (v l m : List (Int × Int)) (s u : Int × Int), (∀ x ∈ v, vfrac x.1 x.2 = true) → TwL l m → Twi s u → (dotV v l s).2 ≠ 5 → (dotV v m u).2 ≠ 5 → (dotV v l s).2 = 0 ∧ (dotV v m u).2 = 0 ∧ Twi (dotV v l s).1 (dotV v m u).1
  | [], l, m, s, u, _, _, hs, _, _ => by cases l <;> cases m <;> exact ⟨rfl, rfl, hs⟩
  | _ :: _, [], [], s, u, _, _, hs, _, _ => ⟨rfl, rfl, hs⟩
  | _ :: _, [], _ :: _, _, _, _, h, _, _, _ => h.elim
  | _ :: _, _ :: _, [], _, _, _, h, _, _, _ => h.elim
  | x :: v, a :: l, b :: m, s, u, hv, hl, hs, h1, h2 => by
    have vx := hv x (by simp)
    simp only [dotV] at h1 h2 ⊢
    have m1 : (mulP x a).2 = 0 := by
      refine mul5 vx hl.1.vl fun e => h1 ?_
      rw [if_neg (by omega), e]
    have m2 : (mulP x b).2 = 0 := by
      refine mul5 vx hl.1.vr fun e => h2 ?_
      rw [if_neg (by omega), e]
    rw [if_pos m1] at h1 ⊢
    rw [if_pos m2] at h2 ⊢
    have ht := hl.1.mulL m1 m2
    have a1 : (addP s (mulP x a).1).2 = 0 := by
      refine add5 hs.vl ht.vl fun e => h1 ?_
      rw [if_neg (by omega), e]
    have a2 : (addP u (mulP x b).1).2 = 0 := by
      refine add5 hs.vr ht.vr fun e => h2 ?_
      rw [if_neg (by omega), e]
    rw [if_pos a1] at h1 ⊢
    rw [if_pos a2] at h2 ⊢
    exact dotV_twi v l m _ _ (fun y hy => hv y (by simp [hy])) hl.2 (hs.add ht a1 a2) h1 h2
theorem pairA_twi {l m grip : List (Int × Int)} (hl : TwL l m) : ∀ (L : List (List (Int × Int))) (w u p : List (Int × Int)), (∀ v ∈ L, ∀ x ∈ v, vfrac x.1 x.2 = true) → TwL w u → (∀ x ∈ p, vfrac x.1 x.2 = true) → w.length = p.length → (pairA l grip L w p).2 ≠ 5 → (pairA m grip L u p).2 ≠ 5 →
    (pairA l grip L w p).2 = (pairA m grip L u p).2 ∧ ((pairA l grip L w p).2 = 0 → TwL (pairA l grip L w p).1.1 (pairA m grip L u p).1.1 ∧ (pairA m grip L u p).1.2 = (pairA l grip L w p).1.2 ∧ (∀ x ∈ (pairA l grip L w p).1.2, vfrac x.1 x.2 = true) ∧ (pairA l grip L w p).1.1.length = (pairA l grip L w p).1.2.length)
  | [], w, u, p, _, hw, hp, hlen, _, _ => ⟨rfl, fun _ => ⟨hw, rfl, hp, hlen⟩⟩
  | v :: L, w, u, p, hL, hw, hp, hlen, h1, h2 => by
    have vv := hL v (by simp)
    simp only [pairA] at h1 h2 ⊢
    have q1' : (dotV v l (0, 1)).2 ≠ 5 := fun e => h1 (by rw [if_neg (by omega), e])
    have q2' : (dotV v m (0, 1)).2 ≠ 5 := fun e => h2 (by rw [if_neg (by omega), e])
    obtain ⟨d1, d2, dt⟩ := dotV_twi v l m _ _ vv hl Twi.zero q1' q2'
    rw [if_pos d1] at h1 ⊢
    rw [if_pos d2] at h2 ⊢
    by_cases hg : (dotV v grip (0, 1)).2 = 0
    · rw [if_pos hg] at h1 h2 ⊢
      rw [if_pos hg]
      refine pairA_twi hl L _ _ _ (fun y hy => hL y (by simp [hy])) (hw.push dt) (fun x hx => ?_) (by simp [hlen]) h1 h2
      rcases List.mem_append.1 hx with hx | hx
      · exact hp x hx
      · rw [List.mem_singleton] at hx
        subst hx
        exact dotV_valid _ _ _ (by decide) hg
    · rw [if_neg hg, if_neg hg]
      exact ⟨rfl, fun e => absurd e hg⟩
theorem balR_twi {t u : Int × Int} (ht : Twi t u) : ∀ (p w z : List (Int × Int)) (ok : Bool), (∀ x ∈ p, vfrac x.1 x.2 = true) → TwL w z → (balR t p w ok).2 ≠ 5 → (balR u p z ok).2 ≠ 5 → (balR t p w ok).2 = 0 ∧ balR u p z ok = balR t p w ok
  | [], w, z, ok, _, _, _, _ => by cases w <;> cases z <;> exact ⟨rfl, rfl⟩
  | _ :: _, [], [], ok, _, _, _, _ => ⟨rfl, rfl⟩
  | _ :: _, [], _ :: _, _, _, h, _, _ => h.elim
  | _ :: _, _ :: _, [], _, _, h, _, _ => h.elim
  | x :: p, a :: w, b :: z, ok, hp, hw, h1, h2 => by
    have vx := hp x (by simp)
    simp only [balR] at h1 h2 ⊢
    have m1 : (mulP x t).2 = 0 := by
      refine mul5 vx ht.vl fun e => h1 ?_
      rw [if_neg (by omega), e]
    have m2 : (mulP x u).2 = 0 := by
      refine mul5 vx ht.vr fun e => h2 ?_
      rw [if_neg (by omega), e]
    rw [if_pos m1] at h1 ⊢
    rw [if_pos m2] at h2 ⊢
    have e : decide ((mulP x u).1 = b) = decide ((mulP x t).1 = a) := decide_eq_decide.2 ((ht.mulL m1 m2).eq hw.1).symm
    rw [e] at h2 ⊢
    exact balR_twi ht p w z _ (fun y hy => hp y (by simp [hy])) hw.2 h1 h2
theorem balP_twi {w u p : List (Int × Int)} (hw : TwL w u) (hp : ∀ x ∈ p, vfrac x.1 x.2 = true) (hlen : w.length = p.length) (h1 : (balP w p).2 ≠ 5) (h2 : (balP u p).2 ≠ 5) : (balP w p).2 = (balP u p).2 ∧ ((balP w p).2 = 0 → Twi (balP w p).1 (balP u p).1) := by
  unfold balP at h1 h2 ⊢
  by_cases hn : nzI p < 0
  · rw [if_pos hn, if_pos hn]
    have e : (nzI w < 0) ↔ (nzI u < 0) := by rw [nzI_neg, nzI_neg, hw.any]
    by_cases h : nzI w < 0
    · rw [if_pos h, if_pos (e.1 h)]
      exact ⟨rfl, fun h => by simp at h⟩
    · rw [if_neg h, if_neg fun k => h (e.2 k)]
      exact ⟨rfl, fun h => by simp at h⟩
  · rw [if_neg hn] at h1 h2 ⊢
    rw [if_neg hn]
    obtain ⟨hk, hnz, hmem⟩ := nzI_hit hn
    have hx := hw.at (nzI p).toNat (by omega)
    have vp := hp _ hmem
    generalize p.getD (nzI p).toNat (0, 0) = c at *
    generalize w.getD (nzI p).toNat (0, 0) = a at *
    generalize u.getD (nzI p).toNat (0, 0) = b at *
    have d1 : (divP a c).2 = 0 := by
      refine div5 hx.vl vp hnz fun e => h1 ?_
      rw [if_neg (by omega), e]
    have d2 : (divP b c).2 = 0 := by
      refine div5 hx.vr vp hnz fun e => h2 ?_
      rw [if_neg (by omega), e]
    rw [if_pos d1] at h1 ⊢
    rw [if_pos d2] at h2 ⊢
    have ht := hx.div d1 d2
    generalize (divP a c).1 = t at *
    generalize (divP b c).1 = t' at *
    have b1 : (balR t p w true).2 ≠ 5 := fun e => h1 (by rw [if_neg (by omega), e])
    have b2 : (balR t' p u true).2 ≠ 5 := fun e => h2 (by rw [if_neg (by omega), e])
    obtain ⟨r1, r2⟩ := balR_twi ht p w u true hp hw b1 b2
    rw [r2, if_pos r1, if_pos r1]
    by_cases hb : (balR t p w true).1 = false
    · rw [if_pos hb, if_pos hb]
      exact ⟨rfl, fun h => by simp at h⟩
    · rw [if_neg hb, if_neg hb]
      by_cases hs : t.1 < 0
      · rw [if_pos hs, if_pos (ht.neg.1 hs)]
        exact ⟨rfl, fun h => by simp at h⟩
      · rw [if_neg hs, if_neg fun k => hs (ht.neg.2 k)]
        exact ⟨rfl, fun _ => ht⟩

/-! The doubled system. -/
def dblB (bs : List Bk) : List Bk := chW (fun _ b => b.w * 2) bs bs.length
def dblS (s : Sy) : Sy := ⟨dblB s.bs, s.rs⟩
theorem dblB_eq (bs : List Bk) : dblB bs = bs.map fun b => ⟨b.nm, b.w * 2⟩ := by
  unfold dblB
  rw [chW_end]
  refine List.ext_getElem? fun i => ?_
  rw [List.getElem?_mapIdx, List.getElem?_map]
theorem gripsA_map {f : Bk → Bk} (h : ∀ b, (f b).nm = b.nm) (r : Rp) (up : Bool) : ∀ (bs : List Bk) (acc : List (Int × Int)), gripsA r up (bs.map f) acc = gripsA r up bs acc
  | [], _ => rfl
  | b :: l, acc => by
    simp only [List.map_cons, gripsA, h b]
    rw [gripsA_map h r up l]
theorem matS_map {s : Sy} {f : Bk → Bk} (h : ∀ b, (f b).nm = b.nm) : matS ⟨s.bs.map f, s.rs⟩ = matS s := by
  unfold matS
  rw [List.map_map]
  refine List.map_congr_left fun b _ => ?_
  simp only [Function.comp, h b]
theorem modes_V {s : Sy} (hv : validS s = true) : ∀ v ∈ (modesP s).1, ∀ x ∈ v, vfrac x.1 x.2 = true := by
  intro v hvm x hx
  obtain ⟨k, hk⟩ := List.mem_iff_getElem?.1 hx
  have ok := validS_ok hv
  unfold modesP at hvm
  rw [if_pos hv] at hvm
  by_cases hf : fixA s = []
  · rw [if_pos hf] at hvm
    obtain ⟨i, _, rfl⟩ := List.mem_map.1 hvm
    obtain ⟨j, _, rfl⟩ := List.mem_map.1 hx
    simp only
    split <;> decide
  · rw [if_neg hf] at hvm
    obtain ⟨rv, _, _⟩ := rowsF_valid ok hf (by have := fixP_len s.rs (-1) s.rs.length; unfold fixA; have := ok.r6; omega) (fun i hi => fixP_lt hi)
    obtain ⟨_, Z, D, _, _, hval⟩ := modes_val rv hvm
    exact (hval k x hk).v
theorem firstP_err {s : Sy} {up : Bool} (hg : givL s ≠ 0) : (firstP s up).2.2 = givL s := by unfold firstP; rw [if_neg hg]
theorem twice {s : Sy} (hv : validS s = true) (hd : validS (dblS s) = true) (up : Bool) (h1 : (forceP s up).2 ≠ 5) (h2 : (forceP (dblS s) up).2 ≠ 5) : (forceP s up).2 = (forceP (dblS s) up).2 ∧ ((forceP s up).2 = 0 → Twi (forceP s up).1 (forceP (dblS s) up).1) ∧ ((forceP s up).2 ≠ 0 → (forceP s up).1 = (0, 0) ∧ (forceP (dblS s) up).1 = (0, 0)) := by
  have ok := validS_ok hv
  have okd := validS_ok hd
  have eb : (dblS s).bs = s.bs.map fun b => ⟨b.nm, b.w * 2⟩ := dblB_eq s.bs
  have er : (dblS s).rs = s.rs := rfl
  have es : dblS s = ⟨s.bs.map fun b => ⟨b.nm, b.w * 2⟩, s.rs⟩ := by rw [← eb]; rfl
  have ex : hix (dblS s) = hix s := rfl
  have eg : givL (dblS s) = givL s := by
    unfold givL
    rw [if_pos hv, if_pos hd, ex, er]
  have eh : hauR (dblS s) = hauR s := rfl
  have em : matS (dblS s) = matS s := by rw [es]; exact matS_map fun _ => rfl
  have ef : fixA (dblS s) = fixA s := rfl
  have et : trS (dblS s) = trS s := by unfold trS; rw [em, er]
  have eM : (modesP (dblS s)).1 = (modesP s).1 := by
    unfold modesP rowsF
    rw [if_pos hv, if_pos hd, ef, et, eb, List.length_map]
  have eG : ∀ r, gripsA r up (dblS s).bs [] = gripsA r up s.bs [] := fun r => by rw [eb]; exact gripsA_map (f := fun b => ⟨b.nm, b.w * 2⟩) (fun _ => rfl) r up s.bs []
  have hT : ∀ (l : List Bk), (∀ b ∈ l, 0 ≤ b.w ∧ b.w ≤ 16777216) → TwL (l.map fun b => (b.w, (1 : Int))) ((l.map fun b => (⟨b.nm, b.w * 2⟩ : Bk)).map fun b => (b.w, 1)) := by
    intro l
    induction l with
    | nil => intro _; trivial
    | cons b l ih =>
      intro hw
      refine ⟨⟨b.w, 1, Val.one (by have := hw b (by simp); omega), ?_⟩, ih fun c hc => hw c (by simp [hc])⟩
      have := hw b (by simp)
      rw [Int.mul_comm]
      exact Val.one (by simp only; omega)
  have hL : TwL (loadP s) (loadP (dblS s)) := by
    unfold loadP
    rw [eb]
    exact hT s.bs ok.wts
  have hpair := pairA_twi (grip := (gripsA (hauR s) up s.bs []).1) hL (modesP s).1 [] [] [] (modes_V hv) trivial (by simp) rfl
  have ep : prsP (dblS s) up = pairA (loadP (dblS s)) (gripsA (hauR s) up s.bs []).1 (modesP s).1 [] [] := by unfold prsP; rw [eh, eG, eM]
  have ep0 : prsP s up = pairA (loadP s) (gripsA (hauR s) up s.bs []).1 (modesP s).1 [] [] := rfl
  rw [← ep, ← ep0] at hpair
  have key : (firstP s up).2.2 ≠ 5 → (firstP (dblS s) up).2.2 ≠ 5 → (firstP s up).2.2 = (firstP (dblS s) up).2.2 ∧ ((firstP s up).2.2 = 0 → Twi (firstP s up).1 (firstP (dblS s) up).1 ∧ (firstP (dblS s) up).2.1 = (firstP s up).2.1) := by
    intro k1 k2
    unfold firstP at k1 k2 ⊢
    rw [eg, eh, eG] at k2 ⊢
    by_cases hg : givL s = 0
    rotate_left 1
    · rw [if_neg hg, if_neg hg]
      exact ⟨rfl, fun h => absurd h hg⟩
    rw [if_pos hg] at k1 k2 ⊢
    rw [if_pos hg]
    by_cases ha : (alongP (hauR s) up).2 = 0
    rotate_left 1
    · rw [if_neg ha, if_neg ha]
      exact ⟨rfl, fun h => absurd h ha⟩
    rw [if_pos ha] at k1 k2 ⊢
    rw [if_pos ha]
    by_cases hgr : (gripsA (hauR s) up s.bs []).2 = 0
    rotate_left 1
    · rw [if_neg hgr, if_neg hgr]
      exact ⟨rfl, fun h => absurd h hgr⟩
    rw [if_pos hgr] at k1 k2 ⊢
    rw [if_pos hgr]
    have p1 : (prsP s up).2 ≠ 5 := fun e => k1 (by rw [if_neg (by omega), e])
    have p2 : (prsP (dblS s) up).2 ≠ 5 := fun e => k2 (by rw [if_neg (by omega), e])
    obtain ⟨pe, pt⟩ := hpair p1 p2
    by_cases hp : (prsP s up).2 = 0
    rotate_left 1
    · rw [if_neg hp, if_neg (by omega), pe]
      exact ⟨rfl, fun h => absurd (pe.trans h) hp⟩
    obtain ⟨t1, t2, t3, t4⟩ := pt hp
    rw [if_pos hp] at k1 ⊢
    rw [if_pos (by omega)] at k2 ⊢
    simp only at k1 k2 ⊢
    rw [t2] at k2 ⊢
    obtain ⟨b1, b2⟩ := balP_twi t1 t3 t4 k1 k2
    exact ⟨b1, fun h => ⟨b2 h, by first | rfl | trivial⟩⟩
  have f1 : (firstP s up).2.2 ≠ 5 := fun e => h1 (by unfold forceP; rw [if_neg (by omega), e])
  have f2 : (firstP (dblS s) up).2.2 ≠ 5 := fun e => h2 (by unfold forceP; rw [if_neg (by omega), e])
  obtain ⟨ke, kt⟩ := key f1 f2
  unfold forceP at h1 h2 ⊢
  by_cases h0 : (firstP s up).2.2 = 0
  rotate_left 1
  · rw [if_neg h0, if_neg (by omega), ke]
    exact ⟨rfl, fun h => absurd (ke.trans h) h0, fun _ => ⟨rfl, rfl⟩⟩
  obtain ⟨t1, t2⟩ := kt h0
  rw [if_pos h0] at h1 ⊢
  rw [if_pos (by omega)] at h2 ⊢
  rw [t2] at h2 ⊢
  generalize (firstP s up).2.1.getD ((firstP s up).2.1.length - 1) (0, 0) = c at *
  by_cases hc : vfrac c.1 c.2 = true
  · have m1 := mul5 t1.vl hc h1
    have m2 := mul5 t1.vr hc h2
    exact ⟨by rw [m1, m2], fun _ => t1.mulRt m1 m2, fun h => absurd m1 h⟩
  · have e : ∀ x, mulP x c = ((0, 0), 1) := fun x => by unfold mulP; rw [if_neg fun h => hc h.2]
    simp [e]
end Go.Proofs.Ytpcakodemleoiaa.T

namespace Go.Proofs.Ytpcakodemleoiaa.T
open Go Go.RowKit Lin
set_option linter.unusedSimpArgs false

/-! Chapter 14's program: clones for the efficiency. -/
theorem cells14_hd (l : List Hd) : (hdC l).all isCell = true := by
  induction l with
  | nil => rfl
  | cons x r ih => simp only [hdC, List.flatMap_cons, List.all_append, Bool.and_eq_true] at ih ⊢; exact ⟨rfl, ih⟩
set_option maxHeartbeats 1000000 in
theorem clone14_hd_ (x : Hd) (r : List Hd) (hl : r.length ≤ 1000) : PFresh Try.prog 77 [hds (x :: r)] 46 4 (r.length + 1) (hdC (x :: r)) := by
  refine PFresh.intro (plain_hd _) fun t => ACall.enter tab_ok Try.func77 rfl rfl Try.ntmps77 (by simp) ?_
  simp only [enterTM]
  have f2 : hdC (x :: r) = str x.b :: int x.p :: int x.n :: int x.d :: hdC r := rfl
  have hcl := cells14_hd r
  have hld := hdC_div (x :: r)
  have hll := hdC_len (x :: r)
  have f1 : hds (x :: r) = .sl 4 (str x.b :: int x.p :: int x.n :: int x.d :: hdC r) false := rfl
  rw [f2] at hld hll
  rw [f1, f2]
  simp only [List.length_cons] at hll hld
  ((refine wqa ?_))
  ((refine wqa ?_))
  ((refine wia ?_))
  ((refine wsa ?_))
  ((repeat refine AW_seq ?_); (refine AW_region_k tab_ok fun KR hKR => ?_); (repeat ((first | refine awOps_n rfl fun KK hKK => ?_ | refine awOps_g rfl rfl fun KK hKK => ?_ | refine awOps_gc rfl fun KK hKK => ?_); simp (disch := omega) only [bb, bt, zDs, zD, eqCells, simprocAttr, isSlice, hcl, hld]; refine hKK _ ?_; clear hKK KK)); (refine awOps_nil ?_); (refine hKR _ ?_); (try clear hKR KR); (repeat (with_reducible first | refine q1 ?_ | refine q2 ?_ | refine q3 ?_ | refine q4 ?_ | refine q5 ?_ | refine q6 ?_ | (refine q7 ?_ ?_; (focus (with_unfolding_all rfl))))))
  ((repeat refine AW_seq ?_); (refine wta ?_); simp (disch := omega) only [retQ, resD, oneD, rsv, rs, rsL, rsL_eq_map, List.map_map, bb, bt, zDs, zD, eqCells, simprocAttr, Try.results77])
  exact .inr ⟨0, t + 1, rfl, rfl⟩
theorem clone14_hd (l : List Hd) (h0 : 1 ≤ l.length) (hl : l.length ≤ 1000) : PFresh Try.prog 77 [hds l] 46 4 l.length (hdC l) := by
  cases l with
  | nil => simp at h0
  | cons x r => exact clone14_hd_ x r (by simp at hl; omega)
theorem cells14_rp (l : List Rp) : (rpC l).all isCell = true := by
  induction l with
  | nil => rfl
  | cons x r ih => simp only [rpC, List.flatMap_cons, List.all_append, Bool.and_eq_true] at ih ⊢; exact ⟨rfl, ih⟩
set_option maxHeartbeats 1000000 in
theorem clone14_rp_ (x : Rp) (r : List Rp) (hl : r.length ≤ 1000) : PFresh Try.prog 76 [rps (x :: r)] 39 3 (r.length + 1) (rpC (x :: r)) := by
  refine PFresh.intro (plain_rp _) fun t => ACall.enter tab_ok Try.func76 rfl rfl Try.ntmps76 (by simp) ?_
  simp only [enterTM]
  have f2 : rpC (x :: r) = str x.nm :: hds x.hs :: bool x.hl :: rpC r := rfl
  have hcl := cells14_rp r
  have hld := rpC_div (x :: r)
  have hll := rpC_len (x :: r)
  have f1 : rps (x :: r) = .sl 3 (str x.nm :: hds x.hs :: bool x.hl :: rpC r) false := rfl
  rw [f2] at hld hll
  rw [f1, f2]
  simp only [List.length_cons] at hll hld
  ((refine wqa ?_))
  ((refine wqa ?_))
  ((refine wia ?_))
  ((refine wsa ?_))
  ((repeat refine AW_seq ?_); (refine AW_region_k tab_ok fun KR hKR => ?_); (repeat ((first | refine awOps_n rfl fun KK hKK => ?_ | refine awOps_g rfl rfl fun KK hKK => ?_ | refine awOps_gc rfl fun KK hKK => ?_); simp (disch := omega) only [bb, bt, zDs, zD, eqCells, simprocAttr, isSlice, hcl, hld]; refine hKK _ ?_; clear hKK KK)); (refine awOps_nil ?_); (refine hKR _ ?_); (try clear hKR KR); (repeat (with_reducible first | refine q1 ?_ | refine q2 ?_ | refine q3 ?_ | refine q4 ?_ | refine q5 ?_ | refine q6 ?_ | (refine q7 ?_ ?_; (focus (with_unfolding_all rfl))))))
  ((repeat refine AW_seq ?_); (refine wta ?_); simp (disch := omega) only [retQ, resD, oneD, rsv, rs, rsL, rsL_eq_map, List.map_map, bb, bt, zDs, zD, eqCells, simprocAttr, Try.results76])
  exact .inr ⟨0, t + 1, rfl, rfl⟩
theorem clone14_rp (l : List Rp) (h0 : 1 ≤ l.length) (hl : l.length ≤ 1000) : PFresh Try.prog 76 [rps l] 39 3 l.length (rpC l) := by
  cases l with
  | nil => simp at h0
  | cons x r => exact clone14_rp_ x r (by simp at hl; omega)
theorem cells14_bk (l : List Bk) : (bkC l).all isCell = true := by
  induction l with
  | nil => rfl
  | cons x r ih => simp only [bkC, List.flatMap_cons, List.all_append, Bool.and_eq_true] at ih ⊢; exact ⟨rfl, ih⟩
set_option maxHeartbeats 1000000 in
theorem clone14_bk_ (x : Bk) (r : List Bk) (hl : r.length ≤ 1000) : PFresh Try.prog 75 [bks (x :: r)] 35 2 (r.length + 1) (bkC (x :: r)) := by
  refine PFresh.intro (plain_bk _) fun t => ACall.enter tab_ok Try.func75 rfl rfl Try.ntmps75 (by simp) ?_
  simp only [enterTM]
  have f2 : bkC (x :: r) = str x.nm :: int x.w :: bkC r := rfl
  have hcl := cells14_bk r
  have hld := bkC_div (x :: r)
  have hll := bkC_len (x :: r)
  have f1 : bks (x :: r) = .sl 2 (str x.nm :: int x.w :: bkC r) false := rfl
  rw [f2] at hld hll
  rw [f1, f2]
  simp only [List.length_cons] at hll hld
  ((refine wqa ?_))
  ((refine wqa ?_))
  ((refine wia ?_))
  ((refine wsa ?_))
  ((repeat refine AW_seq ?_); (refine AW_region_k tab_ok fun KR hKR => ?_); (repeat ((first | refine awOps_n rfl fun KK hKK => ?_ | refine awOps_g rfl rfl fun KK hKK => ?_ | refine awOps_gc rfl fun KK hKK => ?_); simp (disch := omega) only [bb, bt, zDs, zD, eqCells, simprocAttr, isSlice, hcl, hld]; refine hKK _ ?_; clear hKK KK)); (refine awOps_nil ?_); (refine hKR _ ?_); (try clear hKR KR); (repeat (with_reducible first | refine q1 ?_ | refine q2 ?_ | refine q3 ?_ | refine q4 ?_ | refine q5 ?_ | refine q6 ?_ | (refine q7 ?_ ?_; (focus (with_unfolding_all rfl))))))
  ((repeat refine AW_seq ?_); (refine wta ?_); simp (disch := omega) only [retQ, resD, oneD, rsv, rs, rsL, rsL_eq_map, List.map_map, bb, bt, zDs, zD, eqCells, simprocAttr, Try.results75])
  exact .inr ⟨0, t + 1, rfl, rfl⟩
theorem clone14_bk (l : List Bk) (h0 : 1 ≤ l.length) (hl : l.length ≤ 1000) : PFresh Try.prog 75 [bks l] 35 2 l.length (bkC l) := by
  cases l with
  | nil => simp at h0
  | cons x r => exact clone14_bk_ x r (by simp at hl; omega)
def effP (s : Sy) : (Int × Int) × Int := if (forceP s true).2 = 0 then (if (forceP (cleanS s) true).2 = 0 then divP (forceP (cleanS s) true).1 (forceP s true).1 else ((0, 0), (forceP (cleanS s) true).2)) else ((0, 0), (forceP s true).2)
def clR (l : List Rp) (k : Nat) : List Rp := (l.take k).map cleanR ++ l.drop k
def clH (l : List Hd) (k : Nat) : List Hd := (l.take k).map cleanH ++ l.drop k
theorem clR_len (l : List Rp) (k : Nat) (h : k ≤ l.length) : (clR l k).length = l.length := by simp [clR]; omega
theorem clH_len (l : List Hd) (k : Nat) (h : k ≤ l.length) : (clH l k).length = l.length := by simp [clH]; omega
theorem clR_zero (l : List Rp) : clR l 0 = l := by simp [clR]
theorem clH_zero (l : List Hd) : clH l 0 = l := by simp [clH]
theorem clR_end (l : List Rp) : clR l l.length = l.map cleanR := by simp [clR]
theorem clH_end (l : List Hd) : clH l l.length = l.map cleanH := by simp [clH]
theorem hdC_ls {l : List Hd} {i : Nat} {h : Hd} (hx : l[i]? = some h) (a b : Int) : (hdC l).take (i * 4 + 2) ++ int a :: int b :: (hdC l).drop (i * 4 + 4) = hdC (l.set i ⟨h.b, h.p, a, b⟩) := by
  have h1 := hdC_set l i ⟨h.b, h.p, a, b⟩ (List.getElem?_eq_some_iff.1 hx).1
  have h2 := hdC_read l i h hx
  have h3 : ((hdC l).drop (i * 4)).take 2 = [str h.b, int h.p] := by
    have := congrArg (List.take 2) h2
    rw [List.take_take] at this
    simpa using this
  rw [← h1, List.take_add, h3]
  simp
theorem rpC_hs {l : List Rp} {i : Nat} {r : Rp} (h : l[i]? = some r) (hs : List Hd) : (rpC l).set (i * 3 + 1) (hds hs) = rpC (l.set i ⟨r.nm, hs, r.hl⟩) := by
  have h1 := rpC_set l i ⟨r.nm, hs, r.hl⟩ (List.getElem?_eq_some_iff.1 h).1
  have hl := rpC_len l
  have hi := (List.getElem?_eq_some_iff.1 h).1
  have h2 := rpC_read l i r h
  rw [← h1]
  have e : rpC l = (rpC l).take (i * 3) ++ ([str r.nm, hds r.hs, bool r.hl] ++ (rpC l).drop (i * 3 + 3)) := by
    have : [str r.nm, hds r.hs, bool r.hl] = ((rpC l).drop (i * 3)).take 3 := h2.symm
    rw [this, ← List.drop_drop, List.take_append_drop, List.take_append_drop]
  have hlt : ((rpC l).take (i * 3)).length = i * 3 := by simp; omega
  conv => lhs; rw [e]
  rw [List.set_append_right _ _ (by omega), hlt, show i * 3 + 1 - i * 3 = 1 by omega]
  simp
theorem clR_at {h : List Rp} {x : Rp} {k : Nat} (hx : h[k]? = some x) : (clR h k)[k]? = some x := by
  have hk := (List.getElem?_eq_some_iff.1 hx).1
  unfold clR
  rw [List.getElem?_append_right (by simp; omega)]
  simp only [List.length_map, List.length_take]
  rw [List.getElem?_drop, Nat.min_eq_left (by omega), Nat.sub_self, Nat.add_zero, hx]
theorem clR_set {h : List Rp} {x : Rp} {k : Nat} (hx : h[k]? = some x) : (clR h k).set k (cleanR x) = clR h (k + 1) := by
  have hk := (List.getElem?_eq_some_iff.1 hx).1
  have hl : ((h.take k).map cleanR).length = k := by simp; omega
  unfold clR
  rw [List.set_append_right _ _ (by omega), hl, Nat.sub_self, List.take_add_one, hx, Option.toList_some, List.map_append, List.append_assoc, List.drop_eq_getElem_cons hk]
  rfl
theorem clH_at {h : List Hd} {x : Hd} {k : Nat} (hx : h[k]? = some x) : (clH h k)[k]? = some x := by
  have hk := (List.getElem?_eq_some_iff.1 hx).1
  unfold clH
  rw [List.getElem?_append_right (by simp; omega)]
  simp only [List.length_map, List.length_take]
  rw [List.getElem?_drop, Nat.min_eq_left (by omega), Nat.sub_self, Nat.add_zero, hx]
theorem clH_set {h : List Hd} {x : Hd} {k : Nat} (hx : h[k]? = some x) : (clH h k).set k (cleanH x) = clH h (k + 1) := by
  have hk := (List.getElem?_eq_some_iff.1 hx).1
  have hl : ((h.take k).map cleanH).length = k := by simp; omega
  unfold clH
  rw [List.set_append_right _ _ (by omega), hl, Nat.sub_self, List.take_add_one, hx, Option.toList_some, List.map_append, List.append_assoc, List.drop_eq_getElem_cons hk]
  rfl
theorem force_valid {s : Sy} {up : Bool} (h : (forceP s up).2 = 0) : validS s = true := by
  cases hv : validS s
  · have hg : givL s = 1 := by unfold givL; rw [if_neg (by simp [hv])]
    have hf : (firstP s up).2.2 = 1 := by unfold firstP; rw [if_neg (by rw [hg]; decide), hg]
    unfold forceP at h
    rw [if_neg (by rw [hf]; decide), hf] at h
    cases h
  · rfl
theorem clean_fits {s : Sy} (hf : Fits s) : Fits (cleanS s) := ⟨hf.nb, by simpa [cleanS] using hf.nr, hf.sb, fun r hr => by
  obtain ⟨q, hq, rfl⟩ := List.mem_map.1 hr
  exact ⟨(hf.sr q hq).1, by simpa [cleanR] using (hf.sr q hq).2⟩⟩
set_option maxRecDepth 100000 in
set_option maxHeartbeats 16000000 in
theorem eff14 (s : Sy) (hf : Fits s) : PRet Try.prog 43 [syD s] (fe (effP s)) := by
  refine PRet.intro 1 fun t => ACall.enter tab_ok Try.func43 rfl rfl Try.ntmps43 (by simp) ?_
  simp only [enterTM]
  have hR := raise14 s hf
  have hC := raise14 (cleanS s) (clean_fits hf)
  unfold effP
  by_cases h0 : (forceP s true).2 = 0
  rotate_left 1
  · have e1 : ((forceP s true).2 != 0) = true := by simpa using h0
    rw [if_neg h0]
    generalize forceP s true = X at *
    ((refine ggb1 e1 hR ?_))
    ((repeat refine AW_seq ?_); (refine wta ?_); simp (disch := omega) only [retQ, resD, oneD, rsv, rs, rsL, rsL_eq_map, List.map_map, bb, bt, zDs, zD, eqCells, simprocAttr, Try.results43])
  rw [if_pos h0]
  have e1 : ((forceP s true).2 != 0) = false := by simpa using h0
  have hv := force_valid h0
  have ok := validS_ok hv
  have hb6 := ok.b6
  have hr6 := ok.r6
  have hdr := rpC_div s.rs
  have hlr := rpC_len s.rs
  have hlb := bkC_len s.bs
  generalize forceP s true = X at *
  ((refine ggb1 e1 hR ?_))
  ((repeat refine AW_seq ?_); (refine AW_drawn_k tab_ok follows_mixed 3 fun KR hKR => ?_); simp only [List.replicate_succ, List.replicate_zero, List.append_nil, List.nil_append, List.cons_append, List.length_cons, List.length_nil, Nat.reduceAdd])
  ((refine wda ?_))
  ((first | refine awD_nc fun KK hKK => ?_ | refine awD_gc rfl fun KK hKK => ?_); simp (disch := omega) only [bb, bt, zDs, zD, eqCells, simprocAttr, goCDS, callDS_fn, argsZ, argsD, ufa, uf]; refine PGive.fresh (3) (clone14_bk s.bs ok.b1 (by omega)) ?_ ?_; (focus (first | omega | (simp (disch := omega) only [List.length_cons, List.length_nil, List.length_append]; done) | (simp (disch := omega) only [List.length_cons, List.length_nil, List.length_append]; omega))); simp (disch := omega) only [bb, bt, zDs, zD, eqCells, simprocAttr, afterDS]; refine hKK _ _ _ ?_; clear hKK KK)
  ((refine wda ?_))
  ((first | refine awD_nc fun KK hKK => ?_ | refine awD_gc rfl fun KK hKK => ?_); simp (disch := omega) only [bb, bt, zDs, zD, eqCells, simprocAttr, goCDS, callDS_fn, argsZ, argsD, ufa, uf]; refine PGive.fresh (4) (clone14_rp s.rs ok.r1 (by omega)) ?_ ?_; (focus (first | omega | (simp (disch := omega) only [List.length_cons, List.length_nil, List.length_append]; done) | (simp (disch := omega) only [List.length_cons, List.length_nil, List.length_append]; omega))); simp (disch := omega) only [bb, bt, zDs, zD, eqCells, simprocAttr, afterDS]; refine hKK _ _ _ ?_; clear hKK KK)
  ((refine wda ?_))
  ((refine awD_nil ?_); simp only [List.reverse_cons, List.reverse_nil, List.nil_append, List.cons_append]; (refine hKR _ _ (by first | rfl | kernel_rfl) ?_); (try clear hKR KR); (repeat (with_reducible first | refine q1 ?_ | refine q2 ?_ | refine q3 ?_ | refine q4 ?_ | refine q5 ?_ | refine q6 ?_ | (refine q7 ?_ ?_; (focus (with_unfolding_all rfl))))))
  have hfb : List.take (s.bs.length * 2) (bkC s.bs) = bkC s.bs := List.take_of_length_le (by omega)
  ((refine AW.freeze (3) (by first | rfl | (simp only [setH, List.getElem?_cons_zero, List.getElem?_cons_succ, fz_bk, fz_rp, hfb, hlb, Nat.le_refl]; done)) ?_); simp (disch := omega) only [fzT, fz, fzL, fzL_ints, fzL_mat, fzH, fzB, eq_self, bb, bt, zDs, zD, eqCells, simprocAttr, fz_bk, fz_rp, hfb, hlb, Nat.le_refl])
  ((refine gga0 ?_))
  have hw1 := whole14 1
  have hz := clR_zero s.rs
  ((repeat refine AW_seq ?_))
  refine AW_mid (fun x : Nat => ⟨[(2, .ptr 1 (t + 1 + 1) 0), (4, .ptr 2 (t + 1 + 1 + 1) 0), (6, .ptr 5 (t + 1 + 1 + 1 + 1) 0)], [none, some ⟨42, t + 1 + 1, [int 0, int 0]⟩, some ⟨42, t + 1 + 1 + 1, [int X.1.1, int X.1.2]⟩, none, some ⟨39, t + 1 + 1 + 1 + 1, rpC (clR s.rs s.rs.length)⟩, some ⟨25, t + 1 + 1 + 1 + 1, [bks s.bs, .own 3 4 (t + 1 + 1 + 1 + 1) 0 s.rs.length]⟩], x⟩) (fun _ => True) ?_ ?_
  · refine AW_block ?_
    refine AW_loop_w (fun x : Nat × Nat => ⟨[(2, .ptr 1 (t + 1 + 1) 0), (4, .ptr 2 (t + 1 + 1 + 1) 0), (6, .ptr 5 (t + 1 + 1 + 1 + 1) 0), (29, .own 3 4 (t + 1 + 1 + 1 + 1) 0 s.rs.length), (30, int s.rs.length), (31, int x.1)], [none, some ⟨42, t + 1 + 1, [int 0, int 0]⟩, some ⟨42, t + 1 + 1 + 1, [int X.1.1, int X.1.2]⟩, none, some ⟨39, t + 1 + 1 + 1 + 1, rpC (clR s.rs x.1)⟩, some ⟨25, t + 1 + 1 + 1 + 1, [bks s.bs, .own 3 4 (t + 1 + 1 + 1 + 1) 0 s.rs.length]⟩], x.2⟩) (fun x => s.rs.length - x.1) (fun x => x.1 ≤ s.rs.length) (0, t + 1 + 1 + 1 + 1) (Nat.zero_le _) (by (simp (disch := omega) only [StLe, tmLe, hpLe_refl, hpLe, bl, bb, bt, zDs, zD, eqCells, simprocAttr, hz])) ?_
    rintro ⟨k, tt⟩ hk
    simp only at hk
    by_cases hlt : k < s.rs.length
    · obtain ⟨r, hr⟩ : ∃ y, s.rs[k]? = some y := ⟨_, List.getElem?_eq_getElem hlt⟩
      have hat := clR_at hr
      have hra := rpC_read _ k r hat
      have hlk := rpC_len (clR s.rs k)
      rw [clR_len _ _ hk] at hlk
      have hhold := ok.holds r (List.mem_of_getElem? hr)
      have hset := rpC_hs hat (r.hs.map cleanH)
      have hnx : rpC ((clR s.rs k).set k ⟨r.nm, r.hs.map cleanH, r.hl⟩) = rpC (clR s.rs (k + 1)) := by rw [← clR_set hr]; rfl
      rw [hnx] at hset
      have hz2 := clH_zero r.hs
      have hdh := hdC_div r.hs
      ((refine ggb0 (F := _∧_) ⟨@Int.ofNat_lt, hlt⟩ ?_))
      ((repeat refine AW_seq ?_))
      refine AW_block ?_
      ((refine ggb0 (F := _∧_∧_) ⟨hlt, hlk, hra⟩ ?_))
      intro KR hKR
      ((first | refine awOps_nc fun KK hKK => ?_ | refine awOps_gc rfl fun KK hKK => ?_); simp (disch := omega) only [bb, bt, zDs, zD, eqCells, simprocAttr, goC, callO_fn, argsD, and_self]; refine ACall.of_fresh (clone14_hd r.hs (by omega) (by omega)) (by first | (simp only [List.map_cons, List.map_nil, List.append_nil, List.nil_append, List.cons_append, ufa, uf]; done) | rfl) ?_; simp (disch := omega) only [bb, bt, zDs, zD, eqCells, simprocAttr, afterC]; refine hKK _ ?_; clear hKK KK)
      ((refine wra ?_)); ((refine wea ?_); (try clear hKR KR))
      ((refine gga0 ?_))
      ((repeat refine AW_seq ?_))
      refine AW_mid (fun x : Nat => ⟨[(2, .ptr 1 (t + 1 + 1) 0), (4, .ptr 2 (t + 1 + 1 + 1) 0), (6, .ptr 5 (t + 1 + 1 + 1 + 1) 0), (29, .own 3 4 (t + 1 + 1 + 1 + 1) 0 s.rs.length), (30, int s.rs.length), (31, int k), (7, int k), (9, .own 4 7 (tt + 1 + 1) 0 r.hs.length)], [none, some ⟨42, t + 1 + 1, [int 0, int 0]⟩, some ⟨42, t + 1 + 1 + 1, [int X.1.1, int X.1.2]⟩, none, some ⟨39, t + 1 + 1 + 1 + 1, rpC (clR s.rs k)⟩, some ⟨25, t + 1 + 1 + 1 + 1, [bks s.bs, .own 3 4 (t + 1 + 1 + 1 + 1) 0 s.rs.length]⟩, none, some ⟨46, tt + 1 + 1, hdC (clH r.hs r.hs.length)⟩], x⟩) (fun _ => True) ?_ ?_
      · refine AW_block ?_
        refine AW_loop_w (fun x : Nat × Nat => ⟨[(2, .ptr 1 (t + 1 + 1) 0), (4, .ptr 2 (t + 1 + 1 + 1) 0), (6, .ptr 5 (t + 1 + 1 + 1 + 1) 0), (29, .own 3 4 (t + 1 + 1 + 1 + 1) 0 s.rs.length), (30, int s.rs.length), (31, int k), (7, int k), (9, .own 4 7 (tt + 1 + 1) 0 r.hs.length), (40, int r.hs.length), (41, int x.1)], [none, some ⟨42, t + 1 + 1, [int 0, int 0]⟩, some ⟨42, t + 1 + 1 + 1, [int X.1.1, int X.1.2]⟩, none, some ⟨39, t + 1 + 1 + 1 + 1, rpC (clR s.rs k)⟩, some ⟨25, t + 1 + 1 + 1 + 1, [bks s.bs, .own 3 4 (t + 1 + 1 + 1 + 1) 0 s.rs.length]⟩, none, some ⟨46, tt + 1 + 1, hdC (clH r.hs x.1)⟩], x.2⟩) (fun x => r.hs.length - x.1) (fun x => x.1 ≤ r.hs.length) (0, tt + 1 + 1) (Nat.zero_le _) (by (simp (disch := omega) only [StLe, tmLe, hpLe_refl, hpLe, bl, bb, bt, zDs, zD, eqCells, simprocAttr, hz2])) ?_
        rintro ⟨j, t2⟩ hj
        simp only at hj
        by_cases hlj : j < r.hs.length
        · obtain ⟨h, hh⟩ : ∃ y, r.hs[j]? = some y := ⟨_, List.getElem?_eq_getElem hlj⟩
          have hl4 := hdC_len (clH r.hs j)
          rw [clH_len _ _ hj] at hl4
          have hs4 := hdC_ls (clH_at hh) 1 1
          have hn4 : hdC ((clH r.hs j).set j ⟨h.b, h.p, 1, 1⟩) = hdC (clH r.hs (j + 1)) := by rw [← clH_set hh]; rfl
          rw [hn4] at hs4
          have hle4 : j * 4 + 4 ≤ r.hs.length * 4 := by omega
          ((refine ggb0 (F := _∧_) ⟨@Int.ofNat_lt, hlj⟩ ?_))
          ((repeat refine AW_seq ?_))
          refine AW_block ?_
          ((refine ggb1 (F := _∧_∧_∧_) ⟨hlj, hl4, hs4, hle4⟩ hw1 ?_))
          refine ⟨(j + 1, t2), hlj, by show r.hs.length - (j + 1) < r.hs.length - j; omega, ?_⟩
          (simp (disch := omega) only [StLe, tmLe, hpLe_refl, hpLe, bl, bb, bt, zDs, zD, eqCells, simprocAttr])
        · have hje : j = r.hs.length := by omega
          subst hje
          ((refine wqb @Int.lt_irrefl ?_))
          ((refine wia ?_))
          ((refine wxa ?_))
          exact ⟨t2, trivial, by (simp (disch := omega) only [StLe, tmLe, hpLe_refl, hpLe, bl, bb, bt, zDs, zD, eqCells, simprocAttr])⟩
      rintro t2 -
      have hfh : List.take (r.hs.length * 4) (hdC (clH r.hs r.hs.length)) = hdC (clH r.hs r.hs.length) := List.take_of_length_le (by rw [hdC_len, clH_len _ _ (Nat.le_refl _)]; exact Nat.le_refl _)
      have hlh : (hdC (clH r.hs r.hs.length)).length = r.hs.length * 4 := by rw [hdC_len, clH_len _ _ (Nat.le_refl _)]
      rw [clH_end] at hfh hlh ⊢
      ((refine AW.freeze (7) (by first | rfl | (simp only [setH, List.getElem?_cons_zero, List.getElem?_cons_succ, fz_bk, fz_rp, fz_hd, hfh, hlh, Nat.le_refl]; done)) ?_); simp (disch := omega) only [fzT, fz, fzL, fzL_ints, fzL_mat, fzH, fzB, eq_self, bb, bt, zDs, zD, eqCells, simprocAttr, fz_bk, fz_rp, fz_hd, hfh, hlh, Nat.le_refl])
      ((refine ggb0 (F := _∧_∧_) ⟨hlt, hlk, hset⟩ ?_))
      refine ⟨(k + 1, t2), hlt, by show s.rs.length - (k + 1) < s.rs.length - k; omega, ?_⟩
      (simp (disch := omega) only [StLe, tmLe, hpLe_refl, hpLe, bl, bb, bt, zDs, zD, eqCells, simprocAttr])
    · have hke : k = s.rs.length := by omega
      subst hke
      ((refine wqb @Int.lt_irrefl ?_))
      ((refine wia ?_))
      ((refine wxa ?_))
      exact ⟨tt, trivial, by (simp (disch := omega) only [StLe, tmLe, hpLe_refl, hpLe, bl, bb, bt, zDs, zD, eqCells, simprocAttr])⟩
  rintro tt -
  rw [clR_end]
  have hlc := rpC_len (s.rs.map cleanR)
  rw [List.length_map] at hlc
  have hfc : List.take (s.rs.length * 3) (rpC (s.rs.map cleanR)) = rpC (s.rs.map cleanR) := List.take_of_length_le (by omega)
  ((refine AW.freeze (4) (by first | rfl | (simp only [setH, List.getElem?_cons_zero, List.getElem?_cons_succ, fz_bk, fz_rp, hfc, hlc, Nat.le_refl]; done)) ?_); simp (disch := omega) only [fzT, fz, fzL, fzL_ints, fzL_mat, fzH, fzB, eq_self, bb, bt, zDs, zD, eqCells, simprocAttr, fz_bk, fz_rp, hfc, hlc, Nat.le_refl])
  generalize forceP (cleanS s) true = Y at *
  have hC : PRet Try.prog 24 [.agg [bks s.bs, rps (s.rs.map cleanR)]] (fe Y) := hC
  have hD := rDiv Y.1 X.1
  by_cases hy : Y.2 = 0
  rotate_left 1
  · have e2 : (Y.2 != 0) = true := by simpa using hy
    rw [if_neg hy]
    ((refine ggb1 e2 hC ?_))
    ((repeat refine AW_seq ?_); (refine wta ?_); simp (disch := omega) only [retQ, resD, oneD, rsv, rs, rsL, rsL_eq_map, List.map_map, bb, bt, zDs, zD, eqCells, simprocAttr, Try.results43])
  have e2 : (Y.2 != 0) = false := by simpa using hy
  rw [if_pos hy]
  generalize divP Y.1 X.1 = Z at *
  ((refine ggb2 e2 hC hD ?_))
  ((repeat refine AW_seq ?_); (refine wta ?_); simp (disch := omega) only [retQ, resD, oneD, rsv, rs, rsL, rsL_eq_map, List.map_map, bb, bt, zDs, zD, eqCells, simprocAttr, Try.results43])
end Go.Proofs.Ytpcakodemleoiaa.T

namespace Go.Proofs.Ytpcakodemleoiaa.T
open Go Go.RowKit Lin
set_option linter.unusedSimpArgs false

theorem allV_get {x : List (Int × Int)} (h : allV x = true) {k : Nat} {f : Int × Int} (hf : x[k]? = some f) : vfrac f.1 f.2 = true := by
  unfold allV at h
  exact List.all_eq_true.1 h f (List.mem_of_getElem? hf)
end Go.Proofs.Ytpcakodemleoiaa.T

namespace Go.Proofs.Ytpcakodemleoiaa.T
open Go Go.RowKit Lin
set_option linter.unusedSimpArgs false

/-! Chapter 12: the reference's travel, check, and lengths. -/
theorem refOver (a b : Int × Int) (ha : vfrac a.1 a.2 = true) (hb : vfrac b.1 b.2 = true) : PRet Try.prog 60 [frD a, frD b] (fe (divR a b)) := by
  obtain ⟨a1, a2, a3, a4, a5⟩ := fr_bounds ha
  obtain ⟨b1, b2, b3, b4, b5⟩ := fr_bounds hb
  obtain ⟨n, d⟩ := a
  obtain ⟨u, v⟩ := b
  simp only at *
  have s1 := refSize n (by omega)
  have s2 := refSize u (by omega)
  have s3 := refSize d (by omega)
  have s4 := refSize v (by omega)
  have m1 := refMul n.natAbs v.natAbs (by omega)
  have m2 := refMul d.natAbs u.natAbs (by omega)
  have c1 : n.natAbs * v.natAbs ≤ 1152921504606846976 * 1152921504606846976 := Nat.mul_le_mul (by omega) (by omega)
  have c2 : d.natAbs * u.natAbs ≤ 1152921504606846976 * 1152921504606846976 := Nat.mul_le_mul (by omega) (by omega)
  have hm := made (n.natAbs * v.natAbs) (decide (n < 0) != decide (u < 0)) (d.natAbs * u.natAbs) (by omega) (by omega)
  have e : divR (n, d) (u, v) = madeP (n.natAbs * v.natAbs) (decide (n < 0) != decide (u < 0)) (d.natAbs * u.natAbs) := rfl
  rw [e]
  generalize madeP (n.natAbs * v.natAbs) (decide (n < 0) != decide (u < 0)) (d.natAbs * u.natAbs) = r at *
  refine PRet.intro 2 fun t => ACall.enter tab_ok Try.func60 rfl rfl Try.ntmps60 (by simp) ?_
  simp only [enterTM]
  ((refine gga0 ?_))
  ((repeat refine AW_seq ?_); (refine gdza7 s1 s2 s3 s4 m1 m2 hm ?_))
  ((repeat refine AW_seq ?_); (refine wta ?_); simp (disch := omega) only [retQ, resD, oneD, rsv, rs, rsL, rsL_eq_map, List.map_map, bb, bt, zDs, zD, eqCells, simprocAttr, Try.results60])
/-! The laws. -/
end Go.Proofs.Ytpcakodemleoiaa.T

namespace Go.Proofs.Ytpcakodemleoiaa.T
open Go Go.RowKit Lin
set_option linter.unusedSimpArgs false

/-! Chapter 14's reference: right ropes, and the factors along them. -/
set_option maxHeartbeats 8000000 in
theorem right_ref (r : Rp) : PRet Try.prog 28 [.agg (rp1 r)] (bool (rightR r)) := by
  refine PRet.intro 1 fun t => ACall.enter tab_ok Try.func28 rfl rfl Try.ntmps28 (by simp) ?_
  simp only [enterTM]
  have hdh := hdC_div r.hs
  have o1 := refOf 1
  by_cases hsz : 2 ≤ r.hs.length ∧ r.hs.length ≤ 10
  rotate_left 1
  · have e : rightR r = false := by
      cases h : rightR r
      · rfl
      · exact absurd (rightR_len h) hsz
    rw [e]
    by_cases h2 : (r.hs.length : Int) < 2
    · ((refine ggb0 (F := _∧_) ⟨h2, hdh⟩ ?_))
      ((repeat refine AW_seq ?_); (refine wta ?_); simp (disch := omega) only [retQ, resD, oneD, rsv, rs, rsL, rsL_eq_map, List.map_map, bb, bt, zDs, zD, eqCells, simprocAttr, Try.results28])
    · have h10 : (10 : Int) < r.hs.length := by omega
      ((refine ggb0 (F := _∧_∧_) ⟨h2, h10, hdh⟩ ?_))
      ((repeat refine AW_seq ?_); (refine wta ?_); simp (disch := omega) only [retQ, resD, oneD, rsv, rs, rsL, rsL_eq_map, List.map_map, bb, bt, zDs, zD, eqCells, simprocAttr, Try.results28])
  obtain ⟨n2, n10⟩ := hsz
  have h2 : ¬ (r.hs.length : Int) < 2 := by omega
  have h10 : ¬ (10 : Int) < r.hs.length := by omega
  ((refine ggb0 (F := _∧_∧_) ⟨h2, h10, hdh⟩ ?_))
  ((repeat refine AW_seq ?_))
  refine AW_block ?_
  refine AW_loop_w (fun x : Nat × Nat => ⟨[(1, .ptr 0 (t + 1) 0), (3, int r.hs.length), (4, int x.1)], [some ⟨39, t + 1, rp1 r⟩], x.2⟩) (fun x => r.hs.length - x.1) (fun x => x.1 ≤ r.hs.length ∧ ∀ i h, i < x.1 → r.hs[i]? = some h → okLoss (endH r.hs.length i) h = true) (0, t + 1) ⟨Nat.zero_le _, fun i h hi => absurd hi (Nat.not_lt_zero _)⟩ (by (simp (disch := omega) only [StLe, tmLe, hpLe_refl, hpLe, bl, bb, bt, zDs, zD, eqCells, simprocAttr])) ?_
  rintro ⟨k, tt⟩ ⟨hk, hal⟩
  simp only at hk hal
  by_cases hlt : k < r.hs.length
  · obtain ⟨x, hx⟩ : ∃ y, r.hs[k]? = some y := ⟨_, List.getElem?_eq_getElem hlt⟩
    have hra := hdC_read r.hs k x hx
    have hrl : ((hdC r.hs).drop (k * 4 + 2)).take 2 = [int x.n, int x.d] := by
      have h := congrArg (fun l => (l.drop 2).take 2) hra
      simp only [List.drop_take, List.drop_drop] at h
      simpa [List.take_take] using h
    have hLy := lossy_ref x.n x.d
    have nxt : okLoss (endH r.hs.length k) x = true → ∀ i h, i < k + 1 → r.hs[i]? = some h → okLoss (endH r.hs.length i) h = true := fun hok i h hi hh => by
      by_cases hik : i = k
      · subst hik
        rw [hx, Option.some.injEq] at hh
        exact hh ▸ hok
      · exact hal i h (by omega) hh
    ((refine ggb0 (F := _∧_) ⟨@Int.ofNat_lt, hlt⟩ ?_))
    ((repeat refine AW_seq ?_))
    refine AW_block ?_
    cases hlo : lossy x.n x.d
    · have hok : okLoss (endH r.hs.length k) x = false := by unfold okLoss; rw [hlo]; rfl
      rw [hlo] at hLy
      rw [rightR_not hx hok]
      ((repeat refine AW_seq ?_); (refine gdzb2 (F := _∧_∧_∧_) ⟨hlt, hdh, hra, hrl⟩ hLy o1 ?_))
      ((refine gga0 ?_))
      ((repeat refine AW_seq ?_); (refine wta ?_); simp (disch := omega) only [retQ, resD, oneD, rsv, rs, rsL, rsL_eq_map, List.map_map, bb, bt, zDs, zD, eqCells, simprocAttr, Try.results28])
    rw [hlo] at hLy
    by_cases hend : k = 0 ∨ k + 1 = r.hs.length
    · have hE : endH r.hs.length k = true := by
        unfold endH
        rcases hend with h | h
        · rw [h]; rfl
        · rw [h]; simp
      have hb : (x.n == 1 && x.d == 1) = okLoss (endH r.hs.length k) x := by unfold okLoss; rw [hlo, hE]; simp
      cases hok : okLoss (endH r.hs.length k) x
      · rw [hok] at hb
        rw [rightR_not hx hok]
        by_cases hk0 : k = 0
        · have e0 : ((k : Int) == 0) = true := by simp [hk0]
          ((repeat refine AW_seq ?_); (refine gdzb2 (F := _∧_∧_∧_∧_∧_) ⟨hlt, hdh, hra, hrl, e0, hb⟩ hLy o1 ?_))
          ((refine gga0 ?_))
          ((repeat refine AW_seq ?_); (refine wta ?_); simp (disch := omega) only [retQ, resD, oneD, rsv, rs, rsL, rsL_eq_map, List.map_map, bb, bt, zDs, zD, eqCells, simprocAttr, Try.results28])
        · have e0 : ((k : Int) == 0) = false := by simpa using hk0
          have e1 : ((k : Int) == (r.hs.length : Int) - 1) = true := by
            rw [beq_iff_eq]
            rcases hend with h' | h' <;> omega
          ((repeat refine AW_seq ?_); (refine gdzb2 (F := _∧_∧_∧_∧_∧_∧_) ⟨hlt, hdh, hra, hrl, e0, e1, hb⟩ hLy o1 ?_))
          ((refine gga0 ?_))
          ((repeat refine AW_seq ?_); (refine wta ?_); simp (disch := omega) only [retQ, resD, oneD, rsv, rs, rsL, rsL_eq_map, List.map_map, bb, bt, zDs, zD, eqCells, simprocAttr, Try.results28])
      · rw [hok] at hb
        by_cases hk0 : k = 0
        · have e0 : ((k : Int) == 0) = true := by simp [hk0]
          ((repeat refine AW_seq ?_); (refine gdzb2 (F := _∧_∧_∧_∧_∧_) ⟨hlt, hdh, hra, hrl, e0, hb⟩ hLy o1 ?_))
          ((refine gga0 ?_))
          refine ⟨(k + 1, tt + 1), ⟨hlt, nxt hok⟩, by show r.hs.length - (k + 1) < r.hs.length - k; omega, ?_⟩
          (simp (disch := omega) only [StLe, tmLe, hpLe_refl, hpLe, bl, bb, bt, zDs, zD, eqCells, simprocAttr])
        · have e0 : ((k : Int) == 0) = false := by simpa using hk0
          have e1 : ((k : Int) == (r.hs.length : Int) - 1) = true := by
            rw [beq_iff_eq]
            rcases hend with h' | h' <;> omega
          ((repeat refine AW_seq ?_); (refine gdzb2 (F := _∧_∧_∧_∧_∧_∧_) ⟨hlt, hdh, hra, hrl, e0, e1, hb⟩ hLy o1 ?_))
          ((refine gga0 ?_))
          refine ⟨(k + 1, tt + 1), ⟨hlt, nxt hok⟩, by show r.hs.length - (k + 1) < r.hs.length - k; omega, ?_⟩
          (simp (disch := omega) only [StLe, tmLe, hpLe_refl, hpLe, bl, bb, bt, zDs, zD, eqCells, simprocAttr])
    · have hk0 : k ≠ 0 := fun h => hend (.inl h)
      have hkn : k + 1 < r.hs.length := by
        have : k + 1 ≠ r.hs.length := fun h => hend (.inr h)
        omega
      have hE := endH_mid (n := r.hs.length) (k := k) (by omega) hkn
      have hok : okLoss (endH r.hs.length k) x = true := by unfold okLoss; rw [hlo, hE]; rfl
      have e0 : ((k : Int) == 0) = false := by simpa using hk0
      have e1 : ((k : Int) == (r.hs.length : Int) - 1) = false := by rw [beq_eq_false_iff_ne]; omega
      ((repeat refine AW_seq ?_); (refine gdzb2 (F := _∧_∧_∧_∧_∧_) ⟨hlt, hdh, hra, hrl, e0, e1⟩ hLy o1 ?_))
      ((refine gga0 ?_))
      refine ⟨(k + 1, tt + 1), ⟨hlt, nxt hok⟩, by show r.hs.length - (k + 1) < r.hs.length - k; omega, ?_⟩
      (simp (disch := omega) only [StLe, tmLe, hpLe_refl, hpLe, bl, bb, bt, zDs, zD, eqCells, simprocAttr])
  · have hke : k = r.hs.length := by omega
    subst hke
    rw [rightR_of ⟨n2, n10⟩ fun i h hi => hal i h (List.getElem?_eq_some_iff.1 hi).1 hi]
    ((refine ggb0 @Int.lt_irrefl ?_))
    ((repeat refine AW_seq ?_); (refine wta ?_); simp (disch := omega) only [retQ, resD, oneD, rsv, rs, rsL, rsL_eq_map, List.map_map, bb, bt, zDs, zD, eqCells, simprocAttr, Try.results28])
def alrS (r : Rp) (up : Bool) (t : Nat) (x : Bool × Nat × Nat × Nat) : St :=
  if x.1 = true then ⟨[(1, bool up), (2, .ptr 0 (t + 1) 0), (5, .own 2 3 x.2.2.1 0 x.2.1), (6, int x.2.1)], [some ⟨39, t + 1, rp1 r⟩, none, none, some ⟨42, x.2.2.1, frC (facL r up x.2.1)⟩], x.2.2.2⟩
  else ⟨[(1, bool up), (2, .ptr 0 (t + 1) 0), (5, .sl 2 [int 1, int 1] true), (6, int 1)], [some ⟨39, t + 1, rp1 r⟩], x.2.2.2⟩
set_option maxRecDepth 100000 in
set_option maxHeartbeats 16000000 in
theorem along_ref (r : Rp) (up : Bool) (hr : rightR r = true) : PRet Try.prog 29 [.agg (rp1 r), bool up] (frs (facL r up (r.hs.length - 1))) := by
  refine PRet.intro 1 fun t => ACall.enter tab_ok Try.func29 rfl rfl Try.ntmps29 (by simp) ?_
  simp only [enterTM]
  have hdh := hdC_div r.hs
  have o1 := refOf 1
  obtain ⟨n2, n10⟩ := rightR_len hr
  have hf1 := facL_one r up
  ((refine gga1 o1 ?_))
  ((repeat refine AW_seq ?_))
  refine AW_block ?_
  refine AW_loop_w (alrS r up t) (fun x => r.hs.length - x.2.1) (fun x => 1 ≤ x.2.1 ∧ x.2.1 ≤ r.hs.length - 1 ∧ (x.1 = false → x.2.1 = 1) ∧ (x.1 = true → 2 ≤ x.2.1)) (false, 1, t, t + 1) ⟨Nat.le_refl _, (by show (1 : Nat) ≤ r.hs.length - 1; omega), fun _ => rfl, fun h => (by cases h)⟩ (by simp only [alrS, Bool.false_eq_true, ↓reduceIte]; (simp (disch := omega) only [StLe, tmLe, hpLe_refl, hpLe, bl, bb, bt, zDs, zD, eqCells, simprocAttr])) ?_
  rintro ⟨o, k, g, tt⟩ ⟨hk1, hk, ho1, ho2⟩
  simp only at hk1 hk ho1 ho2
  obtain ⟨j, rfl⟩ : ∃ j, k = j + 1 := ⟨k - 1, by omega⟩
  by_cases hlt : j + 1 < r.hs.length - 1
  · obtain ⟨x, hx⟩ : ∃ y, r.hs[j + 1]? = some y := ⟨_, List.getElem?_eq_getElem (by omega)⟩
    have hra := hdC_read r.hs (j + 1) x hx
    have hrl : ((hdC r.hs).drop ((j + 1) * 4 + 2)).take 2 = [int x.n, int x.d] := by
      have h := congrArg (fun l => (l.drop 2).take 2) hra
      simp only [List.drop_take, List.drop_drop] at h
      simpa [List.take_take] using h
    have hlo := okLoss_lossy (rightR_at hr hx)
    have hls : ∀ i h, 1 ≤ i → i ≤ j → r.hs[i]? = some h → lossy h.n h.d = true := fun i h _ hi hh => okLoss_lossy (rightR_at hr hh)
    obtain ⟨n1, n3, n4⟩ := facK_next (hs := r.hs) (up := up) (k := j) (by omega) hls hx hlo
    have hfv := (facK_fb (up := up) j (by omega) hls).v
    have hlv := (lossy_fb hlo).v
    have hM := refTimes (facK r.hs up j) (x.n, x.d) hfv hlv
    have hD := refOver (facK r.hs up j) (x.n, x.d) hfv hlv
    rw [n1] at hM
    rw [n3] at hD
    have hat := facL_at r up (k := j + 1) (i := j) (by omega)
    have hrf := frC_read (facL r up (j + 1)) j _ hat
    have hll := frC_len (facL r up (j + 1))
    rw [facL_len] at hll
    have hll2 : (frC (facL r up (j + 1))).length / 2 = j + 1 := by omega
    have hdv : ((j + 1) * 2 + 2) / 2 = j + 1 + 1 := by omega
    have hsub : ((j + 1 : Nat) : Int) - 1 = (j : Int) := by omega
    have hpu := facL_push r up (j + 1)
    have hap : frC (facL r up (j + 1)) ++ [int (facK r.hs up (j + 1)).1, int (facK r.hs up (j + 1)).2] = frC (facL r up (j + 1 + 1)) := by rw [hpu]; simp [frC]
    have hj1 : j < j + 1 := by omega
    have hjn : j + 1 < r.hs.length := by omega
    have c1 : ((j + 1 : Nat) : Int) + 1 < (r.hs.length : Int) := by omega
    rw [n4] at hap
    generalize (mulR (facK r.hs up j) (x.n, x.d)).1 = A at *
    generalize (divR (facK r.hs up j) (x.n, x.d)).1 = B at *
    cases o
    · have hj0 : j = 0 := by have := ho1 rfl; omega
      have hfe : frC (facL r up (j + 1)) = [int 1, int 1] := by rw [hj0]; exact hf1
      rw [hfe] at hrf hap
      have hap := hap.symm
      simp only [List.cons_append, List.nil_append] at hap
      subst hj0
      simp only [alrS, Bool.false_eq_true, ↓reduceIte]
      have hrl1 : ((hdC r.hs).drop 6).take 2 = [int x.n, int x.d] := by simpa using hrl
      have hjn1 : 1 < r.hs.length := by omega
      have c2 : (2 : Int) < (r.hs.length : Int) := by omega
      cases up
      · have hS : PRet Try.prog 60 [frD (1, 1), frD (x.n, x.d)] (fe (B, 0)) := hD
        have hap2 : frC (facL r false 2) = [int 1, int 1, int B.1, int B.2] := hap
        ((refine ggb0 (F := _∧_) ⟨c2, hdh⟩ ?_))
        ((repeat refine AW_seq ?_))
        refine AW_block ?_
        ((refine gga0 ?_))
        ((repeat refine AW_seq ?_); (refine gdob1 (F := _∧_∧_) ⟨hjn1, hdh, hrl1⟩ hS ?_))
        ((refine gga0 ?_))
        refine ⟨(true, 2, tt + 1 + 1 + 1, tt + 1 + 1 + 1), ⟨(by show 1 ≤ 2; omega), (by show 2 ≤ r.hs.length - 1; omega), fun h => (by cases h), fun _ => Nat.le_refl _⟩, by show r.hs.length - 2 < r.hs.length - 1; omega, ?_⟩
        simp only [alrS, ↓reduceIte, hap2]
        (simp (disch := omega) only [StLe, tmLe, hpLe_refl, hpLe, bl, bb, bt, zDs, zD, eqCells, simprocAttr])
      · have hS : PRet Try.prog 59 [frD (1, 1), frD (x.n, x.d)] (fe (A, 0)) := hM
        have hap2 : frC (facL r true 2) = [int 1, int 1, int A.1, int A.2] := hap
        ((refine ggb0 (F := _∧_) ⟨c2, hdh⟩ ?_))
        ((repeat refine AW_seq ?_))
        refine AW_block ?_
        ((refine gga0 ?_))
        ((repeat refine AW_seq ?_); (refine gdob1 (F := _∧_∧_) ⟨hjn1, hdh, hrl1⟩ hS ?_))
        ((refine gga0 ?_))
        refine ⟨(true, 2, tt + 1 + 1 + 1, tt + 1 + 1 + 1), ⟨(by show 1 ≤ 2; omega), (by show 2 ≤ r.hs.length - 1; omega), fun h => (by cases h), fun _ => Nat.le_refl _⟩, by show r.hs.length - 2 < r.hs.length - 1; omega, ?_⟩
        simp only [alrS, ↓reduceIte, hap2]
        (simp (disch := omega) only [StLe, tmLe, hpLe_refl, hpLe, bl, bb, bt, zDs, zD, eqCells, simprocAttr])
    · simp only [alrS, ↓reduceIte]
      cases up
      · simp only [Bool.false_eq_true, ↓reduceIte] at hap
        ((refine ggb0 (F := _∧_) ⟨c1, hdh⟩ ?_))
        ((repeat refine AW_seq ?_))
        refine AW_block ?_
        ((refine ggb0 (F := _∧_∧_∧_∧_) ⟨hll, hll2, hsub, hj1, hrf⟩ ?_))
        ((repeat refine AW_seq ?_); (refine gdob1 (F := _∧_∧_∧_) ⟨hjn, hdh, hra, hrl⟩ hD ?_))
        ((refine ggb0 (F := _∧_∧_∧_) ⟨hap, hll, hll2, hdv⟩ ?_))
        refine ⟨(true, j + 1 + 1, tt + 1 + 1 + 1, tt + 1 + 1 + 1), ⟨(by show 1 ≤ j + 1 + 1; omega), (by show j + 1 + 1 ≤ r.hs.length - 1; omega), fun h => (by cases h), fun _ => (by show 2 ≤ j + 1 + 1; omega)⟩, by show r.hs.length - (j + 1 + 1) < r.hs.length - (j + 1); omega, ?_⟩
        simp only [alrS, ↓reduceIte]
        (simp (disch := omega) only [StLe, tmLe, hpLe_refl, hpLe, bl, bb, bt, zDs, zD, eqCells, simprocAttr])
      · simp only [↓reduceIte] at hap
        ((refine ggb0 (F := _∧_) ⟨c1, hdh⟩ ?_))
        ((repeat refine AW_seq ?_))
        refine AW_block ?_
        ((refine ggb0 (F := _∧_∧_∧_∧_) ⟨hll, hll2, hsub, hj1, hrf⟩ ?_))
        ((repeat refine AW_seq ?_); (refine gdob1 (F := _∧_∧_∧_) ⟨hjn, hdh, hra, hrl⟩ hM ?_))
        ((refine ggb0 (F := _∧_∧_∧_) ⟨hap, hll, hll2, hdv⟩ ?_))
        refine ⟨(true, j + 1 + 1, tt + 1 + 1 + 1, tt + 1 + 1 + 1), ⟨(by show 1 ≤ j + 1 + 1; omega), (by show j + 1 + 1 ≤ r.hs.length - 1; omega), fun h => (by cases h), fun _ => (by show 2 ≤ j + 1 + 1; omega)⟩, by show r.hs.length - (j + 1 + 1) < r.hs.length - (j + 1); omega, ?_⟩
        simp only [alrS, ↓reduceIte]
        (simp (disch := omega) only [StLe, tmLe, hpLe_refl, hpLe, bl, bb, bt, zDs, zD, eqCells, simprocAttr])
  · have hke : j + 1 = r.hs.length - 1 := by omega
    have c1 : ¬ ((j + 1 : Nat) : Int) + 1 < (r.hs.length : Int) := by omega
    rw [← hke]
    cases o
    · have hj0 : j = 0 := by have := ho1 rfl; omega
      subst hj0
      have c2 : ¬ (2 : Int) < (r.hs.length : Int) := by omega
      simp only [alrS, Bool.false_eq_true, ↓reduceIte]
      ((refine ggb0 (F := _∧_) ⟨c2, hdh⟩ ?_))
      ((repeat refine AW_seq ?_); (refine wta ?_); simp (disch := omega) only [retQ, resD, oneD, rsv, rs, rsL, rsL_eq_map, List.map_map, bb, bt, zDs, zD, eqCells, simprocAttr, Try.results29])
      rfl
    · simp only [alrS, ↓reduceIte]
      have hlen := facL_len r up (j + 1)
      generalize facL r up (j + 1) = W at *
      have hlw := frC_len W
      rw [hlen] at hlw
      have hfin : List.take ((j + 1) * 2) (frC W) = frC W := List.take_of_length_le (by omega)
      ((refine wqb (F := _∧_) ⟨c1, hdh⟩ ?_))
      ((refine wia ?_))
      ((refine wxa ?_))
      ((refine AW.freeze (3) (by first | rfl | (simp only [setH, List.getElem?_cons_zero, List.getElem?_cons_succ, fz_hd, fz_frS, hfin, hlw, Nat.le_refl]; done)) ?_); simp (disch := omega) only [fzT, fz, fzL, fzL_ints, fzL_mat, fzH, fzB, eq_self, bb, bt, zDs, zD, eqCells, simprocAttr, fz_hd, fz_frS, hfin, hlw, Nat.le_refl])
      ((refine gga0 ?_))
      ((repeat refine AW_seq ?_); (refine wta ?_); simp (disch := omega) only [retQ, resD, oneD, bb, bt, zDs, zD, eqCells, simprocAttr, Try.results29])
      exact rsv_tidy _ _ (by simp only [tidyD, tidyL, tidy_fr, Bool.not_false, Bool.and_self])
end Go.Proofs.Ytpcakodemleoiaa.T

namespace Go.Proofs.Ytpcakodemleoiaa.T
open Go Go.RowKit Lin
set_option linter.unusedSimpArgs false

/-! Chapter 13: the program. -/
end Go.Proofs.Ytpcakodemleoiaa.T

