import Derived.Test.YtpcakodemleoiaaGreatHFWALT
import Derived.Test.YtpcakodemleoiaaGreatHALMALR
import Derived.Test.YtpcakodemleoiaaGreatHALPMQX
import Derived.Test.YtpcakodemleoiaaGreatHLSJ
import Derived.Test.YtpcakodemleoiaaGreatHWOP
set_option linter.all false
namespace Go.Proofs.YtpcakodemleoiaaGreat.T
open Go Go.RowKit Lin
theorem hdC_loss {l : List Hd} {i : Nat} {h : Hd} (hx : l[i]? = some h) : ((hdC l).drop (i * 4 + 2)).take 2 = [int h.n, int h.d] := by
 have h2 := congrArg (fun l => (l.drop 2).take 2) (Y28 l i h hx)
 simp only [List.drop_take, List.drop_drop] at h2
 simpa [List.take_take] using h2
theorem Yek {t : Int × Int} : ∀ (p w : List (Int × Int)) (ok : Bool), (balR t p w ok).2 = 0 → (balR t p w ok).1 = true → ok = true ∧ ∀ (k : Nat) (x y : Int × Int), p[k]? = some x → w[k]? = some y → (mulP x t).2 = 0 ∧ (mulP x t).1 = y
 | [], w, ok, _, h => by
  refine ⟨by cases w <;> exact h, fun k x y hx => by simp at hx⟩
 | _ :: _, [], ok, _, h => ⟨h, fun k x y _ hy => by simp at hy⟩
 | a :: p, b :: w, ok, h0, h1 => by
  simp only [balR] at h0 h1
  by_cases hm : (mulP a t).2 = 0
  ·rw [if_pos hm] at h0 h1
   obtain ⟨k1, k2⟩ := Yek p w _ h0 h1
   rw [Bool.and_eq_true, decide_eq_true_eq] at k1
   refine ⟨k1.1, fun k x y hx hy => ?_⟩
   cases k with
   | zero =>
    simp only [List.getElem?_cons_zero, Option.some.injEq] at hx hy
    subst hx hy
    exact ⟨hm, k1.2⟩
   | succ k => exact k2 k x y (by simpa using hx) (by simpa using hy)
  ·rw [if_neg hm] at h0
   exact absurd h0 hm
theorem balP_inv {w p : List (Int × Int)} (h : (balP w p).2 = 0) : ¬ nzI p < 0 ∧ (divP (w.getD (nzI p).toNat (0, 0)) (p.getD (nzI p).toNat (0, 0))).2 = 0 ∧ (balP w p).1 = (divP (w.getD (nzI p).toNat (0, 0)) (p.getD (nzI p).toNat (0, 0))).1 ∧ ¬ (balP w p).1.1 < 0 ∧ ∀ (k : Nat) (x y : Int × Int), p[k]? = some x → w[k]? = some y → (mulP x (balP w p).1).2 = 0 ∧ (mulP x (balP w p).1).1 = y := by
 unfold balP at h ⊢
 by_cases hn : nzI p < 0
 ·rw [if_pos hn] at h
  simp only at h
  split at h <;> cases h
 rw [if_neg hn] at h ⊢
 generalize divP (w.getD (nzI p).toNat (0, 0)) (p.getD (nzI p).toNat (0, 0)) = Q at *
 by_cases hd : Q.2 = 0
 rotate_left 1
 ·rw [if_neg hd] at h
  exact absurd h hd
 rw [if_pos hd] at h ⊢
 by_cases hb : (balR Q.1 p w true).2 = 0
 rotate_left 1
 ·rw [if_neg hb] at h
  exact absurd h hb
 rw [if_pos hb] at h ⊢
 by_cases hc : (balR Q.1 p w true).1 = false
 ·rw [if_pos hc] at h
  cases h
 rw [if_neg hc] at h ⊢
 by_cases hs : Q.1.1 < 0
 ·rw [if_pos hs] at h
  cases h
 rw [if_neg hs]
 exact ⟨hn, hd, rfl, hs, (Yek p w true hb (by simpa using hc)).2⟩
theorem Ybs {load grip : List (Int × Int)} : ∀ (L : List (List (Int × Int))) (w p : List (Int × Int)), (pairA load grip L w p).2 = 0 → (pairA load grip L w p).1 = (w ++ L.map (fun x => (dotV x load (0, 1)).1), p ++ L.map fun x => (dotV x grip (0, 1)).1) ∧ ∀ x ∈ L, (dotV x load (0, 1)).2 = 0 ∧ (dotV x grip (0, 1)).2 = 0
 | [], w, p, _ => ⟨by simp [pairA], by simp⟩
 | v :: L, w, p, h => by
  simp only [pairA] at h ⊢
  by_cases h1 : (dotV v load (0, 1)).2 = 0
  rotate_left 1
  ·rw [if_neg h1] at h
   exact absurd h h1
  rw [if_pos h1] at h ⊢
  by_cases h2 : (dotV v grip (0, 1)).2 = 0
  rotate_left 1
  ·rw [if_neg h2] at h
   exact absurd h h2
  rw [if_pos h2] at h ⊢
  obtain ⟨k1, k2⟩ := Ybs L _ _ h
  refine ⟨by rw [k1]; simp, fun x hx => ?_⟩
  rcases List.mem_cons.1 hx with rfl | hx
  ·exact ⟨h1, h2⟩
  ·exact k2 x hx
theorem Y9m {r : Rp} {up : Bool} : ∀ (bs : List Bk) (acc : List (Int × Int)), (Y11 r up bs acc).2 = 0 → (Y11 r up bs acc).1 = acc ++ bs.map (fun b => (gripP r up b.nm).1) ∧ ∀ b ∈ bs, (gripP r up b.nm).2 = 0
 | [], acc, _ => ⟨by simp [Y11], by simp⟩
 | b :: l, acc, h => by
  simp only [Y11] at h ⊢
  by_cases h1 : (gripP r up b.nm).2 = 0
  rotate_left 1
  ·rw [if_neg h1] at h
   exact absurd h h1
  rw [if_pos h1] at h ⊢
  obtain ⟨k1, k2⟩ := Y9m l _ h
  refine ⟨by rw [k1]; simp, fun x hx => ?_⟩
  rcases List.mem_cons.1 hx with rfl | hx
  ·exact h1
  ·exact k2 x hx
theorem Ye3 {s : Sy} (h : givL s = 0) : Y0f s = true ∧ ¬ hix s < 0 ∧ (s.rs.any fun r => !r.hl && lossR r) = false := by
 unfold givL at h
 split at h
 ·rename_i h1
  split at h
  ·cases h
  ·rename_i h2
   split at h
   ·cases h
   ·rename_i h3
    exact ⟨h1, h2, by simpa using h3⟩
 ·cases h
theorem first_inv {s : Sy} {up : Bool} (h : (Y0h s up).2.2 = 0) : givL s = 0 ∧ Y1m (hauR s) = true ∧ (Y11 (hauR s) up s.bs []).2 = 0 ∧ (prsP s up).2 = 0 ∧ (balP (prsP s up).1.1 (prsP s up).1.2).2 = 0 ∧ Y0h s up = ((balP (prsP s up).1.1 (prsP s up).1.2).1, facL (hauR s) up ((hauR s).hs.length - 1), 0) := by
 have h' := h
 unfold Y0h at h ⊢
 by_cases h1 : givL s = 0
 rotate_left 1
 ·rw [if_neg h1] at h
  exact absurd h h1
 rw [if_pos h1] at h ⊢
 by_cases h2 : (Y1j (hauR s) up).2 = 0
 rotate_left 1
 ·rw [if_neg h2] at h
  exact absurd h h2
 rw [if_pos h2] at h ⊢
 have hr : Y1m (hauR s) = true := by
  cases hr : Y1m (hauR s)
  ·unfold Y1j at h2
   rw [if_neg (by simp [hr])] at h2
   cases h2
  ·rfl
 by_cases h3 : (Y11 (hauR s) up s.bs []).2 = 0
 rotate_left 1
 ·rw [if_neg h3] at h
  exact absurd h h3
 rw [if_pos h3] at h ⊢
 by_cases h4 : (prsP s up).2 = 0
 rotate_left 1
 ·rw [if_neg h4] at h
  exact absurd h h4
 rw [if_pos h4] at h ⊢
 simp only at h
 refine ⟨h1, hr, h3, h4, h, ?_⟩
 unfold Y1j
 rw [if_pos hr, h]
def gripW (P : Nat → Int) (n : Nat) (nm : ByteArray) : List Hd → Nat → Int
 | [], _ => 0
 | h :: l, i => (if h.b = nm then (if i = 0 then h.p * P 0 else if i + 1 = n then h.p * P (n - 2) else h.p.tdiv 2 * (P (i - 1) + P i)) else 0) + gripW P n nm l (i + 1)
theorem gripT_val {F : Nat → Int × Int} {P : Nat → Int} {Q : Int} {n i : Nat} {h : Hd} (hF : ∀ j, j + 1 < n → Val (F j) (P j) Q) (h2 : 2 ≤ n) (hi : i < n) (hp : -2 ≤ h.p ∧ h.p ≤ 2) (h0 : (gripT n F i h).2 = 0) : Val (gripT n F i h).1 (if i = 0 then h.p * P 0 else if i + 1 = n then h.p * P (n - 2) else h.p.tdiv 2 * (P (i - 1) + P i)) Q := by
 have v1 : Val (h.p, 1) h.p 1 := .one (by omega)
 unfold gripT at h0 ⊢
 by_cases e0 : i = 0
 ·rw [if_pos e0] at h0 ⊢
  rw [if_pos e0]
  have := v1.mulP (hF 0 (by omega)) h0
  rwa [Int.one_mul] at this
 rw [if_neg e0] at h0 ⊢
 rw [if_neg e0]
 by_cases e1 : i + 1 = n
 ·rw [if_pos e1] at h0 ⊢
  rw [if_pos e1]
  have := v1.mulP (hF (n - 2) (by omega)) h0
  rwa [Int.one_mul] at this
 rw [if_neg e1] at h0 ⊢
 rw [if_neg e1]
 have v2 : Val (h.p.tdiv 2, 1) (h.p.tdiv 2) 1 := .one (by
  have h1 : h.p = -2 ∨ h.p = -1 ∨ h.p = 0 ∨ h.p = 1 ∨ h.p = 2 := by omega
  rcases h1 with e | e | e | e | e <;> rw [e] <;> decide)
 by_cases ha : (addP (F (i - 1)) (F i)).2 = 0
 rotate_left 1
 ·rw [if_neg ha] at h0
  exact absurd h0 ha
 rw [if_pos ha] at h0 ⊢
 have hq := (hF i (by omega)).n0
 have hs := ((hF (i - 1) (by omega)).addP (hF i (by omega)) ha).to (r := P (i - 1) + P i) (s := Q) hq (by grind)
 have := v2.mulP hs h0
 rwa [Int.one_mul] at this
theorem Y83 {F : Nat → Int × Int} {P : Nat → Int} {Q : Int} {n : Nat} {nm : ByteArray} (hF : ∀ j, j + 1 < n → Val (F j) (P j) Q) (h2 : 2 ≤ n) : ∀ (hs : List Hd) (i : Nat) (c : Int × Int) (C : Int), (∀ h ∈ hs, -2 ≤ h.p ∧ h.p ≤ 2) → i + hs.length ≤ n → Val c C Q → (gripA n F nm hs i c).2 = 0 → Val (gripA n F nm hs i c).1 (C + gripW P n nm hs i) Q
 | [], i, c, C, _, _, hc, _ => by simp only [gripA, gripW, Int.add_zero]; exact hc
 | h :: l, i, c, C, hp, hi, hc, h0 => by
  simp only [List.length_cons] at hi
  simp only [gripA] at h0 ⊢
  simp only [gripW]
  by_cases hn : h.b = nm
  rotate_left 1
  ·rw [if_neg hn] at h0 ⊢
   rw [if_neg hn, Int.zero_add]
   exact Y83 hF h2 l (i + 1) c C (fun x hx => hp x (by simp [hx])) (by omega) hc h0
  rw [if_pos hn] at h0 ⊢
  rw [if_pos hn]
  by_cases ht : (gripT n F i h).2 = 0
  rotate_left 1
  ·rw [if_neg ht] at h0
   exact absurd h0 ht
  rw [if_pos ht] at h0 ⊢
  have hv := gripT_val hF h2 (by omega) (hp h (by simp)) ht
  generalize (if i = 0 then h.p * P 0 else if i + 1 = n then h.p * P (n - 2) else h.p.tdiv 2 * (P (i - 1) + P i)) = G at *
  by_cases ha : (addP c (gripT n F i h).1).2 = 0
  rotate_left 1
  ·rw [if_neg ha] at h0
   exact absurd h0 ha
  rw [if_pos ha] at h0 ⊢
  have hw := (hc.addP hv ha).to (r := C + G) (s := Q) hc.n0 (by grind)
  rw [← Int.add_assoc]
  exact Y83 hF h2 l (i + 1) _ _ (fun x hx => hp x (by simp [hx])) (by omega) hw h0
theorem gripP_val {r : Rp} {up : Bool} {P : Nat → Int} {Q : Int} {nm : ByteArray} (hF : ∀ j, j + 1 < r.hs.length → Val (facK r.hs up j) (P j) Q) (h2 : 2 ≤ r.hs.length) (hp : ∀ h ∈ r.hs, -2 ≤ h.p ∧ h.p ≤ 2) (h0 : (gripP r up nm).2 = 0) : Val (gripP r up nm).1 (gripW P r.hs.length nm r.hs 0) Q := by
 have hq := (hF 0 (by omega)).n0
 have := Y83 (nm := nm) hF h2 r.hs 0 (0, 1) 0 hp (by omega) ⟨Y1t (by omega), hq, by simp⟩ h0
 rwa [Int.zero_add] at this
end Go.Proofs.YtpcakodemleoiaaGreat.T

namespace Go.Proofs.YtpcakodemleoiaaGreat.T
open Go Go.RowKit Lin
theorem mulc {a b c : Int} (h : 0 < c) : a * c ≤ b * c ↔ a ≤ b := ⟨fun w => Int.le_of_mul_le_mul_right w h, fun w => Int.mul_le_mul_of_nonneg_right w (by omega)⟩
def leF (a b : Int × Int) : Prop := a.1 * b.2 ≤ b.1 * a.2
theorem Val.leF {x y : Int × Int} {p q r s : Int} (h : Val x p q) (k : Val y r s) (hq : 0 < q) (hs : 0 < s) : T.leF x y ↔ p * s ≤ r * q := by
 have hx := (Y09 h.v).1
 have hy := (Y09 k.v).1
 have h1 := h.e
 have h2 := k.e
 have hc : 0 < q * s := Int.mul_pos hq hs
 have hd : 0 < x.2 * y.2 := Int.mul_pos (by omega) (by omega)
 have e1 : x.1 * y.2 * (q * s) = (p * s) * (x.2 * y.2) := by
  calc x.1 * y.2 * (q * s) = (x.1 * q) * (y.2 * s) := by ac_rfl
   _ = (p * x.2) * (y.2 * s) := by rw [h1]
   _ = (p * s) * (x.2 * y.2) := by ac_rfl
 have e2 : y.1 * x.2 * (q * s) = (r * q) * (x.2 * y.2) := by
  calc y.1 * x.2 * (q * s) = (y.1 * s) * (x.2 * q) := by ac_rfl
   _ = (r * y.2) * (x.2 * q) := by rw [h2]
   _ = (r * q) * (x.2 * y.2) := by ac_rfl
 unfold T.leF
 rw [← mulc hc, e1, e2, mulc hd]
theorem cmp_le {a b : Int × Int} : cmpV a b ≤ 0 ↔ leF a b := by
 have := @cmpV_gt a b
 unfold leF
 omega
theorem Yh4 {a b : Int × Int} : 0 ≤ cmpV a b ↔ leF b a := by
 have := @cmpV_lt a b
 unfold leF
 omega
def holdP (s : Sy) : (Int × Int) × (Int × Int) × Int :=
 if (Y0b s true).2 = 0 then (if (Y0b s false).2 = 0 then (if cmpV (Y0b s true).1 (Y0b s false).1 < 0 then ((0, 0), (0, 0), 17) else ((Y0b s false).1, (Y0b s true).1, 0)) else ((0, 0), (0, 0), (Y0b s false).2)) else ((0, 0), (0, 0), (Y0b s true).2)
def Ydy (s : Sy) (f : Int × Int) : Bool × Int :=
 if vfrac f.1 f.2 = true then (if (holdP s).2.2 = 0 then (decide (0 ≤ cmpV f (holdP s).1) && decide (cmpV f (holdP s).2.1 ≤ 0), 0) else (false, (holdP s).2.2)) else (false, 1)
theorem Y44 {s : Sy} {up : Bool} (h : (Y0b s up).2 = 0) : vfrac (Y0b s up).1.1 (Y0b s up).1.2 = true := by
 unfold Y0b at h ⊢
 by_cases h0 : (Y0h s up).2.2 = 0
 ·rw [if_pos h0] at h ⊢
  exact mul0v h
 ·rw [if_neg h0] at h
  exact absurd h h0
theorem Ydz {s : Sy} (h : (holdP s).2.2 = 0) : (Y0b s true).2 = 0 ∧ (Y0b s false).2 = 0 ∧ (holdP s).1 = (Y0b s false).1 ∧ (holdP s).2.1 = (Y0b s true).1 ∧ leF (holdP s).1 (holdP s).2.1 ∧ vfrac (holdP s).1.1 (holdP s).1.2 = true ∧ vfrac (holdP s).2.1.1 (holdP s).2.1.2 = true := by
 unfold holdP at h ⊢
 by_cases h1 : (Y0b s true).2 = 0
 rotate_left 1
 ·rw [if_neg h1] at h
  exact absurd h h1
 rw [if_pos h1] at h ⊢
 by_cases h2 : (Y0b s false).2 = 0
 rotate_left 1
 ·rw [if_neg h2] at h
  exact absurd h h2
 rw [if_pos h2] at h ⊢
 by_cases h3 : cmpV (Y0b s true).1 (Y0b s false).1 < 0
 ·rw [if_pos h3] at h
  cases h
 rw [if_neg h3]
 exact ⟨h1, h2, rfl, rfl, Yh4.1 (show 0 ≤ cmpV (Y0b s true).1 (Y0b s false).1 by omega), Y44 h2, Y44 h1⟩
end Go.Proofs.YtpcakodemleoiaaGreat.T

namespace Go.Proofs.YtpcakodemleoiaaGreat.T
open Go Go.RowKit Lin
theorem firstP_v {s : Sy} {up : Bool} (h : (Y0h s up).2.2 = 0) : vfrac (Y0h s up).1.1 (Y0h s up).1.2 = true ∧ (Y0h s up).2.1 = facL (hauR s) up ((hauR s).hs.length - 1) ∧ Y1m (hauR s) = true ∧ Y0f s = true ∧ ¬ hix s < 0 ∧ ∀ x ∈ (Y0h s up).2.1, vfrac x.1 x.2 = true := by
 obtain ⟨hg, hr, _, _, hb, e⟩ := first_inv h
 obtain ⟨_, hd, et, _, _⟩ := balP_inv hb
 obtain ⟨hv, hx, _⟩ := Ye3 hg
 obtain ⟨n2, n10⟩ := Y1y hr
 rw [e]
 simp only
 refine ⟨?_, by first | rfl | trivial, hr, hv, hx, fun x hx => ?_⟩
 ·rw [et]
  obtain ⟨a1, a2, _, _⟩ := Yay hd
  exact (Val.divP (Val.self a1) (Val.self a2) hd).v
 ·obtain ⟨i, hi, rfl⟩ := List.mem_map.1 hx
  have := List.mem_range.1 hi
  exact (Y52 (hs := (hauR s).hs) (up := up) i (by omega) fun j x h1 h2 hx => Y1z (Y3b hr hx)).v
end Go.Proofs.YtpcakodemleoiaaGreat.T

namespace Go.Proofs.YtpcakodemleoiaaGreat.T
open Go Go.RowKit Lin
theorem gdza_AHP {P Q : Prop} (q : Q) (h : Q → P := by
 intro  hq
 (try with_reducible intro KR hKR)
 (repeat refine Y01 ?_); (repeat refine Y01 ?_); (refine Y0a tab_ok Y08 0 fun KR hKR => ?_); simp only [List.replicate_succ, List.replicate_zero, List.append_nil, List.nil_append, List.cons_append, List.length_cons, List.length_nil, Nat.reduceAdd]; (repeat' ((first | refine awD_n rfl fun KK hKK => ?_ | refine awD_g rfl rfl fun KK hKK => ?_ | refine Y1a rfl fun KK hKK => ?_ | refine Y19 fun KK hKK => ?_); simp (disch := omega) only [bb, bt, zDs, zD, Y00, simprocAttr, bne_self_eq_false, Int.reduceBNe, Int.reduceBEq, Bool.bne_false, Bool.bne_true, Bool.false_bne, Bool.true_bne]; refine hKK _ _ _ ?_; clear hKK KK)); (refine Y0n ?_); simp only [List.reverse_cons, List.reverse_nil, List.nil_append, List.cons_append]; (refine hKR _ _ (by first | rfl | kernel_rfl) ?_); (try clear hKR KR); (repeat (with_reducible first | refine q1 ?_ | refine q2 ?_ | refine q3 ?_ | refine q4 ?_ | refine q5 ?_ | refine q6 ?_ | (refine q7 ?_ ?_; (focus (with_unfolding_all rfl)))))
 (first | exact hq | (revert hKR; revert KR; exact hq))) : P := h  q
set_option maxHeartbeats 4000000 in
theorem Ygx (s : Sy) (hf : Fits s) : PRet Tryz.prog 24 [syD s] (.tup [frD (holdP s).1, frD (holdP s).2.1, int (holdP s).2.2]) := by
 refine PRet.intro 1 fun t => ACall.enter tab_ok Tryz.func24 rfl rfl Tryz.ntmps24 (by simp) ?_
 simp only [Y06]
 have hR := Yah s hf
 have hL := Yfm s hf
 have v1 := @Y44 s true
 have v2 := @Y44 s false
 unfold holdP
 generalize Y0b s true = A at *
 generalize Y0b s false = B at *
 by_cases h1 : A.2 = 0
 rotate_left 1
 ·have e1 : (A.2 != 0) = true := by simpa using h1
  rw [if_neg h1]
  ((refine ggb1 e1 hR ?_))
  ((repeat refine Y01 ?_); (refine wta ?_); simp (disch := omega) only [retQ, resD, oneD, rsv, rs, rsL, Y02, List.map_map, bb, bt, zDs, zD, Y00, simprocAttr, Tryz.results24])
 have e1 : (A.2 != 0) = false := by simpa using h1
 rw [if_pos h1]
 by_cases h2 : B.2 = 0
 rotate_left 1
 ·have e2 : (B.2 != 0) = true := by simpa using h2
  rw [if_neg h2]
  ((refine ggb2 (F := _∧_) ⟨e1, e2⟩ hR hL ?_))
  ((repeat refine Y01 ?_); (refine wta ?_); simp (disch := omega) only [retQ, resD, oneD, rsv, rs, rsL, Y02, List.map_map, bb, bt, zDs, zD, Y00, simprocAttr, Tryz.results24])
 have e2 : (B.2 != 0) = false := by simpa using h2
 rw [if_pos h2]
 have hC := rCmp A.1 B.1
 rw [Yb0 (v1 h1) (v2 h2)] at hC
 simp only at hC
 generalize cmpV A.1 B.1 = c at *
 by_cases h3 : c < 0
 ·rw [if_pos h3]
  ((refine ggb3 (F := _∧_) ⟨e1, e2⟩ hR hL hC ?_))
  refine Y04 ?_
  ((refine ggb0 h3 ?_))
  ((repeat refine Y01 ?_); (refine wta ?_); simp (disch := omega) only [retQ, resD, oneD, rsv, rs, rsL, Y02, List.map_map, bb, bt, zDs, zD, Y00, simprocAttr, Tryz.results24])
 ·rw [if_neg h3]
  ((refine ggb3 (F := _∧_) ⟨e1, e2⟩ hR hL hC ?_))
  refine Y04 ?_
  ((refine ggb0 h3 ?_))
  ((repeat refine Y01 ?_); (refine gdza_AHP ?_))
  ((repeat refine Y01 ?_); (refine wta ?_); simp (disch := omega) only [retQ, resD, oneD, rsv, rs, rsL, Y02, List.map_map, bb, bt, zDs, zD, Y00, simprocAttr, Tryz.results24])
set_option maxHeartbeats 4000000 in
theorem holds14 (s : Sy) (hf : Fits s) (f : Int × Int) : PRet Tryz.prog 31 [syD s, frD f] (.tup [bool (Ydy s f).1, int (Ydy s f).2]) := by
 refine PRet.intro 1 fun t => ACall.enter tab_ok Tryz.func31 rfl rfl Tryz.ntmps31 (by simp) ?_
 simp only [Y06]
 have hV := Y3y f.1 f.2
 have hH := Ygx s hf
 have hok := @Ydz s
 unfold Ydy
 generalize holdP s = X at *
 obtain ⟨lo, hi, e⟩ := X
 simp only at *
 cases hv : vfrac f.1 f.2
 ·rw [hv] at hV
  rw [if_neg (by decide)]
  ((refine gga1 hV ?_))
  ((repeat refine Y01 ?_); (refine wta ?_); simp (disch := omega) only [retQ, resD, oneD, rsv, rs, rsL, Y02, List.map_map, bb, bt, zDs, zD, Y00, simprocAttr, Tryz.results31])
 rw [hv] at hV
 rw [if_pos rfl]
 by_cases h1 : e = 0
 rotate_left 1
 ·have e1 : (e != 0) = true := by simpa using h1
  rw [if_neg h1]
  ((refine ggb2 e1 hV hH ?_))
  ((repeat refine Y01 ?_); (refine wta ?_); simp (disch := omega) only [retQ, resD, oneD, rsv, rs, rsL, Y02, List.map_map, bb, bt, zDs, zD, Y00, simprocAttr, Tryz.results31])
 obtain ⟨_, _, _, _, _, vl, vh⟩ := hok h1
 subst h1
 rw [if_pos rfl]
 have hC1 := rCmp f lo
 rw [Yb0 hv vl] at hC1
 have hC2 := rCmp f hi
 rw [Yb0 hv vh] at hC2
 simp only at hC1 hC2
 generalize cmpV f lo = c1 at *
 generalize cmpV f hi = c2 at *
 by_cases h2 : 0 ≤ c1
 ·rw [decide_eq_true h2, Bool.true_and]
  by_cases h3 : c2 ≤ 0
  ·rw [decide_eq_true h3]
   ((refine ggb4 (F := _∧_) ⟨h2, h3⟩ hV hH hC1 hC2 ?_))
   ((repeat refine Y01 ?_); (refine wta ?_); simp (disch := omega) only [retQ, resD, oneD, rsv, rs, rsL, Y02, List.map_map, bb, bt, zDs, zD, Y00, simprocAttr, Tryz.results31])
  ·rw [decide_eq_false h3]
   ((refine ggb4 (F := _∧_) ⟨h2, h3⟩ hV hH hC1 hC2 ?_))
   ((repeat refine Y01 ?_); (refine wta ?_); simp (disch := omega) only [retQ, resD, oneD, rsv, rs, rsL, Y02, List.map_map, bb, bt, zDs, zD, Y00, simprocAttr, Tryz.results31])
 ·rw [decide_eq_false h2, Bool.false_and]
  ((refine ggb4 h2 hV hH hC1 hC2 ?_))
  ((repeat refine Y01 ?_); (refine wta ?_); simp (disch := omega) only [retQ, resD, oneD, rsv, rs, rsL, Y02, List.map_map, bb, bt, zDs, zD, Y00, simprocAttr, Tryz.results31])
end Go.Proofs.YtpcakodemleoiaaGreat.T

namespace Go.Proofs.YtpcakodemleoiaaGreat.T
open Go Go.RowKit Lin
theorem null_ref {m : List (List Int)} (hv : Y12 m = true) : PRet Tryz.prog 117 [mat m] (frss (nullP m).1) := by
 have h := refNull m hv
 have hsm := Y2t hv
 have iv1 := Y1i (Y21 m (wid m)) hsm.lens (wid m) (Nat.le_refl _)
 have iv2 := Y1i (Y5n m (wid m)) hsm.lens (wid m) (Nat.le_refl _)
 have e : (nullP m).1 = nulls (Y18 mvR m (wid m)) (wid m) (wid m) := by
  unfold nullP
  rw [if_pos hv]
  show nulls (elim m (wid m)) (wid m) (wid m) = _
  rw [Y3n, Y9d iv1 iv2 (Y6k (Y21 m (wid m)) (Y5n m (wid m)) hsm.lens (wid m) (Nat.le_refl _)) (wid m) (Nat.le_refl _)]
 rw [e]
 exact h
end Go.Proofs.YtpcakodemleoiaaGreat.T

namespace Go.Proofs.YtpcakodemleoiaaGreat.T
open Go Go.RowKit Lin
theorem Y85 {C1 C2 P Q : Prop} (c1 : C1) (c2 : C2) (q : Q) (h : C1 → C2 → Q → P := by
 intro cc1 cc2 hq
 (try with_reducible intro KR hKR)
 (repeat refine Y01 ?_); (repeat refine Y01 ?_); (refine Y0a tab_ok Y08 1 fun KR hKR => ?_); simp only [List.replicate_succ, List.replicate_zero, List.append_nil, List.nil_append, List.cons_append, List.length_cons, List.length_nil, Nat.reduceAdd]; (repeat' ((first | refine awD_n rfl fun KK hKK => ?_ | refine awD_g rfl rfl fun KK hKK => ?_ | refine Y1a rfl fun KK hKK => ?_ | refine Y19 fun KK hKK => ?_); simp (disch := omega) only [bb, bt, zDs, zD, Y00, simprocAttr, bne_self_eq_false, Int.reduceBNe, Int.reduceBEq, Bool.bne_false, Bool.bne_true, Bool.false_bne, Bool.true_bne, goCDS, Y0e, argsZ, argsD, ufa, uf]; (try ((first | with_reducible refine PGive.ret (cc1) ?_ | with_reducible refine PGive.ret (cc2) ?_); simp (disch := omega) only [bb, bt, zDs, zD, Y00, simprocAttr, Y0x, bne_self_eq_false, Int.reduceBNe, Int.reduceBEq, Bool.bne_false, Bool.bne_true, Bool.false_bne, Bool.true_bne])); refine hKK _ _ _ ?_; clear hKK KK)); (refine Y0n ?_); simp only [List.reverse_cons, List.reverse_nil, List.nil_append, List.cons_append]; (refine hKR _ _ (by first | rfl | kernel_rfl) ?_); (try clear hKR KR); (repeat (with_reducible first | refine q1 ?_ | refine q2 ?_ | refine q3 ?_ | refine q4 ?_ | refine q5 ?_ | refine q6 ?_ | (refine q7 ?_ ?_; (focus (with_unfolding_all rfl)))))
 (first | exact hq | (revert hKR; revert KR; exact hq))) : P := h c1 c2 q
theorem Yb5 {a b : Int × Int} (h : (addR a b).2 ≠ 0) : (addR a b).1 = (0, 0) := by
 unfold addR at h ⊢
 split
 ·rename_i h1
  rw [if_pos h1] at h
  exact Y43 h
 ·rename_i h1
  rw [if_neg h1] at h
  split
  ·rename_i h2
   rw [if_pos h2] at h
   exact Y43 h
  ·rename_i h2
   rw [if_neg h2] at h
   exact Y43 h
theorem fr00 {x : (Int × Int) × Int} (h : x.1 = (0, 0)) : x = ((0, 0), x.2) := Prod.ext h rfl
set_option maxHeartbeats 8000000 in
theorem Yg3 (a b : List (Int × Int)) (hab : a.length ≤ b.length) (hl : b.length ≤ 1000) (va : ∀ x ∈ a, vfrac x.1 x.2 = true) (vb : ∀ x ∈ b, vfrac x.1 x.2 = true) : PRet Tryz.prog 93 [frs a, frs b] (fe (dotV a b (0, 1))) := by
 refine PRet.intro 1 fun t => ACall.enter tab_ok Tryz.func93 rfl rfl Tryz.ntmps93 (by simp) ?_
 simp only [Y06]
 have o0 := refOf 0
 have hda := Y2q a
 have hdb := Y2q b
 generalize hR : dotV a b (0, 1) = R
 ((refine gga1 o0 ?_))
 ((repeat refine Y01 ?_))
 refine Y0j (fun x : Nat => ⟨[(4, .ptr 0 (t + 1) 0), (6, .ptr 1 (t + 1 + 1) 0)], [some ⟨33, t + 1, [int 0, int 0]⟩, some ⟨33, t + 1 + 1, [int R.1.1, int R.1.2]⟩], x⟩) (fun _ => R.2 = 0) ?_ ?_
 ·refine Y04 ?_
  refine Y07 (fun x : (Int × Int) × Nat × Nat => ⟨[(0, frs a), (1, frs b), (4, .ptr 0 (t + 1) 0), (6, .ptr 1 (t + 1 + 1) 0), (7, int x.2.1)], [some ⟨33, t + 1, [int 0, int 0]⟩, some ⟨33, t + 1 + 1, [int x.1.1, int x.1.2]⟩], x.2.2⟩) (fun x => a.length - x.2.1) (fun x => x.2.1 ≤ a.length ∧ vfrac x.1.1 x.1.2 = true ∧ dotV (a.drop x.2.1) (b.drop x.2.1) x.1 = R) ((0, 1), 0, t + 1 + 1) ⟨Nat.zero_le _, (show vfrac 0 1 = true by decide), hR⟩ (by (simp (disch := omega) only [StLe, tmLe, Y03, hpLe, bl, bb, bt, zDs, zD, Y00, simprocAttr])) ?_
  rintro ⟨c, i, tt⟩ ⟨hi, hc, hd⟩
  simp only at hi hc hd
  by_cases hlt : i < a.length
  ·obtain ⟨x, hx⟩ : ∃ y, a[i]? = some y := ⟨_, List.getElem?_eq_getElem hlt⟩
   have hbl : i < b.length := by omega
   obtain ⟨y, hy⟩ : ∃ y, b[i]? = some y := ⟨_, List.getElem?_eq_getElem hbl⟩
   have hrx := Y0p a i x hx
   have hry := Y0p b i y hy
   have vx := va x (List.mem_of_getElem? hx)
   have vy := vb y (List.mem_of_getElem? hy)
   have hM := Y5h x y vx vy
   have hMn := @Yam x y
   have hMv := fun h => Y3d (a := x) (b := y) vx vy h
   rw [Ycc hx hy, Y41 vx vy] at hd
   generalize mulR x y = M at *
   ((refine ggb0 (F := _∧_∧_) ⟨@Int.ofNat_lt, hlt, hda⟩ ?_))
   ((repeat refine Y01 ?_))
   refine Y04 ?_
   by_cases h1 : M.2 = 0
   rotate_left 1
   ·have e1 : (M.2 != 0) = true := by simpa using h1
    rw [if_neg h1, ← fr00 (hMn h1)] at hd
    subst hd
    ((repeat refine Y01 ?_); (refine gdob1 (F := _∧_∧_∧_∧_∧_) ⟨hlt, hbl, hda, hdb, hrx, hry⟩ hM ?_))
    ((refine ggb0 e1 ?_))
    ((repeat refine Y01 ?_); (refine wta ?_); simp (disch := omega) only [retQ, resD, oneD, rsv, rs, rsL, Y02, List.map_map, bb, bt, zDs, zD, Y00, simprocAttr, Tryz.results93])
   have e1 : (M.2 != 0) = false := by simpa using h1
   rw [if_pos h1] at hd
   have hA := Yfb c M.1 hc (hMv h1)
   have hAn := @Yb5 c M.1
   have hAv := fun h => Y2l (a := c) (b := M.1) hc (hMv h1) h
   rw [Y8p hc (hMv h1)] at hd
   generalize addR c M.1 = Q at *
   by_cases h2 : Q.2 = 0
   rotate_left 1
   ·have e2 : (Q.2 != 0) = true := by simpa using h2
    rw [if_neg h2, ← fr00 (hAn h2)] at hd
    subst hd
    ((repeat refine Y01 ?_); (refine gdob1 (F := _∧_∧_∧_∧_∧_) ⟨hlt, hbl, hda, hdb, hrx, hry⟩ hM ?_))
    ((refine ggb1 (F := _∧_) ⟨e1, e2⟩ hA ?_))
    ((repeat refine Y01 ?_); (refine wta ?_); simp (disch := omega) only [retQ, resD, oneD, rsv, rs, rsL, Y02, List.map_map, bb, bt, zDs, zD, Y00, simprocAttr, Tryz.results93])
   have e2 : (Q.2 != 0) = false := by simpa using h2
   rw [if_pos h2] at hd
   ((repeat refine Y01 ?_); (refine gdob1 (F := _∧_∧_∧_∧_∧_) ⟨hlt, hbl, hda, hdb, hrx, hry⟩ hM ?_))
   ((refine ggb1 (F := _∧_) ⟨e1, e2⟩ hA ?_))
   refine ⟨(Q.1, i + 1, tt + 1 + 1), ⟨hlt, hAv h2, hd⟩, by show a.length - (i + 1) < a.length - i; omega, ?_⟩
   (simp (disch := omega) only [StLe, tmLe, Y03, hpLe, bl, bb, bt, zDs, zD, Y00, simprocAttr])
  ·have hie : i = a.length := by omega
   subst hie
   have hde : dotV (a.drop a.length) (b.drop a.length) c = (c, 0) := by rw [List.drop_eq_nil_of_le (Nat.le_refl _)]; simp [dotV]
   rw [hde] at hd
   subst hd
   ((refine wqb (F := _∧_) ⟨@Int.lt_irrefl, hda⟩ ?_))
   ((refine wia ?_))
   ((refine wxa ?_))
   exact ⟨tt, rfl, by (simp (disch := omega) only [StLe, tmLe, Y03, hpLe, bl, bb, bt, zDs, zD, Y00, simprocAttr])⟩
 rintro tt h0
 obtain ⟨⟨r1, r2⟩, re⟩ := R
 simp only at h0
 subst h0
 ((refine gga0 ?_))
 ((repeat refine Y01 ?_); (refine wta ?_); simp (disch := omega) only [retQ, resD, oneD, rsv, rs, rsL, Y02, List.map_map, bb, bt, zDs, zD, Y00, simprocAttr, Tryz.results93])
theorem okHold_half {h : Hd} (hp : -2 ≤ h.p ∧ h.p ≤ 2) : -2 ≤ h.p.tdiv 2 ∧ h.p.tdiv 2 ≤ 2 := by
 have h1 : h.p = -2 ∨ h.p = -1 ∨ h.p = 0 ∨ h.p = 1 ∨ h.p = 2 := by omega
 rcases h1 with e | e | e | e | e <;> rw [e] <;> decide
set_option maxRecDepth 100000 in
set_option maxHeartbeats 16000000 in
theorem grip_ref (r : Rp) (up : Bool) (hr : Y1m r = true) (hp : ∀ h ∈ r.hs, -2 ≤ h.p ∧ h.p ≤ 2) (nm : ByteArray) : PRet Tryz.prog 91 [.agg (rp1 r), str nm, frs (facL r up (r.hs.length - 1))] (fe (gripP r up nm)) := by
 refine PRet.intro 1 fun t => ACall.enter tab_ok Tryz.func91 rfl rfl Tryz.ntmps91 (by simp) ?_
 simp only [Y06]
 have hdh := Y2a r.hs
 have o0 := refOf 0
 obtain ⟨n2, n10⟩ := Y1y hr
 have hfv : ∀ j, j + 1 < r.hs.length → vfrac (facK r.hs up j).1 (facK r.hs up j).2 = true := fun j hj => (Y52 (hs := r.hs) (up := up) j (by omega) fun i x h1 h2 hx => Y1z (Y3b hr hx)).v
 have hWl := Y33 r up (r.hs.length - 1)
 have hWa := fun i => Y8b r up (k := r.hs.length - 1) (i := i)
 generalize facL r up (r.hs.length - 1) = W at *
 have hWd := Y2q W
 rw [hWl] at hWd
 generalize hR : gripP r up nm = R
 have hR : gripA r.hs.length (facK r.hs up) nm r.hs 0 (0, 1) = R := hR
 ((refine gga1 o0 ?_))
 ((repeat refine Y01 ?_))
 refine Y0j (fun x : Nat => ⟨[(6, .ptr 1 (t + 1 + 1) 0), (8, .ptr 2 (t + 1 + 1 + 1) 0)], [none, some ⟨33, t + 1 + 1, [int 0, int 0]⟩, some ⟨33, t + 1 + 1 + 1, [int R.1.1, int R.1.2]⟩], x⟩) (fun _ => R.2 = 0) ?_ ?_
 ·refine Y04 ?_
  refine Y07 (fun x : (Int × Int) × Nat × Nat => ⟨[(1, str nm), (2, frs W), (3, .ptr 0 (t + 1) 0), (6, .ptr 1 (t + 1 + 1) 0), (8, .ptr 2 (t + 1 + 1 + 1) 0), (9, int x.2.1)], [some ⟨39, t + 1, rp1 r⟩, some ⟨33, t + 1 + 1, [int 0, int 0]⟩, some ⟨33, t + 1 + 1 + 1, [int x.1.1, int x.1.2]⟩], x.2.2⟩) (fun x => r.hs.length - x.2.1) (fun x => x.2.1 ≤ r.hs.length ∧ vfrac x.1.1 x.1.2 = true ∧ gripA r.hs.length (facK r.hs up) nm (r.hs.drop x.2.1) x.2.1 x.1 = R) ((0, 1), 0, t + 1 + 1 + 1) ⟨Nat.zero_le _, (show vfrac 0 1 = true by decide), hR⟩ (by (simp (disch := omega) only [StLe, tmLe, Y03, hpLe, bl, bb, bt, zDs, zD, Y00, simprocAttr])) ?_
  rintro ⟨c, i, tt⟩ ⟨hi, hc, hd⟩
  simp only at hi hc hd
  by_cases hlt : i < r.hs.length
  ·obtain ⟨h, hx⟩ : ∃ y, r.hs[i]? = some y := ⟨_, List.getElem?_eq_getElem hlt⟩
   have hrh := Y28 r.hs i h hx
   have hpp := hp h (List.mem_of_getElem? hx)
   rw [Y9n hx] at hd
   ((refine ggb0 (F := _∧_∧_) ⟨@Int.ofNat_lt, hlt, hdh⟩ ?_))
   ((repeat refine Y01 ?_))
   refine Y04 ?_
   by_cases hnm : h.b = nm
   rotate_left 1
   ·rw [if_neg hnm] at hd
    have en : decide (h.b = nm) = false := decide_eq_false hnm
    have en2 : (h.b == nm) = false := by simpa using hnm
    ((refine ggb0 (F := _∧_∧_∧_∧_∧_) ⟨hlt, hdh, hrh, hnm, en, en2⟩ ?_))
    refine ⟨(c, i + 1, tt + 1), ⟨hlt, hc, hd⟩, by show r.hs.length - (i + 1) < r.hs.length - i; omega, ?_⟩
    (simp (disch := omega) only [StLe, tmLe, Y03, hpLe, bl, bb, bt, zDs, zD, Y00, simprocAttr])
   rw [if_pos hnm] at hd
   have en : decide (h.b = nm) = true := decide_eq_true hnm
   have hrf0 : (frC W).take 2 = [int (facK r.hs up 0).1, int (facK r.hs up 0).2] := by simpa using Y0p W 0 _ (hWa 0 (by omega))
   have hrf1 : ((frC W).drop 0).take 2 = [int (facK r.hs up 0).1, int (facK r.hs up 0).2] := hrf0
   have hW0 : 0 < r.hs.length - 1 := by omega
   ((refine ggb0 (F := _∧_∧_∧_∧_∧_∧_∧_∧_) ⟨hlt, hdh, hrh, hnm, en, hrf0, hrf1, hW0, hWd⟩ ?_))
   ((repeat refine Y01 ?_))
   refine Y0j (fun x : (Int × Int × Int) × Nat => ⟨[(1, str nm), (2, frs W), (3, .ptr 0 (t + 1) 0), (6, .ptr 1 (t + 1 + 1) 0), (8, .ptr 2 (t + 1 + 1 + 1) 0), (9, int i), (11, .ptr 4 (tt + 1 + 1) 0), (12, int x.1.1)], [some ⟨39, t + 1, rp1 r⟩, some ⟨33, t + 1 + 1, [int 0, int 0]⟩, some ⟨33, t + 1 + 1 + 1, [int c.1, int c.2]⟩, none, some ⟨33, tt + 1 + 1, [int x.1.2.1, int x.1.2.2]⟩], x.2⟩) (fun x => vfrac x.1.1 1 = true ∧ vfrac x.1.2.1 x.1.2.2 = true ∧ gripT r.hs.length (facK r.hs up) i h = mulP (x.1.1, 1) x.1.2) ?_ ?_
   ·by_cases hin : i + 1 = r.hs.length
    ·have c1 : ((i : Int) == (r.hs.length : Int) - 1) = true := by rw [beq_iff_eq]; omega
     have hrf := Y0p W (r.hs.length - 2) _ (hWa (r.hs.length - 2) (by omega))
     have hsub : ((r.hs.length - 1 : Nat) : Int) - 1 = ((r.hs.length - 2 : Nat) : Int) := by omega
     have hjW : r.hs.length - 2 < r.hs.length - 1 := by omega
     ((refine ggb0 (F := _∧_∧_∧_∧_) ⟨c1, hWd, hsub, hjW, hrf⟩ ?_))
     exact ⟨((h.p, facK r.hs up (r.hs.length - 2)), tt + 1 + 1), ⟨(show vfrac h.p 1 = true from Y1t (by omega)), hfv _ (by omega), by unfold gripT; rw [if_neg (by omega), if_pos hin]⟩, by (simp (disch := omega) only [StLe, tmLe, Y03, hpLe, bl, bb, bt, zDs, zD, Y00, simprocAttr])⟩
    have c1 : ((i : Int) == (r.hs.length : Int) - 1) = false := by rw [beq_eq_false_iff_ne]; omega
    by_cases hi0 : i = 0
    ·have c0 : ¬ (0 : Int) < (i : Int) := by omega
     ((refine ggb0 (F := _∧_) ⟨c1, c0⟩ ?_))
     exact ⟨((h.p, facK r.hs up 0), tt + 1 + 1), ⟨(show vfrac h.p 1 = true from Y1t (by omega)), hfv _ (by omega), by unfold gripT; rw [if_pos hi0]⟩, by (simp (disch := omega) only [StLe, tmLe, Y03, hpLe, bl, bb, bt, zDs, zD, Y00, simprocAttr])⟩
    have c0 : (0 : Int) < (i : Int) := by omega
    have va := hfv (i - 1) (by omega)
    have vb := hfv i (by omega)
    have hA := Yfb (facK r.hs up (i - 1)) (facK r.hs up i) va vb
    have hAv := fun h => Y2l (a := facK r.hs up (i - 1)) (b := facK r.hs up i) va vb h
    have hAn := @Yb5 (facK r.hs up (i - 1)) (facK r.hs up i)
    have hsub1 : (i : Int) - 1 = ((i - 1 : Nat) : Int) := by omega
    have hrfa := Y0p W (i - 1) _ (hWa (i - 1) (by omega))
    have hrfb := Y0p W i _ (hWa i (by omega))
    have hl1 : i - 1 < r.hs.length - 1 := by omega
    have hl2 : i < r.hs.length - 1 := by omega
    have hgt : gripT r.hs.length (facK r.hs up) i h = if (addR (facK r.hs up (i - 1)) (facK r.hs up i)).2 = 0 then mulP (h.p.tdiv 2, 1) (addR (facK r.hs up (i - 1)) (facK r.hs up i)).1 else ((0, 0), (addR (facK r.hs up (i - 1)) (facK r.hs up i)).2) := by
     unfold gripT
     rw [if_neg hi0, if_neg hin, Y8p va vb]
    have hhf := okHold_half hpp
    have hwr := wr64 (h.p.tdiv 2) (by omega)
    generalize addR (facK r.hs up (i - 1)) (facK r.hs up i) = Q at *
    generalize facK r.hs up (i - 1) = fa at *
    by_cases hq : Q.2 = 0
    rotate_left 1
    ·have e1 : (Q.2 != 0) = true := by simpa using hq
     rw [if_neg hq] at hgt
     rw [hgt, if_neg hq, ← fr00 (hAn hq)] at hd
     subst hd
     ((refine ggb0 (F := _∧_) ⟨c1, c0⟩ ?_))
     ((repeat refine Y01 ?_); (refine gdob1 (F := _∧_∧_∧_∧_∧_) ⟨hsub1, hl1, hl2, hWd, hrfa, hrfb⟩ hA ?_))
     ((refine ggb0 e1 ?_))
     ((repeat refine Y01 ?_); (refine wta ?_); simp (disch := omega) only [retQ, resD, oneD, rsv, rs, rsL, Y02, List.map_map, bb, bt, zDs, zD, Y00, simprocAttr, Tryz.results91])
    have e1 : (Q.2 != 0) = false := by simpa using hq
    rw [if_pos hq] at hgt
    ((refine ggb0 (F := _∧_) ⟨c1, c0⟩ ?_))
    ((repeat refine Y01 ?_); (refine gdob1 (F := _∧_∧_∧_∧_∧_) ⟨hsub1, hl1, hl2, hWd, hrfa, hrfb⟩ hA ?_))
    ((refine ggb0 (F := _∧_) ⟨e1, hwr⟩ ?_))
    exact ⟨((h.p.tdiv 2, Q.1), tt + 1 + 1 + 1), ⟨(show vfrac (h.p.tdiv 2) 1 = true from Y1t (by omega)), hAv hq, hgt⟩, by (simp (disch := omega) only [StLe, tmLe, Y03, hpLe, bl, bb, bt, zDs, zD, Y00, simprocAttr])⟩
   rintro ⟨⟨K, X⟩, t2⟩ ⟨hK, hX, hgt⟩
   simp only at hK hX hgt
   rw [hgt, Y41 hK hX] at hd
   have hw := refOf K
   have hM := Y5h (K, 1) X hK hX
   have hMn := @Yam (K, 1) X
   have hMv := fun h => Y3d (a := (K, 1)) (b := X) hK hX h
   generalize mulR (K, 1) X = M at *
   by_cases h1 : M.2 = 0
   rotate_left 1
   ·have e1 : (M.2 != 0) = true := by simpa using h1
    rw [if_neg h1, ← fr00 (hMn h1)] at hd
    subst hd
    ((repeat refine Y01 ?_); (refine Y85 hw hM ?_))
    ((refine ggb0 e1 ?_))
    ((repeat refine Y01 ?_); (refine wta ?_); simp (disch := omega) only [retQ, resD, oneD, rsv, rs, rsL, Y02, List.map_map, bb, bt, zDs, zD, Y00, simprocAttr, Tryz.results91])
   have e1 : (M.2 != 0) = false := by simpa using h1
   rw [if_pos h1] at hd
   have hA := Yfb c M.1 hc (hMv h1)
   have hAn := @Yb5 c M.1
   have hAv := fun h => Y2l (a := c) (b := M.1) hc (hMv h1) h
   rw [Y8p hc (hMv h1)] at hd
   generalize addR c M.1 = Q at *
   by_cases h2 : Q.2 = 0
   rotate_left 1
   ·have e2 : (Q.2 != 0) = true := by simpa using h2
    rw [if_neg h2, ← fr00 (hAn h2)] at hd
    subst hd
    ((repeat refine Y01 ?_); (refine Y85 hw hM ?_))
    ((refine ggb1 (F := _∧_) ⟨e1, e2⟩ hA ?_))
    ((repeat refine Y01 ?_); (refine wta ?_); simp (disch := omega) only [retQ, resD, oneD, rsv, rs, rsL, Y02, List.map_map, bb, bt, zDs, zD, Y00, simprocAttr, Tryz.results91])
   have e2 : (Q.2 != 0) = false := by simpa using h2
   rw [if_pos h2] at hd
   ((repeat refine Y01 ?_); (refine Y85 hw hM ?_))
   ((refine ggb1 (F := _∧_) ⟨e1, e2⟩ hA ?_))
   refine ⟨(Q.1, i + 1, t2 + 1 + 1), ⟨hlt, hAv h2, hd⟩, by show r.hs.length - (i + 1) < r.hs.length - i; omega, ?_⟩
   (simp (disch := omega) only [StLe, tmLe, Y03, hpLe, bl, bb, bt, zDs, zD, Y00, simprocAttr])
  ·have hie : i = r.hs.length := by omega
   subst hie
   have hde : gripA r.hs.length (facK r.hs up) nm (r.hs.drop r.hs.length) r.hs.length c = (c, 0) := by rw [List.drop_eq_nil_of_le (Nat.le_refl _)]; rfl
   rw [hde] at hd
   subst hd
   ((refine wqb (F := _∧_) ⟨@Int.lt_irrefl, hdh⟩ ?_))
   ((refine wia ?_))
   ((refine wxa ?_))
   exact ⟨tt, rfl, by (simp (disch := omega) only [StLe, tmLe, Y03, hpLe, bl, bb, bt, zDs, zD, Y00, simprocAttr])⟩
 rintro tt h0
 obtain ⟨⟨r1, r2⟩, re⟩ := R
 simp only at h0
 subst h0
 ((refine gga0 ?_))
 ((repeat refine Y01 ?_); (refine wta ?_); simp (disch := omega) only [retQ, resD, oneD, rsv, rs, rsL, Y02, List.map_map, bb, bt, zDs, zD, Y00, simprocAttr, Tryz.results91])
end Go.Proofs.YtpcakodemleoiaaGreat.T

