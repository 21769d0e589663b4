import Derived.Test.YtpbpafmgkdihlaaGreatDoorQCPYALO
import Derived.Test.YtpbpafmgkdihlaaGreatDoorQALGFW
import Derived.Test.YtpbpafmgkdihlaaGreatDoorQTN
set_option linter.all false
namespace Go.Proofs.YtpbpafmgkdihlaaGreatDoor.T
open Go Go.RowKit Lin
theorem Y6v {a b : Int × Int} (ha : Y09 a.1 a.2 = true) (hb : Y09 b.1 b.2 = true) : (mulP a b).2 = 0 ∨ (mulP a b).2 = 5 := by
 unfold mulP
 rw [if_pos ⟨ha, hb⟩]
 exact Ydn ha hb
theorem Yiw {a b : Int × Int} (ha : Y09 a.1 a.2 = true) (hb : Y09 b.1 b.2 = true) : (addP a b).2 = 0 ∨ (addP a b).2 = 5 := by
 unfold addP
 rw [if_pos ⟨ha, hb⟩]
 exact Ykl ha hb
theorem Yxb {a b : Int × Int} (ha : Y09 a.1 a.2 = true) (hb : Y09 b.1 b.2 = true) (h0 : b.1 ≠ 0) : (divP a b).2 = 0 ∨ (divP a b).2 = 5 := by
 rw [Yec ha hb]
 rcases Yk9 ha hb with h | h
 ·exact absurd h.1 h0
 ·exact h.2
theorem Yih : ∀ (v l : List (Int × Int)) (s : Int × Int), (∀ x ∈ v, Y09 x.1 x.2 = true) → (∀ x ∈ l, Y09 x.1 x.2 = true) → Y09 s.1 s.2 = true → (dotV v l s).2 = 0 ∨ (dotV v l s).2 = 5
 | [], _, _, _, _, _ => .inl (by simp [dotV])
 | _ :: _, [], _, _, _, _ => .inl (by simp [dotV])
 | a :: v, b :: l, s, hv, hl, hs => by
  simp only [dotV]
  have ha := hv a (by simp)
  have hb := hl b (by simp)
  rcases Y6v ha hb with h | h
  ·rw [if_pos h]
   rcases Yiw hs (Yp6 h) with k | k
   ·rw [if_pos k]
    exact Yih v l _ (fun x hx => hv x (by simp [hx])) (fun x hx => hl x (by simp [hx])) (Yur k)
   ·rw [if_neg (by omega)]
    exact .inr k
  ·rw [if_neg (by omega)]
   exact .inr h
theorem Yjk {load grip : List (Int × Int)} : ∀ (L : List (List (Int × Int))) (w p : List (Int × Int)), (∀ v ∈ L, ((dotV v load (0, 1)).2 = 0 ∨ (dotV v load (0, 1)).2 = 5) ∧ ((dotV v grip (0, 1)).2 = 0 ∨ (dotV v grip (0, 1)).2 = 5)) → (Y2n load grip L w p).2 = 0 ∨ (Y2n load grip L w p).2 = 5
 | [], _, _, _ => .inl rfl
 | v :: L, w, p, h => by
  simp only [Y2n]
  obtain ⟨h1, h2⟩ := h v (by simp)
  rcases h1 with h1 | h1
  ·rw [if_pos h1]
   rcases h2 with h2 | h2
   ·rw [if_pos h2]
    exact Yjk L _ _ fun x hx => h x (by simp [hx])
   ·rw [if_neg (by omega)]
    exact .inr h2
  ·rw [if_neg (by omega)]
   exact .inr h1
theorem Yzj {p : Int} (h : -2 ≤ p ∧ p ≤ 2) : -1152921504606846976 ≤ p.tdiv 2 ∧ p.tdiv 2 ≤ 1152921504606846976 := by
 have h1 : p = -2 ∨ p = -1 ∨ p = 0 ∨ p = 1 ∨ p = 2 := by omega
 rcases h1 with e | e | e | e | e <;> rw [e] <;> decide
theorem Ytd {F : Nat → Int × Int} {n i : Nat} {h : Hd} (hF : ∀ j, j + 1 < n → Y09 (F j).1 (F j).2 = true) (h2 : 2 ≤ n) (hi : i < n) (hp : -2 ≤ h.p ∧ h.p ≤ 2) : (Y3a n F i h).2 = 0 ∨ (Y3a n F i h).2 = 5 := by
 unfold Y3a
 split
 ·exact Y6v (Y2v (by omega)) (hF 0 (by omega))
 ·split
  ·exact Y6v (Y2v (by omega)) (hF (n - 2) (by omega))
  ·rcases Yiw (hF (i - 1) (by omega)) (hF i (by omega)) with k | k
   ·rw [if_pos k]
    exact Y6v (Y2v (Yzj hp)) (Yur k)
   ·rw [if_neg (by omega)]
    exact .inr k
theorem Yx4 {F : Nat → Int × Int} {n i : Nat} {h : Hd} (h0 : (Y3a n F i h).2 = 0) : Y09 (Y3a n F i h).1.1 (Y3a n F i h).1.2 = true := by
 unfold Y3a at h0 ⊢
 split
 ·rename_i e
  rw [if_pos e] at h0
  exact Yp6 h0
 ·rename_i e
  rw [if_neg e] at h0
  split
  ·rename_i e2
   rw [if_pos e2] at h0
   exact Yp6 h0
  ·rename_i e2
   rw [if_neg e2] at h0
   by_cases k : (addP (F (i - 1)) (F i)).2 = 0
   ·rw [if_pos k] at h0 ⊢
    exact Yp6 h0
   ·rw [if_neg k] at h0
    exact absurd h0 k
theorem Ydw {F : Nat → Int × Int} {n : Nat} {nm : ByteArray} (hF : ∀ j, j + 1 < n → Y09 (F j).1 (F j).2 = true) (h2 : 2 ≤ n) : ∀ (hs : List Hd) (i : Nat) (c : Int × Int), (∀ h ∈ hs, -2 ≤ h.p ∧ h.p ≤ 2) → i + hs.length ≤ n → Y09 c.1 c.2 = true → (Y6g n F nm hs i c).2 = 0 ∨ (Y6g n F nm hs i c).2 = 5
 | [], _, _, _, _, _ => .inl rfl
 | h :: l, i, c, hp, hi, hc => by
  simp only [List.length_cons] at hi
  simp only [Y6g]
  have hp' : ∀ x ∈ l, -2 ≤ x.p ∧ x.p ≤ 2 := fun x hx => hp x (by simp [hx])
  split
  ·rcases Ytd (i := i) hF h2 (by omega) (hp h (by simp)) with k | k
   ·rw [if_pos k]
    rcases Yiw hc (Yx4 k) with a | a
    ·rw [if_pos a]
     exact Ydw hF h2 l (i + 1) _ hp' (by omega) (Yur a)
    ·rw [if_neg (by omega)]
     exact .inr a
   ·rw [if_neg (by omega)]
    exact .inr k
  ·exact Ydw hF h2 l (i + 1) c hp' (by omega) hc
def RelW (W G Q : Int) (w p : Int × Int) : Prop := ∃ X D : Int, D ≠ 0 ∧ Val w (X * W) D ∧ Val p (X * G) (D * Q)
theorem Ykf {W G Q : Int} (hQ : 0 < Q) (hG : 0 < G) {t : Int × Int} (ht : Val t (W * Q) G) : ∀ (p w : List (Int × Int)), (∀ (k : Nat) (x y : Int × Int), p[k]? = some x → w[k]? = some y → RelW W G Q y x) → (balR t p w true).2 = 5 ∨ balR t p w true = (true, 0)
 | [], w, _ => .inr (by cases w <;> rfl)
 | _ :: _, [], _ => .inr rfl
 | x :: p, y :: w, h => by
  obtain ⟨X, D, hD, hy, hx⟩ := h 0 x y rfl rfl
  simp only [balR]
  rcases Y6v hx.v ht.v with k | k
  ·rw [if_pos k]
   have hm := hx.mulP ht k
   have e : (mulP x t).1 = y := hm.eq hy (by ac_rfl)
   rw [decide_eq_true e, Bool.and_self]
   exact Ykf hQ hG ht p w fun k a b ha hb => h (k + 1) a b (by simpa using ha) (by simpa using hb)
  ·rw [if_neg (by omega)]
   exact .inl k
theorem Yui {W G Q : Int} (hW : 0 ≤ W) (hQ : 0 < Q) (hG : 0 ≤ G) {w p : List (Int × Int)} (hl : p.length = w.length) (h : ∀ (k : Nat) (x y : Int × Int), p[k]? = some x → w[k]? = some y → RelW W G Q y x) : (nzI p < 0 ∧ ((balP w p).2 = 21 ∨ (balP w p).2 = 22)) ∨ (¬ nzI p < 0 ∧ 0 < G ∧ ((balP w p).2 = 5 ∨ ((balP w p).2 = 0 ∧ Val (balP w p).1 (W * Q) G))) := by
 unfold balP
 by_cases hn : nzI p < 0
 ·rw [if_pos hn]
  refine .inl ⟨hn, ?_⟩
  simp only
  split
  ·exact .inl rfl
  ·exact .inr rfl
 rw [if_neg hn]
 obtain ⟨hk, h0, _⟩ := Yoy hn
 generalize (nzI p).toNat = k at *
 have hkw : k < w.length := by omega
 have ex : p.getD k (0, 0) = p[k] := by rw [List.getD_eq_getElem?_getD, List.getElem?_eq_getElem hk, Option.getD_some]
 have ey : w.getD k (0, 0) = w[k] := by rw [List.getD_eq_getElem?_getD, List.getElem?_eq_getElem hkw, Option.getD_some]
 rw [ex] at h0
 rw [ex, ey]
 obtain ⟨X, D, hD, hw, hp⟩ := h k p[k] w[k] (List.getElem?_eq_getElem hk) (List.getElem?_eq_getElem hkw)
 have hXG : X * G ≠ 0 := fun e => h0 (hp.num.2 e)
 have hG0 : G ≠ 0 := fun e => hXG (by rw [e, Int.mul_zero])
 have hGp : 0 < G := by omega
 refine .inr ⟨hn, hGp, ?_⟩
 rcases Yxb hw.v hp.v h0 with k1 | k1
 rotate_left 1
 ·rw [if_neg (by omega)]
  exact .inl k1
 rw [if_pos k1]
 have ht : Val (divP w[k] p[k]).1 (W * Q) G := (hw.divP hp k1).to hG0 (by ac_rfl)
 generalize (divP w[k] p[k]).1 = t at *
 rcases Ykf hQ hGp ht p w h with k2 | k2
 ·rw [if_neg (by omega)]
  exact .inl k2
 rw [k2, if_pos rfl, if_neg (by decide)]
 have hneg : ¬ t.1 < 0 := fun hlt => by
  have e := ht.e
  have d1 := (Y0c ht.v).1
  have a1 : t.1 * G < 0 := Int.mul_neg_of_neg_of_pos hlt hGp
  have a2 : 0 ≤ W * Q * t.2 := Int.mul_nonneg (Int.mul_nonneg hW (by omega)) (by omega)
  omega
 rw [if_neg hneg]
 exact .inr ⟨rfl, ht⟩
structure One (s : Sy) (b : Bk) : Prop where
 v : Y0g s = true
 bs : s.bs = [b]
 up : ∀ r ∈ s.rs, ∀ h ∈ r.hs, 0 ≤ h.p
theorem Y3n {s : Sy} (ok : OkS s) {r : Rp} (hr : r ∈ s.rs) : Y25 r = true := by
 obtain ⟨h2, h10, hh⟩ := ok.holds r hr
 refine Yfc ⟨h2, h10⟩ fun i x hx => ?_
 have hk := Y3f.1 hh i x hx
 unfold Y0q at hk
 rw [Bool.and_eq_true] at hk
 have hk := hk.1
 unfold Y32
 cases e : endH r.hs.length i
 ·rw [e, if_neg (by decide)] at hk
  rw [hk]
  rfl
 ·rw [e, if_pos rfl] at hk
  rw [hk]
  rw [Bool.and_eq_true, beq_iff_eq, beq_iff_eq] at hk
  rw [hk.1, hk.2]
  decide
def Ya9 (s : Sy) (b : Bk) : Prop := 0 < Y39 (fun _ => 1) (hauR s).hs.length b.nm (hauR s).hs 0
def Yc2 (s : Sy) : Prop := ∃ x : Int × Int, [x] ∈ (Y12 s).1 ∧ x.1 ≠ 0
theorem Y3o {s : Sy} (h : ¬ hix s < 0) : hauR s ∈ s.rs ∧ s.rs[(hix s).toNat]? = some (hauR s) := by
 obtain ⟨i, r, hi, hr, _⟩ := Y5v h
 have ehr : hauR s = r := by unfold hauR; rw [hi, Int.toNat_natCast, List.getD_eq_getElem?_getD, hr]; rfl
 rw [ehr, hi, Int.toNat_natCast]
 exact ⟨List.mem_of_getElem? hr, hr⟩
theorem Yq3 {s : Sy} {b : Bk} (o : One s b) (up : Bool) (hg : givL s = 0) {P : Nat → Int} {Q : Int} (hQ : 0 < Q) (hP : ∀ j, j + 1 < (hauR s).hs.length → Val (facK (hauR s).hs up j) (P j) Q) (hpos : ∀ j, j + 1 < (hauR s).hs.length → 0 < P j) : (Y0r s up).2.2 = 5 ∨ (¬ (Ya9 s b ∧ Yc2 s) ∧ ((Y0r s up).2.2 = 21 ∨ (Y0r s up).2.2 = 22)) ∨ (Ya9 s b ∧ Yc2 s ∧ 0 < Y39 P (hauR s).hs.length b.nm (hauR s).hs 0 ∧ (Y0r s up).2.2 = 0 ∧ Val (Y0r s up).1 (b.w * Q) (Y39 P (hauR s).hs.length b.nm (hauR s).hs 0) ∧ (Y0r s up).2.1 = facL (hauR s) up ((hauR s).hs.length - 1)) := by
 obtain ⟨hv, hx0, _⟩ := Y2d hg
 have ok := Y0h hv
 obtain ⟨hrm, _⟩ := Y3o hx0
 have hr := Y3n ok hrm
 obtain ⟨n2, n10⟩ := Y3e hr
 have hpl : ∀ h ∈ (hauR s).hs, -2 ≤ h.p ∧ h.p ≤ 2 := fun h hh => ok.pulls _ hrm h hh
 have hpl0 : ∀ h ∈ (hauR s).hs, 0 ≤ h.p ∧ h.p ≤ 2 := fun h hh => ⟨o.up _ hrm h hh, (hpl h hh).2⟩
 obtain ⟨g0, g1⟩ := Y9i (nm := b.nm) n2 hpos (hauR s).hs 0 (by omega) hpl0
 have gu := (Y9i (nm := b.nm) (P := fun _ => 1) n2 (fun _ _ => Int.one_pos) (hauR s).hs 0 (by omega) hpl0).1
 have hgp := Ypx (up := up) (nm := b.nm) hP n2 hpl
 have hge := Ydw (nm := b.nm) (fun j hj => (hP j hj).v) n2 (hauR s).hs 0 (0, 1) hpl (by omega) (by decide)
 have hge : (Y3j (hauR s) up b.nm).2 = 0 ∨ (Y3j (hauR s) up b.nm).2 = 5 := hge
 have hpb : Ya9 s b ↔ 0 < Y39 P (hauR s).hs.length b.nm (hauR s).hs 0 := by
  unfold Ya9
  omega
 generalize Y39 P (hauR s).hs.length b.nm (hauR s).hs 0 = G at *
 have ea : Y1u (hauR s) up = (facL (hauR s) up ((hauR s).hs.length - 1), 0) := by unfold Y1u; rw [if_pos hr]
 have hbw := ok.wts b (by rw [o.bs]; simp)
 have eg : Y1i (hauR s) up s.bs [] = if (Y3j (hauR s) up b.nm).2 = 0 then ([(Y3j (hauR s) up b.nm).1], 0) else ([], (Y3j (hauR s) up b.nm).2) := by rw [o.bs]; rfl
 have el : Y6w s = [(b.w, 1)] := by unfold Y6w; rw [o.bs]; rfl
 unfold Y0r
 rw [if_pos hg, ea]
 simp only [if_true]
 rcases hge with ge | ge
 rotate_left 1
 ·have h5 : ¬ (Y3j (hauR s) up b.nm).2 = 0 := by omega
  rw [if_neg h5] at eg
  rw [eg]
  simp only [h5, if_false]
  exact .inl ge
 have hgv := hgp ge
 rw [if_pos ge] at eg
 have ep : prsP s up = Y2n [(b.w, 1)] [(Y3j (hauR s) up b.nm).1] (Y12 s).1 [] [] := by unfold prsP; rw [eg, el]
 rw [eg]
 simp only [if_true]
 rw [ep]
 have hml : ∀ v ∈ (Y12 s).1, ∃ x X D, v = [x] ∧ D ≠ 0 ∧ Val x X D := fun v hvm => by
  obtain ⟨hl, X, D, hD, hX, _⟩ := Ywt hv hvm
  rw [o.bs] at hl
  obtain ⟨x, rfl⟩ := List.length_eq_one_iff.1 hl
  exact ⟨x, X 0, D, rfl, hD, hX 0 x rfl⟩
 have hbv : Val (b.w, 1) b.w 1 := Val.one (by omega)
 have hz : Val (0, 1) 0 1 := Val.one (by omega)
 have hd5 : ∀ v ∈ (Y12 s).1, ((dotV v [(b.w, 1)] (0, 1)).2 = 0 ∨ (dotV v [(b.w, 1)] (0, 1)).2 = 5) ∧ ((dotV v [(Y3j (hauR s) up b.nm).1] (0, 1)).2 = 0 ∨ (dotV v [(Y3j (hauR s) up b.nm).1] (0, 1)).2 = 5) := fun v hvm => by
  obtain ⟨x, X, D, rfl, hD, hx⟩ := hml v hvm
  have h1 : ∀ y ∈ [x], Y09 y.1 y.2 = true := fun y hy => by rw [List.mem_singleton.1 hy]; exact hx.v
  refine ⟨Yih _ _ _ h1 (fun y hy => ?_) hz.v, Yih _ _ _ h1 (fun y hy => ?_) hz.v⟩
  ·rw [List.mem_singleton.1 hy]; exact hbv.v
  ·rw [List.mem_singleton.1 hy]; exact hgv.v
 rcases Yjk (Y12 s).1 [] [] hd5 with pe | pe
 rotate_left 1
 ·rw [if_neg (by omega)]
  exact .inl pe
 rw [if_pos pe]
 obtain ⟨e, hall⟩ := Yfp (Y12 s).1 [] [] pe
 rw [e]
 simp only [List.nil_append]
 have hrel : ∀ v ∈ (Y12 s).1, ∀ x X D, v = [x] → D ≠ 0 → Val x X D → Val (dotV v [(b.w, 1)] (0, 1)).1 (X * b.w) D ∧ Val (dotV v [(Y3j (hauR s) up b.nm).1] (0, 1)).1 (X * G) (D * Q) := fun v hvm x X D hv hD hx => by
  obtain ⟨d1, d2⟩ := hall v hvm
  subst hv
  have s1 := Yea hD (show (1 : Int) ≠ 0 by decide) [x] [(b.w, 1)] (fun _ => X) (fun _ => b.w) (0, 1) 0 rfl (fun k f hk => by
   cases k with
   | zero => simp at hk; rw [← hk]; exact hx
   | succ k => simp at hk) (fun k f hk => by
   cases k with
   | zero => simp at hk; rw [← hk]; exact hbv
   | succ k => simp at hk) ⟨hz.v, by simpa using hD, by simp⟩ d1
  have s2 := Yea hD (Int.ne_of_gt hQ) [x] [(Y3j (hauR s) up b.nm).1] (fun _ => X) (fun _ => G) (0, 1) 0 rfl (fun k f hk => by
   cases k with
   | zero => simp at hk; rw [← hk]; exact hx
   | succ k => simp at hk) (fun k f hk => by
   cases k with
   | zero => simp at hk; rw [← hk]; exact hgv
   | succ k => simp at hk) ⟨hz.v, Int.mul_ne_zero hD (Int.ne_of_gt hQ), by simp⟩ d2
  simp only [List.length_cons, List.length_nil, sumN, Int.zero_add, Int.add_zero, Int.mul_one] at s1 s2
  exact ⟨s1, s2⟩
 have hb := Yui (W := b.w) (G := G) (Q := Q) hbw.1 hQ g0 (w := (Y12 s).1.map fun x => (dotV x [(b.w, 1)] (0, 1)).1) (p := (Y12 s).1.map fun x => (dotV x [(Y3j (hauR s) up b.nm).1] (0, 1)).1) (by simp) fun k x y hx hy => by
  rw [List.getElem?_map] at hx hy
  cases hm : (Y12 s).1[k]? with
  | none => rw [hm] at hx; simp at hx
  | some v =>
   rw [hm] at hx hy
   simp only [Option.map_some, Option.some.injEq] at hx hy
   have hvm := List.mem_of_getElem? hm
   obtain ⟨z, X, D, hz, hD, hX⟩ := hml v hvm
   obtain ⟨a1, a2⟩ := hrel v hvm z X D hz hD hX
   rw [← hx, ← hy]
   exact ⟨X, D, hD, a1, a2⟩
 have hnz : ¬ nzI ((Y12 s).1.map fun x => (dotV x [(Y3j (hauR s) up b.nm).1] (0, 1)).1) < 0 ↔ Yc2 s ∧ G ≠ 0 := by
  rw [Ydl, Bool.not_eq_false, List.any_eq_true]
  constructor
  ·rintro ⟨x, hx, h0⟩
   obtain ⟨v, hvm, rfl⟩ := List.mem_map.1 hx
   obtain ⟨z, X, D, hz, hD, hX⟩ := hml v hvm
   obtain ⟨_, a2⟩ := hrel v hvm z X D hz hD hX
   have h0 : (dotV v [(Y3j (hauR s) up b.nm).1] (0, 1)).1.1 ≠ 0 := by simpa using h0
   have hXG : X * G ≠ 0 := fun e => h0 (a2.num.2 e)
   refine ⟨⟨z, by rw [← hz]; exact hvm, fun e => hXG ?_⟩, fun e => hXG (by rw [e, Int.mul_zero])⟩
   rw [hX.num.1 e, Int.zero_mul]
  ·rintro ⟨⟨z, hzm, z0⟩, hG⟩
   refine ⟨_, List.mem_map.2 ⟨_, hzm, rfl⟩, ?_⟩
   obtain ⟨z', X, D, hz, hD, hX⟩ := hml _ hzm
   obtain ⟨_, a2⟩ := hrel _ hzm z' X D hz hD hX
   simp only [List.cons.injEq, and_true] at hz
   subst hz
   have : X * G ≠ 0 := Int.mul_ne_zero (fun e => z0 (hX.num.2 e)) hG
   have h0 := fun e => this (a2.num.1 e)
   simpa using h0
 rcases hb with ⟨b1, b2⟩ | ⟨b1, b2, b3⟩
 ·refine .inr (.inl ⟨fun h => ?_, b2⟩)
  exact absurd b1 (hnz.2 ⟨h.2, by have := hpb.1 h.1; omega⟩)
 ·rcases b3 with b3 | ⟨b3, b4⟩
  ·exact .inl b3
  ·exact .inr (.inr ⟨hpb.2 b2, (hnz.1 b1).1, b2, b3, b4, by first | rfl | trivial⟩)
theorem Ymg (l : List Hd) : (hdC l).all Y26 = true := by
 induction l with
 | nil => rfl
 | cons x r ih => simp only [hdC, List.flatMap_cons, List.all_append, Bool.and_eq_true] at ih ⊢; exact ⟨rfl, ih⟩
set_option maxHeartbeats 1000000 in
theorem Yil (x : Hd) (r : List Hd) (hl : r.length ≤ 1000) : PFresh Tryz.prog 49 [hds (x :: r)] 35 4 (r.length + 1) (hdC (x :: r)) := by
 refine PFresh.intro (Y9d _) fun t => ACall.enter tab_ok Tryz.func49 rfl rfl Tryz.ntmps49 (by simp) ?_
 simp only [Y04]
 have f2 : hdC (x :: r) = str x.b :: int x.p :: int x.n :: int x.d :: hdC r := rfl
 have hcl := Ymg r
 have hld := Y4v (x :: r)
 have hll := Y3i (x :: r)
 have f1 : hds (x :: r) = .sl 4 (str x.b :: int x.p :: int x.n :: int x.d :: hdC r) false := rfl
 rw [f2] at hld hll
 rw [f1, f2]
 simp only [List.length_cons] at hll hld
 refine wqa ?_
 refine wqa ?_
 refine wia ?_
 refine wsa ?_
 ((repeat refine Y00 ?_); (refine Y03 tab_ok fun KR hKR => ?_); (repeat ((first | refine Y19 rfl fun KK hKK => ?_ | refine Y1a rfl rfl fun KK hKK => ?_ | refine Y08 rfl fun KK hKK => ?_); simp (disch := omega) only [bb, bt, zDs, zD, Y01, simprocAttr, Y1y, hcl, hld]; refine hKK _ ?_; clear hKK KK)); (refine Y0o ?_); (refine hKR _ ?_); (try clear hKR KR); (refine qq1 ?_))
 refine exq Tryz.results49 ?_
 exact .inr ⟨0, t + 1, rfl, rfl⟩
theorem Ymc (l : List Hd) (h0 : 1 ≤ l.length) (hl : l.length ≤ 1000) : PFresh Tryz.prog 49 [hds l] 35 4 l.length (hdC l) := by
 cases l with
 | nil => simp at h0
 | cons x r => exact Yil x r (by simp at hl; omega)
theorem Ymf (l : List Rp) : (rpC l).all Y26 = true := by
 induction l with
 | nil => rfl
 | cons x r ih => simp only [rpC, List.flatMap_cons, List.all_append, Bool.and_eq_true] at ih ⊢; exact ⟨rfl, ih⟩
set_option maxHeartbeats 1000000 in
theorem Yik (x : Rp) (r : List Rp) (hl : r.length ≤ 1000) : PFresh Tryz.prog 48 [rps (x :: r)] 30 3 (r.length + 1) (rpC (x :: r)) := by
 refine PFresh.intro (Y7h _) fun t => ACall.enter tab_ok Tryz.func48 rfl rfl Tryz.ntmps48 (by simp) ?_
 simp only [Y04]
 have f2 : rpC (x :: r) = str x.nm :: hds x.hs :: bool x.hl :: rpC r := rfl
 have hcl := Ymf r
 have hld := Y1q (x :: r)
 have hll := Y28 (x :: r)
 have f1 : rps (x :: r) = .sl 3 (str x.nm :: hds x.hs :: bool x.hl :: rpC r) false := rfl
 rw [f2] at hld hll
 rw [f1, f2]
 simp only [List.length_cons] at hll hld
 refine wqa ?_
 refine wqa ?_
 refine wia ?_
 refine wsa ?_
 ((repeat refine Y00 ?_); (refine Y03 tab_ok fun KR hKR => ?_); (repeat ((first | refine Y19 rfl fun KK hKK => ?_ | refine Y1a rfl rfl fun KK hKK => ?_ | refine Y08 rfl fun KK hKK => ?_); simp (disch := omega) only [bb, bt, zDs, zD, Y01, simprocAttr, Y1y, hcl, hld]; refine hKK _ ?_; clear hKK KK)); (refine Y0o ?_); (refine hKR _ ?_); (try clear hKR KR); (refine qq1 ?_))
 refine exq Tryz.results48 ?_
 exact .inr ⟨0, t + 1, rfl, rfl⟩
theorem Ymb (l : List Rp) (h0 : 1 ≤ l.length) (hl : l.length ≤ 1000) : PFresh Tryz.prog 48 [rps l] 30 3 l.length (rpC l) := by
 cases l with
 | nil => simp at h0
 | cons x r => exact Yik x r (by simp at hl; omega)
theorem Ymh (l : List Bk) : (bkC l).all Y26 = true := by
 induction l with
 | nil => rfl
 | cons x r ih => simp only [bkC, List.flatMap_cons, List.all_append, Bool.and_eq_true] at ih ⊢; exact ⟨rfl, ih⟩
set_option maxHeartbeats 1000000 in
theorem Yim (x : Bk) (r : List Bk) (hl : r.length ≤ 1000) : PFresh Tryz.prog 47 [bks (x :: r)] 48 2 (r.length + 1) (bkC (x :: r)) := by
 refine PFresh.intro (Y55 _) fun t => ACall.enter tab_ok Tryz.func47 rfl rfl Tryz.ntmps47 (by simp) ?_
 simp only [Y04]
 have f2 : bkC (x :: r) = str x.nm :: int x.w :: bkC r := rfl
 have hcl := Ymh r
 have hld := Y2p (x :: r)
 have hll := Y1z (x :: r)
 have f1 : bks (x :: r) = .sl 2 (str x.nm :: int x.w :: bkC r) false := rfl
 rw [f2] at hld hll
 rw [f1, f2]
 simp only [List.length_cons] at hll hld
 refine wqa ?_
 refine wqa ?_
 refine wia ?_
 refine wsa ?_
 ((repeat refine Y00 ?_); (refine Y03 tab_ok fun KR hKR => ?_); (repeat ((first | refine Y19 rfl fun KK hKK => ?_ | refine Y1a rfl rfl fun KK hKK => ?_ | refine Y08 rfl fun KK hKK => ?_); simp (disch := omega) only [bb, bt, zDs, zD, Y01, simprocAttr, Y1y, hcl, hld]; refine hKK _ ?_; clear hKK KK)); (refine Y0o ?_); (refine hKR _ ?_); (try clear hKR KR); (refine qq1 ?_))
 refine exq Tryz.results47 ?_
 exact .inr ⟨0, t + 1, rfl, rfl⟩
theorem Ymd (l : List Bk) (h0 : 1 ≤ l.length) (hl : l.length ≤ 1000) : PFresh Tryz.prog 47 [bks l] 48 2 l.length (bkC l) := by
 cases l with
 | nil => simp at h0
 | cons x r => exact Yim x r (by simp at hl; omega)
def effP (s : Sy) : (Int × Int) × Int := if (Y07 s true).2 = 0 then (if (Y07 (Y0j s) true).2 = 0 then divP (Y07 (Y0j s) true).1 (Y07 s true).1 else ((0, 0), (Y07 (Y0j s) true).2)) else ((0, 0), (Y07 s true).2)
def clR (l : List Rp) (k : Nat) : List Rp := (l.take k).map Y13 ++ l.drop k
def clH (l : List Hd) (k : Nat) : List Hd := (l.take k).map Y2q ++ l.drop k
theorem Yxm (l : List Rp) (k : Nat) (h : k ≤ l.length) : (clR l k).length = l.length := by simp [clR]; omega
theorem Yei (l : List Hd) (k : Nat) (h : k ≤ l.length) : (clH l k).length = l.length := by simp [clH]; omega
theorem Yua (l : List Rp) : clR l 0 = l := by simp [clR]
theorem Yeh (l : List Hd) : clH l 0 = l := by simp [clH]
theorem Yxn (l : List Rp) : clR l l.length = l.map Y13 := by simp [clR]
theorem Yr2 (l : List Hd) : clH l l.length = l.map Y2q := by simp [clH]
theorem Yvc {l : List Hd} {i : Nat} {h : Hd} (hx : l[i]? = some h) (a b : Int) : (hdC l).take (i * 4 + 2) ++ int a :: int b :: (hdC l).drop (i * 4 + 4) = hdC (l.set i ⟨h.b, h.p, a, b⟩) := by
 have h1 := Yx2 l i ⟨h.b, h.p, a, b⟩ (List.getElem?_eq_some_iff.1 hx).1
 have h2 := Y4m l i h hx
 have h3 : ((hdC l).drop (i * 4)).take 2 = [str h.b, int h.p] := by
  have := congrArg (List.take 2) h2
  rw [List.take_take] at this
  simpa using this
 rw [← h1, List.take_add, h3]
 simp
theorem Yz3 {l : List Rp} {i : Nat} {r : Rp} (h : l[i]? = some r) (hs : List Hd) : (rpC l).set (i * 3 + 1) (hds hs) = rpC (l.set i ⟨r.nm, hs, r.hl⟩) := by
 have h1 := Ywf l i ⟨r.nm, hs, r.hl⟩ (List.getElem?_eq_some_iff.1 h).1
 have hl := Y28 l
 have hi := (List.getElem?_eq_some_iff.1 h).1
 have h2 := Y2z l i r h
 rw [← h1]
 have e : rpC l = (rpC l).take (i * 3) ++ ([str r.nm, hds r.hs, bool r.hl] ++ (rpC l).drop (i * 3 + 3)) := by
  have : [str r.nm, hds r.hs, bool r.hl] = ((rpC l).drop (i * 3)).take 3 := h2.symm
  rw [this, ← List.drop_drop, List.take_append_drop, List.take_append_drop]
 have hlt : ((rpC l).take (i * 3)).length = i * 3 := by simp; omega
 conv => lhs; rw [e]
 rw [List.set_append_right _ _ (by omega), hlt, show i * 3 + 1 - i * 3 = 1 by omega]
 simp
theorem Y102 {h : List Rp} {x : Rp} {k : Nat} (hx : h[k]? = some x) : (clR h k)[k]? = some x := by
 have hk := (List.getElem?_eq_some_iff.1 hx).1
 unfold clR
 rw [List.getElem?_append_right (by simp; omega)]
 simp only [List.length_map, List.length_take]
 rw [List.getElem?_drop, Nat.min_eq_left (by omega), Nat.sub_self, Nat.add_zero, hx]
theorem Yxl {h : List Rp} {x : Rp} {k : Nat} (hx : h[k]? = some x) : (clR h k).set k (Y13 x) = clR h (k + 1) := by
 have hk := (List.getElem?_eq_some_iff.1 hx).1
 have hl : ((h.take k).map Y13).length = k := by simp; omega
 unfold clR
 rw [List.set_append_right _ _ (by omega), hl, Nat.sub_self, List.take_add_one, hx, Option.toList_some, List.map_append, List.append_assoc, List.drop_eq_getElem_cons hk]
 rfl
theorem Yvi {h : List Hd} {x : Hd} {k : Nat} (hx : h[k]? = some x) : (clH h k)[k]? = some x := by
 have hk := (List.getElem?_eq_some_iff.1 hx).1
 unfold clH
 rw [List.getElem?_append_right (by simp; omega)]
 simp only [List.length_map, List.length_take]
 rw [List.getElem?_drop, Nat.min_eq_left (by omega), Nat.sub_self, Nat.add_zero, hx]
theorem Yr1 {h : List Hd} {x : Hd} {k : Nat} (hx : h[k]? = some x) : (clH h k).set k (Y2q x) = clH h (k + 1) := by
 have hk := (List.getElem?_eq_some_iff.1 hx).1
 have hl : ((h.take k).map Y2q).length = k := by simp; omega
 unfold clH
 rw [List.set_append_right _ _ (by omega), hl, Nat.sub_self, List.take_add_one, hx, Option.toList_some, List.map_append, List.append_assoc, List.drop_eq_getElem_cons hk]
 rfl
theorem Yib {s : Sy} {up : Bool} (h : (Y07 s up).2 = 0) : Y0g s = true := by
 cases hv : Y0g s
 ·have hg : givL s = 1 := by unfold givL; rw [if_neg (by simp [hv])]
  have hf : (Y0r s up).2.2 = 1 := by unfold Y0r; rw [if_neg (by rw [hg]; decide), hg]
  unfold Y07 at h
  rw [if_neg (by rw [hf]; decide), hf] at h
  cases h
 ·rfl
theorem Yco {s : Sy} (hf : Fits s) : Fits (Y0j s) := ⟨hf.nb, by simpa [Y0j] using hf.nr, hf.sb, fun r hr => by
 obtain ⟨q, hq, rfl⟩ := List.mem_map.1 hr
 exact ⟨(hf.sr q hq).1, by simpa [Y13] using (hf.sr q hq).2⟩⟩
set_option maxRecDepth 100000 in
set_option maxHeartbeats 16000000 in
theorem Y11o (s : Sy) (hf : Fits s) : PRet Tryz.prog 19 [syD s] (fe (effP s)) := by
 refine pri 1 Tryz.func19 Tryz.ntmps19 fun t => ?_
 simp only [Y04]
 have hR := Ya8 s hf
 have hC := Ya8 (Y0j s) (Yco hf)
 unfold effP
 by_cases h0 : (Y07 s true).2 = 0
 rotate_left 1
 ·have e1 : ((Y07 s true).2 != 0) = true := by simpa using h0
  rw [if_neg h0]
  generalize Y07 s true = X at *
  refine ggb1 e1 hR ?_
  exact exx Tryz.results19
 rw [if_pos h0]
 have e1 : ((Y07 s true).2 != 0) = false := by simpa using h0
 have hv := Yib h0
 have ok := Y0h hv
 have hb6 := ok.b6
 have hr6 := ok.r6
 have hdr := Y1q s.rs
 have hlr := Y28 s.rs
 have hlb := Y1z s.bs
 generalize Y07 s true = X at *
 refine ggb1 e1 hR ?_
 ((repeat refine Y00 ?_); (refine Y0d tab_ok Y06 3 fun KR hKR => ?_); simp only [List.replicate_succ, List.replicate_zero, List.append_nil, List.nil_append, List.cons_append, List.length_cons, List.length_nil, Nat.reduceAdd])
 refine wda ?_
 ((first | refine Y14 fun KK hKK => ?_ | refine Y15 rfl fun KK hKK => ?_); simp (disch := omega) only [bb, bt, zDs, zD, Y01, simprocAttr, Y2a, Y0t, Y3y, Y0m, ufa, uf]; refine PGive.fresh (3) (Ymd s.bs ok.b1 (by omega)) ?_ ?_; (focus (first | omega | (simp (disch := omega) only [List.length_cons, List.length_nil, List.length_append]; done) | (simp (disch := omega) only [List.length_cons, List.length_nil, List.length_append]; omega))); simp (disch := omega) only [bb, bt, zDs, zD, Y01, simprocAttr, Y1d]; refine hKK _ _ _ ?_; clear hKK KK)
 refine wda ?_
 ((first | refine Y14 fun KK hKK => ?_ | refine Y15 rfl fun KK hKK => ?_); simp (disch := omega) only [bb, bt, zDs, zD, Y01, simprocAttr, Y2a, Y0t, Y3y, Y0m, ufa, uf]; refine PGive.fresh (4) (Ymb s.rs ok.r1 (by omega)) ?_ ?_; (focus (first | omega | (simp (disch := omega) only [List.length_cons, List.length_nil, List.length_append]; done) | (simp (disch := omega) only [List.length_cons, List.length_nil, List.length_append]; omega))); simp (disch := omega) only [bb, bt, zDs, zD, Y01, simprocAttr, Y1d]; refine hKK _ _ _ ?_; clear hKK KK)
 refine wda ?_
 ((refine Y0k ?_); simp only [List.reverse_cons, List.reverse_nil, List.nil_append, List.cons_append]; (refine hKR _ _ (by first | rfl | kernel_rfl) ?_); (try clear hKR KR); (refine qq1 ?_))
 have hfb : List.take (s.bs.length * 2) (bkC s.bs) = bkC s.bs := List.take_of_length_le (by omega)
 ((refine AW.freeze (3) (by first | rfl | (simp only [setH, List.getElem?_cons_zero, List.getElem?_cons_succ, Y5h, Y5g, hfb, hlb, Nat.le_refl]; done)) ?_); simp (disch := omega) only [fzT, fz, fzL, Y0p, Y0y, fzH, fzB, eq_self, bb, bt, zDs, zD, Y01, simprocAttr, Y5h, Y5g, hfb, hlb, Nat.le_refl])
 refine gga0 ?_
 have hw1 := Y4b 1
 have hz := Yua s.rs
 repeat refine Y00 ?_
 refine Y0i (fun x : Nat => ⟨[(2, .ptr 1 (t + 1 + 1) 0), (4, .ptr 2 (t + 1 + 1 + 1) 0), (6, .ptr 5 (t + 1 + 1 + 1 + 1) 0)], [none, some ⟨33, t + 1 + 1, [int 0, int 0]⟩, some ⟨33, t + 1 + 1 + 1, [int X.1.1, int X.1.2]⟩, none, some ⟨30, t + 1 + 1 + 1 + 1, rpC (clR s.rs s.rs.length)⟩, some ⟨25, t + 1 + 1 + 1 + 1, [bks s.bs, .own 3 4 (t + 1 + 1 + 1 + 1) 0 s.rs.length]⟩], x⟩) (fun _ => True) ?_ ?_
 ·refine Y02 ?_
  refine Y05 (fun x : Nat × Nat => ⟨[(2, .ptr 1 (t + 1 + 1) 0), (4, .ptr 2 (t + 1 + 1 + 1) 0), (6, .ptr 5 (t + 1 + 1 + 1 + 1) 0), (29, .own 3 4 (t + 1 + 1 + 1 + 1) 0 s.rs.length), (30, int s.rs.length), (31, int x.1)], [none, some ⟨33, t + 1 + 1, [int 0, int 0]⟩, some ⟨33, t + 1 + 1 + 1, [int X.1.1, int X.1.2]⟩, none, some ⟨30, t + 1 + 1 + 1 + 1, rpC (clR s.rs x.1)⟩, some ⟨25, t + 1 + 1 + 1 + 1, [bks s.bs, .own 3 4 (t + 1 + 1 + 1 + 1) 0 s.rs.length]⟩], x.2⟩) (fun x => s.rs.length - x.1) (fun x => x.1 ≤ s.rs.length) (0, t + 1 + 1 + 1 + 1) (Nat.zero_le _) (by (simp (disch := omega) only [StLe, tmLe, Y0b, hpLe, bl, bb, bt, zDs, zD, Y01, simprocAttr, hz])) ?_
  rintro ⟨k, tt⟩ hk
  simp only at hk
  by_cases hlt : k < s.rs.length
  ·obtain ⟨r, hr⟩ : ∃ y, s.rs[k]? = some y := ⟨_, List.getElem?_eq_getElem hlt⟩
   have hat := Y102 hr
   have hra := Y2z _ k r hat
   have hlk := Y28 (clR s.rs k)
   rw [Yxm _ _ hk] at hlk
   have hhold := ok.holds r (List.mem_of_getElem? hr)
   have hset := Yz3 hat (r.hs.map Y2q)
   have hnx : rpC ((clR s.rs k).set k ⟨r.nm, r.hs.map Y2q, r.hl⟩) = rpC (clR s.rs (k + 1)) := by rw [← Yxl hr]; rfl
   rw [hnx] at hset
   have hz2 := Yeh r.hs
   have hdh := Y4v r.hs
   ((refine ggb0 (F := _∧_) ⟨@Int.ofNat_lt, hlt⟩ ?_))
   repeat refine Y00 ?_
   refine Y02 ?_
   ((refine ggb0 (F := _∧_∧_) ⟨hlt, hlk, hra⟩ ?_))
   intro KR hKR
   ((first | refine Y0f fun KK hKK => ?_ | refine Y08 rfl fun KK hKK => ?_); simp (disch := omega) only [bb, bt, zDs, zD, Y01, simprocAttr, goC, Y0e, Y0m, and_self]; refine ACall.of_fresh (Ymc r.hs (by omega) (by omega)) (by first | (simp only [List.map_cons, List.map_nil, List.append_nil, List.nil_append, List.cons_append, ufa, uf]; done) | rfl) ?_; simp (disch := omega) only [bb, bt, zDs, zD, Y01, simprocAttr, Y0n]; refine hKK _ ?_; clear hKK KK)
   ((refine wra ?_)); ((refine wea ?_); (try clear hKR KR))
   refine gga0 ?_
   repeat refine Y00 ?_
   refine Y0i (fun x : Nat => ⟨[(2, .ptr 1 (t + 1 + 1) 0), (4, .ptr 2 (t + 1 + 1 + 1) 0), (6, .ptr 5 (t + 1 + 1 + 1 + 1) 0), (29, .own 3 4 (t + 1 + 1 + 1 + 1) 0 s.rs.length), (30, int s.rs.length), (31, int k), (7, int k), (9, .own 4 7 (tt + 1 + 1) 0 r.hs.length)], [none, some ⟨33, t + 1 + 1, [int 0, int 0]⟩, some ⟨33, t + 1 + 1 + 1, [int X.1.1, int X.1.2]⟩, none, some ⟨30, t + 1 + 1 + 1 + 1, rpC (clR s.rs k)⟩, some ⟨25, t + 1 + 1 + 1 + 1, [bks s.bs, .own 3 4 (t + 1 + 1 + 1 + 1) 0 s.rs.length]⟩, none, some ⟨35, tt + 1 + 1, hdC (clH r.hs r.hs.length)⟩], x⟩) (fun _ => True) ?_ ?_
   ·refine Y02 ?_
    refine Y05 (fun x : Nat × Nat => ⟨[(2, .ptr 1 (t + 1 + 1) 0), (4, .ptr 2 (t + 1 + 1 + 1) 0), (6, .ptr 5 (t + 1 + 1 + 1 + 1) 0), (29, .own 3 4 (t + 1 + 1 + 1 + 1) 0 s.rs.length), (30, int s.rs.length), (31, int k), (7, int k), (9, .own 4 7 (tt + 1 + 1) 0 r.hs.length), (40, int r.hs.length), (41, int x.1)], [none, some ⟨33, t + 1 + 1, [int 0, int 0]⟩, some ⟨33, t + 1 + 1 + 1, [int X.1.1, int X.1.2]⟩, none, some ⟨30, t + 1 + 1 + 1 + 1, rpC (clR s.rs k)⟩, some ⟨25, t + 1 + 1 + 1 + 1, [bks s.bs, .own 3 4 (t + 1 + 1 + 1 + 1) 0 s.rs.length]⟩, none, some ⟨35, tt + 1 + 1, hdC (clH r.hs x.1)⟩], x.2⟩) (fun x => r.hs.length - x.1) (fun x => x.1 ≤ r.hs.length) (0, tt + 1 + 1) (Nat.zero_le _) (by (simp (disch := omega) only [StLe, tmLe, Y0b, hpLe, bl, bb, bt, zDs, zD, Y01, simprocAttr, hz2])) ?_
    rintro ⟨j, t2⟩ hj
    simp only at hj
    by_cases hlj : j < r.hs.length
    ·obtain ⟨h, hh⟩ : ∃ y, r.hs[j]? = some y := ⟨_, List.getElem?_eq_getElem hlj⟩
     have hl4 := Y3i (clH r.hs j)
     rw [Yei _ _ hj] at hl4
     have hs4 := Yvc (Yvi hh) 1 1
     have hn4 : hdC ((clH r.hs j).set j ⟨h.b, h.p, 1, 1⟩) = hdC (clH r.hs (j + 1)) := by rw [← Yr1 hh]; rfl
     rw [hn4] at hs4
     have hle4 : j * 4 + 4 ≤ r.hs.length * 4 := by omega
     ((refine ggb0 (F := _∧_) ⟨@Int.ofNat_lt, hlj⟩ ?_))
     repeat refine Y00 ?_
     refine Y02 ?_
     ((refine ggb1 (F := _∧_∧_∧_) ⟨hlj, hl4, hs4, hle4⟩ hw1 ?_))
     refine ⟨(j + 1, t2), hlj, by show r.hs.length - (j + 1) < r.hs.length - j; omega, ?_⟩
     exact ele
    ·have hje : j = r.hs.length := by omega
     subst hje
     refine wqb @Int.lt_irrefl ?_
     refine wia ?_
     refine wxa ?_
     exact ⟨t2, trivial, ele⟩
   rintro t2 -
   have hfh : List.take (r.hs.length * 4) (hdC (clH r.hs r.hs.length)) = hdC (clH r.hs r.hs.length) := List.take_of_length_le (by rw [Y3i, Yei _ _ (Nat.le_refl _)]; exact Nat.le_refl _)
   have hlh : (hdC (clH r.hs r.hs.length)).length = r.hs.length * 4 := by rw [Y3i, Yei _ _ (Nat.le_refl _)]
   rw [Yr2] at hfh hlh ⊢
   ((refine AW.freeze (7) (by first | rfl | (simp only [setH, List.getElem?_cons_zero, List.getElem?_cons_succ, Y5h, Y5g, Yly, hfh, hlh, Nat.le_refl]; done)) ?_); simp (disch := omega) only [fzT, fz, fzL, Y0p, Y0y, fzH, fzB, eq_self, bb, bt, zDs, zD, Y01, simprocAttr, Y5h, Y5g, Yly, hfh, hlh, Nat.le_refl])
   ((refine ggb0 (F := _∧_∧_) ⟨hlt, hlk, hset⟩ ?_))
   refine ⟨(k + 1, t2), hlt, by show s.rs.length - (k + 1) < s.rs.length - k; omega, ?_⟩
   exact ele
  ·have hke : k = s.rs.length := by omega
   subst hke
   refine wqb @Int.lt_irrefl ?_
   refine wia ?_
   refine wxa ?_
   exact ⟨tt, trivial, ele⟩
 rintro tt -
 rw [Yxn]
 have hlc := Y28 (s.rs.map Y13)
 rw [List.length_map] at hlc
 have hfc : List.take (s.rs.length * 3) (rpC (s.rs.map Y13)) = rpC (s.rs.map Y13) := List.take_of_length_le (by omega)
 ((refine AW.freeze (4) (by first | rfl | (simp only [setH, List.getElem?_cons_zero, List.getElem?_cons_succ, Y5h, Y5g, hfc, hlc, Nat.le_refl]; done)) ?_); simp (disch := omega) only [fzT, fz, fzL, Y0p, Y0y, fzH, fzB, eq_self, bb, bt, zDs, zD, Y01, simprocAttr, Y5h, Y5g, hfc, hlc, Nat.le_refl])
 generalize Y07 (Y0j s) true = Y at *
 have hC : PRet Tryz.prog 11 [.agg [bks s.bs, rps (s.rs.map Y13)]] (fe Y) := hC
 have hD := rDiv Y.1 X.1
 by_cases hy : Y.2 = 0
 rotate_left 1
 ·have e2 : (Y.2 != 0) = true := by simpa using hy
  rw [if_neg hy]
  refine ggb1 e2 hC ?_
  exact exx Tryz.results19
 have e2 : (Y.2 != 0) = false := by simpa using hy
 rw [if_pos hy]
 generalize divP Y.1 X.1 = Z at *
 refine ggb2 e2 hC hD ?_
 exact exx Tryz.results19
theorem Y51 {s : Sy} {b : Bk} (o : One s b) (up : Bool) (hg : givL s = 0) {P : Nat → Int} {Q : Int} (hQ : 0 < Q) (hP : ∀ j, j + 1 < (hauR s).hs.length → Val (facK (hauR s).hs up j) (P j) Q) (hpos : ∀ j, j + 1 < (hauR s).hs.length → 0 < P j) : (Y07 s up).2 = 5 ∨ (¬ (Ya9 s b ∧ Yc2 s) ∧ ((Y07 s up).2 = 21 ∨ (Y07 s up).2 = 22)) ∨ (Ya9 s b ∧ Yc2 s ∧ 0 < Y39 P (hauR s).hs.length b.nm (hauR s).hs 0 ∧ (Y07 s up).2 = 0 ∧ Val (Y07 s up).1 (b.w * P ((hauR s).hs.length - 2)) (Y39 P (hauR s).hs.length b.nm (hauR s).hs 0)) := by
 obtain ⟨hv, hx0, _⟩ := Y2d hg
 have hr := Y3n (Y0h hv) (Y3o hx0).1
 obtain ⟨n2, n10⟩ := Y3e hr
 rcases Yq3 o up hg hQ hP hpos with h | ⟨h0, h⟩ | ⟨a1, a2, a3, a4, a5, a6⟩
 ·left
  unfold Y07
  rw [if_neg (by omega)]
  exact h
 ·right; left
  unfold Y07
  rw [if_neg (by omega)]
  exact ⟨h0, h⟩
 ·have hl : (Y0r s up).2.1.getD ((Y0r s up).2.1.length - 1) (0, 0) = facK (hauR s).hs up ((hauR s).hs.length - 2) := by
   rw [a6, Y7u, List.getD_eq_getElem?_getD, Yay _ up (by omega)]
   rw [show (hauR s).hs.length - 1 - 1 = (hauR s).hs.length - 2 by omega]
   rfl
  unfold Y07
  rw [if_pos a4, hl]
  have hp := hP ((hauR s).hs.length - 2) (by omega)
  rcases Y6v a5.v hp.v with k | k
  ·refine .inr (.inr ⟨a1, a2, a3, k, ?_⟩)
   exact (a5.mulP hp k).to (Int.ne_of_gt a3) (by ac_rfl)
  ·exact .inl k
theorem Y4g {s : Sy} {up : Bool} (h : (Y07 s up).2 = 0) : givL s = 0 := by
 unfold Y07 at h
 by_cases h0 : (Y0r s up).2.2 = 0
 ·exact (Yq5 h0).1
 ·rw [if_neg h0] at h
  exact absurd h h0
theorem Yga {s : Sy} {b : Bk} (o : One s b) (up : Bool) : (Y07 s up).2 ≠ 13 ∧ (Y07 s up).2 ≠ 17 := by
 by_cases hg : givL s = 0
 ·obtain ⟨hv, hx0, _⟩ := Y2d hg
  have hr := Y3n (Y0h hv) (Y3o hx0).1
  obtain ⟨P, Q, hQ, hP, hf⟩ := Ygd hr up
  rcases Y51 o up hg hQ hP hf.pos with h | ⟨_, h⟩ | ⟨_, _, _, h, _⟩ <;> omega
 ·have e : (Y07 s up).2 = givL s := by
   have : Y0r s up = ((0, 0), [], givL s) := by unfold Y0r; rw [if_neg hg]
   unfold Y07
   rw [this, if_neg hg]
  rw [e]
  unfold givL
  split
  ·split
   ·decide
   ·split <;> decide
  ·decide
def sk (h : Hd) : ByteArray × Int := (h.b, h.p)
theorem Y9h {P : Nat → Int} {n : Nat} {nm : ByteArray} : ∀ (hs ks : List Hd) (i : Nat), hs.map sk = ks.map sk → Y39 P n nm hs i = Y39 P n nm ks i
 | [], [], _, _ => rfl
 | [], _ :: _, _, h => by simp at h
 | _ :: _, [], _, h => by simp at h
 | h :: l, k :: m, i, e => by
  simp only [List.map_cons, List.cons.injEq, sk, Prod.mk.injEq] at e
  rw [Y46, Y46, Y9h l m (i + 1) e.2, e.1.1, e.1.2]
theorem Ye3 {s t : Sy} {b : Bk} (o : One s b) (o' : One t b) (up up' : Bool) (hs : givL s = 0) (ht : givL t = 0) (hk : (hauR t).hs.map sk = (hauR s).hs.map sk) (hle : ∀ j, 1 ≤ j → j + 1 < (hauR s).hs.length → aS up (hauR s).hs j * cS up' (hauR t).hs j ≤ aS up' (hauR t).hs j * cS up (hauR s).hs j) (h1 : (Y07 s up).2 = 0) (h2 : (Y07 t up').2 = 0) : leF (Y07 s up).1 (Y07 t up').1 := by
 have hl : (hauR t).hs.length = (hauR s).hs.length := by have := congrArg List.length hk; simpa using this
 obtain ⟨hv, hx0, _⟩ := Y2d hs
 obtain ⟨hv', hx0', _⟩ := Y2d ht
 have ok := Y0h hv
 have hrm := (Y3o hx0).1
 have hr := Y3n ok hrm
 have hr' := Y3n (Y0h hv') (Y3o hx0').1
 obtain ⟨n2, n10⟩ := Y3e hr
 obtain ⟨P, Q, hQ, hP, hf⟩ := Ygd hr up
 obtain ⟨P', Q', hQ', hP', hf'⟩ := Ygd hr' up'
 have k1 := Y51 o up hs hQ hP hf.pos
 have k2 := Y51 o' up' ht hQ' hP' hf'.pos
 rw [hl, Y9h _ _ 0 hk] at k2
 rw [hl] at hf'
 have hc : ∀ j, j + 1 < (hauR s).hs.length → P' j * P ((hauR s).hs.length - 2) ≤ P j * P' ((hauR s).hs.length - 2) := fun j hj => Yvf hf hf' hle ((hauR s).hs.length - 2 - j) j (by omega)
 have hg := Yju (nm := b.nm) n2 hc (hauR s).hs 0 (by omega) fun h hh => ⟨o.up _ hrm h hh, (ok.pulls _ hrm h hh).2⟩
 rcases k1 with k1 | ⟨_, k1⟩ | ⟨_, _, k0, _, k1⟩
 ·omega
 ·omega
 rcases k2 with k2 | ⟨_, k2⟩ | ⟨_, _, k3, _, k2⟩
 ·omega
 ·omega
 rw [k1.leF k2 k0 k3, Int.mul_assoc, Int.mul_assoc]
 refine Int.mul_le_mul_of_nonneg_left ?_ (ok.wts b (by rw [o.bs]; simp)).1
 rw [Int.mul_comm, Int.mul_comm (P' _)]
 exact hg
theorem Yhw {r : Rp} (hr : Y25 r = true) (j : Nat) : 0 < (Y1h r.hs j).2 ∧ (Y1h r.hs j).2 ≤ (Y1h r.hs j).1 := by
 have h := Y5t hr j
 refine ⟨by have := h.d1; omega, ?_⟩
 unfold Y1h
 split
 ·rename_i x hx
  have := Y3t (Y5p hr hx)
  unfold Y3h at this
  simp only [Bool.and_eq_true, decide_eq_true_eq] at this
  exact this.1.2
 ·exact Int.le_refl _
theorem Yxa {s : Sy} {b : Bk} (o : One s b) (h1 : (Y07 s false).2 = 0) (h2 : (Y07 s true).2 = 0) : leF (Y07 s false).1 (Y07 s true).1 := by
 have hg := Y4g h1
 obtain ⟨hv, hx0, _⟩ := Y2d hg
 have hr := Y3n (Y0h hv) (Y3o hx0).1
 refine Ye3 o o false true hg hg rfl (fun j _ _ => ?_) h1 h2
 obtain ⟨a, b⟩ := Yhw hr j
 show (Y1h _ j).2 * (Y1h _ j).2 ≤ (Y1h _ j).1 * (Y1h _ j).1
 exact Int.mul_le_mul b b (by omega) (by omega)
theorem Yta {s : Sy} {b : Bk} (o : One s b) : (Y1x s).2.2 ≠ 13 ∧ (Y1x s).2.2 ≠ 17 := by
 have h1 := Yga o true
 have h2 := Yga o false
 unfold Y1x
 by_cases k1 : (Y07 s true).2 = 0
 rotate_left 1
 ·rw [if_neg k1]; exact h1
 rw [if_pos k1]
 by_cases k2 : (Y07 s false).2 = 0
 rotate_left 1
 ·rw [if_neg k2]; exact h2
 rw [if_pos k2, if_neg]
 ·exact ⟨show (0 : Int) ≠ 13 by decide, show (0 : Int) ≠ 17 by decide⟩
 ·have := Yxa o k2 k1
  have := Ykc.2 this
  omega
theorem One.clean {s : Sy} {b : Bk} (o : One s b) : One (Y0j s) b := by
 refine ⟨Y44.2 (Y44.1 o.v).clean, o.bs, fun r hr h hh => ?_⟩
 obtain ⟨q, hq, rfl⟩ := List.mem_map.1 hr
 obtain ⟨k, hk, rfl⟩ := List.mem_map.1 hh
 exact o.up q hq k hk
theorem Y98 (hs : List Hd) : (hs.map Y2q).map sk = hs.map sk := by
 rw [List.map_map]
 rfl
theorem Yot {s : Sy} {b : Bk} (o : One s b) (h0 : (Y07 s false).2 = 0) (h1 : (Y07 (Y0j s) true).2 = 0) : leF (Y07 s false).1 (Y07 (Y0j s) true).1 := by
 have hg := Y4g h0
 obtain ⟨hv, hx0, _⟩ := Y2d hg
 have hr := Y3n (Y0h hv) (Y3o hx0).1
 have hc : (hauR (Y0j s)).hs = (hauR s).hs.map Y2q := by rw [Y45]; rfl
 refine Ye3 o o.clean false true hg (Y4g h1) (by rw [hc, Y98]) (fun j _ _ => ?_) h0 h1
 obtain ⟨a, b⟩ := Yhw hr j
 show (Y1h _ j).2 * (Y1h _ j).2 ≤ (Y1h _ j).1 * (Y1h _ j).1
 rw [hc, Y5u]
 simp only [Int.mul_one, Int.one_mul]
 exact b
theorem Yos {s : Sy} {b : Bk} (o : One s b) (h0 : (Y07 s true).2 = 0) (h1 : (Y07 (Y0j s) true).2 = 0) : leF (Y07 (Y0j s) true).1 (Y07 s true).1 := by
 have hg := Y4g h0
 obtain ⟨hv, hx0, _⟩ := Y2d hg
 have hr := Y3n (Y0h hv) (Y3o hx0).1
 have hc : (hauR (Y0j s)).hs = (hauR s).hs.map Y2q := by rw [Y45]; rfl
 refine Ye3 o.clean o true true (Y4g h1) hg (by rw [hc, Y98]) (fun j _ _ => ?_) h1 h0
 obtain ⟨a, b⟩ := Yhw hr j
 show (Y1h _ j).1 * (Y1h _ j).2 ≤ (Y1h _ j).1 * (Y1h _ j).2
 rw [hc, Y5u]
 simp only [Int.mul_one, Int.one_mul]
 exact b
theorem map_set {α β : Type} {f : α → β} {l : List α} {k : Nat} {x y : α} (h : l[k]? = some x) (e : f y = f x) : (l.set k y).map f = l.map f := by
 refine List.ext_getElem? fun i => ?_
 rw [List.getElem?_map, List.getElem?_map, List.getElem?_set]
 split
 ·rename_i hk
  subst hk
  split
  ·rw [h, Option.map_some, Option.map_some, e]
  ·rename_i hn
   exact absurd (List.getElem?_eq_some_iff.1 h).1 hn
 ·rfl
theorem Ym1 (s : Sy) : fixA (Y0j s) = fixA s := by
 unfold fixA fixP Y0j
 simp only [List.length_map]
 refine List.filter_congr fun i _ => ?_
 unfold fixB
 rw [List.getElem?_map]
 cases s.rs[i]? <;> rfl
theorem Yhv {s : Sy} (hv : Y0g s = true) : Y12 (Y0j s) = Y12 s := by
 have h2 : Y0g (Y0j s) = true := Y44.2 (Y44.1 hv).clean
 unfold Y12 Y2m trS
 rw [if_pos hv, if_pos h2, Ym1, Ylm]
 simp only [Y0j, List.length_map]
theorem Yhx (r : Rp) : Y92 (Y13 r) = false := by
 unfold Y92 Y13
 rw [List.any_map, ← Bool.not_eq_true, List.any_eq_true]
 rintro ⟨h, _, e⟩
 simp [Y2q] at e
theorem Ylv {s : Sy} (h : givL s = 0) : givL (Y0j s) = 0 := by
 obtain ⟨hv, hx, _⟩ := Y2d h
 unfold givL
 rw [if_pos (Y44.2 (Y44.1 hv).clean), if_neg (by rw [Yaq]; exact hx), if_neg]
 rw [List.any_eq_true]
 rintro ⟨r, hr, e⟩
 obtain ⟨q, _, rfl⟩ := List.mem_map.1 hr
 rw [Yhx, Bool.and_false] at e
 exact absurd e (by decide)
theorem Ylt {s : Sy} {b : Bk} (o : One s b) (h : (Y1x s).2.2 = 0) : (Y07 (Y0j s) true).2 = 0 ∨ (Y07 (Y0j s) true).2 = 5 := by
 obtain ⟨h1, _⟩ := Y7p h
 have hg := Y4g h1
 have hgc := Ylv hg
 obtain ⟨hv, hx0, _⟩ := Y2d hg
 obtain ⟨hvc, hxc, _⟩ := Y2d hgc
 obtain ⟨P, Q, hQ, hP, hf⟩ := Ygd (Y3n (Y0h hv) (Y3o hx0).1) true
 obtain ⟨P', Q', hQ', hP', hf'⟩ := Ygd (Y3n (Y0h hvc) (Y3o hxc).1) true
 rcases Y51 o.clean true hgc hQ' hP' hf'.pos with k | ⟨k0, _⟩ | ⟨_, _, _, k, _⟩
 ·exact .inr k
 ·rcases Y51 o true hg hQ hP hf.pos with k | ⟨_, k⟩ | ⟨p, m, _⟩
  ·omega
  ·omega
  ·refine absurd ⟨?_, ?_⟩ k0
   ·have hc : (hauR (Y0j s)).hs = (hauR s).hs.map Y2q := by rw [Y45]; rfl
    unfold Ya9 at p ⊢
    rw [hc, List.length_map, Y9h _ _ 0 (Y98 _)]
    exact p
   ·unfold Yc2 at m ⊢
    rw [Yhv hv]
    exact m
 ·exact .inl k
theorem Yqh {s : Sy} (ok : OkS s) {r : Rp} (hrm : r ∈ s.rs) (nm : ByteArray) : Y39 (fun _ => 1) r.hs.length nm r.hs 0 = pull nm r.hs :=
 Yce (n := r.hs.length) (nm := nm) r.hs 0 fun k x hx k0 k1 => by
  have hok := Y3f.1 (ok.holds r hrm).2.2 k x hx
  have hend : endH r.hs.length k = false := by
   unfold endH
   simp
   omega
  rw [hend] at hok
  unfold Y0q at hok
  rw [Bool.and_eq_true] at hok
  have hok := hok.2
  split at hok
  ·have : x.p = 0 := by simpa using hok
   rw [this]; rfl
  ·simp at hok
   obtain ⟨_, (e | e) | e⟩ := hok <;> rw [e] <;> rfl
theorem Ygm {s : Sy} {b : Bk} (o : One s b) (h : (Y07 (Y0j s) true).2 = 0) : ∃ (i : Nat) (r : Rp), hix s = (i : Int) ∧ s.rs[i]? = some r ∧ r.hl = true ∧ 0 < pull b.nm r.hs ∧ Val (Y07 (Y0j s) true).1 b.w (pull b.nm r.hs) := by
 have hgc := Y4g h
 obtain ⟨hvc, hxc, _⟩ := Y2d hgc
 have hx0 : ¬ hix s < 0 := by rwa [Yaq] at hxc
 obtain ⟨i, r, ei, hr, hl⟩ := Y5v hx0
 have eh : hauR s = r := by unfold hauR; rw [ei, Int.toNat_natCast, List.getD_eq_getElem?_getD, hr]; rfl
 have hc : (hauR (Y0j s)).hs = r.hs.map Y2q := by rw [Y45, eh]; rfl
 refine ⟨i, r, ei, hr, hl, ?_⟩
 have hf : ∀ k, facK (hauR (Y0j s)).hs true k = (1, 1) := fun k => by rw [hc]; exact Y47 _ _ k
 have k := Y51 o.clean true hgc (P := fun _ => 1) (Q := 1) (by decide) (fun j _ => by rw [hf]; exact Val.one (by omega)) (fun _ _ => by decide)
 rw [hc, List.length_map, Y9h _ _ 0 (Y98 _), Yqh (Y0h o.v) (List.mem_of_getElem? hr), Int.mul_one] at k
 rcases k with k | ⟨_, k⟩ | ⟨_, _, k0, _, k⟩
 ·omega
 ·omega
 ·exact ⟨k0, k⟩
theorem Ym0 {s : Sy} {b : Bk} (o : One s b) (h : (Y1x s).2.2 = 0) (h1 : (Y07 (Y0j s) true).2 = 0) : leF (Y1x s).1 (Y07 (Y0j s) true).1 ∧ leF (Y07 (Y0j s) true).1 (Y1x s).2.1 ∧ Y8y s (Y07 (Y0j s) true).1 = (true, 0) := by
 obtain ⟨a1, a2, a3, a4, _⟩ := Y7p h
 have l1 : leF (Y1x s).1 (Y07 (Y0j s) true).1 := by rw [a3]; exact Yot o a2 h1
 have l2 : leF (Y07 (Y0j s) true).1 (Y1x s).2.1 := by rw [a4]; exact Yos o a1 h1
 exact ⟨l1, l2, (Yps h (Y8j h1)).1 l1 l2⟩
theorem Ys5 {s : Sy} {b : Bk} (o : One s b) {i : Nat} {r : Rp} (ei : hix s = (i : Int)) (hr : s.rs[i]? = some r) (h : (Y4c s b.nm).2 = 0) : Val (Y4c s b.nm).1 (pull b.nm r.hs) 1 := by
 unfold Y4c at h ⊢
 have ok := Y0h o.v
 have hbl : s.bs.length = 1 := by rw [o.bs]; rfl
 rw [if_pos o.v] at h ⊢
 by_cases hb : Y1k s.bs b.nm < 0
 ·rw [if_pos hb] at h; simp at h
 rw [if_neg hb, if_neg (by omega)] at h ⊢
 by_cases hs : (Y0x s (Y2j s)).2 = 0
 rotate_left 1
 ·rw [if_neg hs] at h; exact absurd h hs
 rw [if_pos hs] at h ⊢
 obtain ⟨X, D, hD, hX, hl, hV⟩ := Ya2 hs
 obtain ⟨j, b', ej, hj, _⟩ := Yk3 hb
 have hjl := (List.getElem?_eq_some_iff.1 hj).1
 have j0 : j = 0 := by omega
 subst j0
 have hil := (List.getElem?_eq_some_iff.1 hr).1
 obtain ⟨f, hf⟩ : ∃ y, (Y0x s (Y2j s)).1[0]? = some y := ⟨_, List.getElem?_eq_getElem (by omega)⟩
 have ef : (Y0x s (Y2j s)).1.getD (Y1k s.bs b.nm).toNat (0, 0) = f := by rw [ej, Int.toNat_natCast, List.getD_eq_getElem?_getD, hf]; rfl
 rw [ef] at h ⊢
 have hVf := hV 0 f hf
 have hu : (Y2j s)[i]? = some 1 := by
  unfold Y2j
  rw [ei, Int.toNat_natCast, List.getElem?_set_self (by rw [List.length_replicate]; exact hil)]
 have hS := hX i _ 1 (Yv0 s hil) hu
 rw [ok.tr_valid.2, hbl] at hS
 have e3 : Lin.at_ (colP (matS s) i) 0 = pull b.nm r.hs := by
  unfold Lin.at_ colP matS
  rw [o.bs]
  simp only [List.map_cons, List.map_nil, List.getElem?_cons_zero, Option.getD_some]
  unfold Lin.at_
  rw [List.getElem?_map, hr]
  rfl
 simp only [sumN, Int.add_zero, Int.mul_one] at hS
 rw [e3] at hS
 have a := (Val.one (n := 1) (by decide)).divP hVf h
 refine a.to (by decide) ?_
 rw [Int.one_mul, Int.one_mul, Int.mul_one]
 exact hS.symm
theorem Ynj {s : Sy} {b : Bk} (o : One s b) (h1 : (Y07 (Y0j s) true).2 = 0) (h2 : (Y4c s b.nm).2 = 0) : mulP (Y07 (Y0j s) true).1 (Y4c s b.nm).1 = ((b.w, 1), 0) ∨ (mulP (Y07 (Y0j s) true).1 (Y4c s b.nm).1).2 = 5 := by
 obtain ⟨i, r, ei, hr, hl, hc, hV⟩ := Ygm o h1
 have hT := Ys5 o ei hr h2
 rcases Y6v hV.v hT.v with k | k
 ·left
  refine Prod.ext ((hV.mulP hT k).int ?_) k
  rw [Int.mul_one]
 ·exact .inr k
theorem Yu4 {s : Sy} (h : (effP s).2 = 0) (h0 : (Y1x s).2.2 = 0) (h1 : (mulP (effP s).1 (Y1x s).2.1).2 = 0) : (mulP (effP s).1 (Y1x s).2.1).1 = (Y07 (Y0j s) true).1 := by
 obtain ⟨a1, a2, a3, a4, _⟩ := Y7p h0
 rw [a4] at h1 ⊢
 have e : effP s = divP (Y07 (Y0j s) true).1 (Y07 s true).1 := by
  unfold effP at h ⊢
  rw [if_pos a1] at h ⊢
  by_cases k : (Y07 (Y0j s) true).2 = 0
  ·rw [if_pos k]
  ·rw [if_neg k] at h; exact absurd h k
 rw [e] at h h1 ⊢
 obtain ⟨v1, v2, v3, _⟩ := Y7y h
 have hq := ((Val.self v1).divP (Val.self v2) h).mulP (Val.self v2) h1
 refine hq.eq (Val.self v1) ?_
 ac_rfl
theorem Ytc {s : Sy} {b : Bk} (o : One s b) (h1 : (Y07 (Y0j s) true).2 = 0) (h : (Y5w s).2 = 0) : ∃ c, matS s = [[c]] ∧ wtsS s = [b.w] ∧ s.rs.length = 1 ∧ (1 ≤ c ∧ c ≤ 1048576) ∧ (0 ≤ b.w ∧ b.w ≤ 16777216) ∧ hix s = 0 ∧ (Y1b b.w c).1 = (Y5w s).1 ∧ (Y5w s).1 = (Y07 (Y0j s) true).1 := by
 have ok := Y0h o.v
 have hw := ok.wts b (by rw [o.bs]; simp)
 obtain ⟨i, r, ei, hr, hl, hc, hV⟩ := Ygm o h1
 obtain ⟨_, ht, i', r', ei', hr', _, _, Z, D, hD, hS, hZ⟩ := Yg6 h
 have e : i' = i := by omega
 subst e
 rw [hr, Option.some.injEq] at hr'
 subst hr'
 have hrl : s.rs.length = 1 := by
  have e : Y2k s = Y1m (matS s) (wtsS s) := by unfold Y2k; rw [if_pos o.v]
  rw [e, Y3r ok.mat_valid ok.len ok.wts_in] at ht
  obtain ⟨p1, _⟩ := Yf8 ok.mat_valid ok.len ok.wts_in ht
  have hk := (Y4t ok.mat_valid ok.len ok.wts_in).k_le
  have hcl : (Y10 (matS s) (wtsS s)).length = (matS s).length := by simp [Y10, ok.len]
  rw [p1, hcl, ok.mat_len, ok.mat_wid, o.bs] at hk
  have := ok.r1
  simp only [List.length_cons, List.length_nil] at hk
  omega
 have hil := (List.getElem?_eq_some_iff.1 hr).1
 have j0 : i' = 0 := by omega
 subst j0
 have hrs : s.rs = [r] := by
  obtain ⟨q, hq⟩ := List.length_eq_one_iff.1 hrl
  rw [hq] at hr ⊢
  simpa using hr
 have hm : matS s = [[pull b.nm r.hs]] := by simp [matS, o.bs, hrs]
 have hwt : wtsS s = [b.w] := by simp [wtsS, o.bs]
 have hb := Y66 (nm := b.nm) (hs := r.hs) (ok.pulls r (List.mem_of_getElem? hr))
 have h10 := (ok.holds r (List.mem_of_getElem? hr)).2.1
 have hq := Y8i (n := b.w) (d := pull b.nm r.hs) (by omega) (Y58 (by omega) (by omega) (by omega))
 have hM : Val (Y1b b.w (pull b.nm r.hs)).1 b.w (pull b.nm r.hs) := ⟨hq.1, by omega, hq.2⟩
 have hs := hS 0 [pull b.nm r.hs] b.w (by rw [hm]; rfl) (by rw [hwt]; rfl)
 have hwd : wid (matS s) = 1 := by rw [ok.mat_wid, hrl]
 rw [hwd] at hs
 simp only [sumN, Int.add_zero, Lin.at_, List.getElem?_cons_zero, Option.getD_some] at hs
 have e1 : (Y1b b.w (pull b.nm r.hs)).1 = (Y5w s).1 := hM.eq hZ (by rw [Int.mul_comm b.w, Int.mul_comm (Z 0)]; exact hs.symm)
 refine ⟨_, hm, hwt, hrl, by omega, by omega, by rw [ei]; rfl, e1, ?_⟩
 rw [← e1]
 exact hM.eq hV rfl
end Go.Proofs.YtpbpafmgkdihlaaGreatDoor.T
namespace Go.Proofs.YtpbpafmgkdihlaaGreatDoor.T
open Go Go.RowKit
section
variable {P : Program} {w0 : World} {F : Mem} {G : Ghost} {H : Hp} {tk : Nat} {w : World}
end
theorem Y81 {P : Program} {tab : Tab} {n : Nat} {all : List Oper} {K : St → Prop} {rest : List Oper} {st : St} {dst : Option Tmp} {op : Op} {ty : TypeId} {pos : String} {aft : Array Edge} (ho : Y2o op = false) (hk : dst.getD 0 < n) (S : D → Hp → Nat → Prop) (hm : Y109 P n st ⟨dst, op, ty, pos, aft, none⟩ S)
    (h : ∀ d H t, S d H t → Y16 P tab n all K rest (St.put ⟨st.tm, H, t⟩ dst d)) : Y16 P tab n all K (⟨dst, op, ty, pos, aft, none⟩ :: rest) st := by
  unfold Y16
  refine ⟨.inl hk, ?_⟩
  rw [Y9u]
  simp only
  split
  · simp [Y2o] at ho
  · exact .inr (.inr ⟨S, hm, h⟩)
theorem Y49 {P : Program} {tab : Tab} {n : Nat} {all : List Oper} {K : St → Prop} {rest : List Oper} {st : St} {dst : Option Tmp} {op : Op} {ty : TypeId} {pos : String} {aft : Array Edge} (ho : Y2o op = false) (hk : dst.getD 0 < n) (d : D)
    (hp : ∀ w0 F G a w, Sim w0 F G n st a w → ∃ u, (execOp a.eval ⟨dst, op, ty, pos, aft, none⟩).run P w = .ok (.value u) w ∧ Rep F G d u)
    (h : ∀ KK : St → Prop, (∀ s, Y16 P tab n all K rest s → KK s) → KK (st.put dst d)) : Y16 P tab n all K (⟨dst, op, ty, pos, aft, none⟩ :: rest) st := by
  have h := h _ fun _ h => h
  refine Y81 ho hk (fun d' H t' => d' = d ∧ H = st.H ∧ t' = st.t) (fun w0 F G a w hs => ?_) fun d' H t' ⟨e1, e2, e3⟩ => by subst e1; subst e2; subst e3; exact h
  obtain ⟨u, h1, h2⟩ := hp w0 F G a w hs
  exact ⟨u, F, G, w, _, _, _, h1, .refl _ _ _, hs.1, h2, rfl, rfl, rfl⟩
theorem Ykh {P : Program} {tab : Tab} {n : Nat} {all : List Oper} {K : St → Prop} {rest : List Oper} {st : St} {dst : Option Tmp} {X T ty : TypeId} {x : Operand} {pos : String} {aft : Array Edge} {u : Value}
    (hk : dst.getD 0 < n) (hx : Y1t tab st.tm X x = .v (.iface T u)) (hm : ∀ w, (Instr.typeAssert (.iface T u) X T true).run P w = .ok (.tuple #[u, .bool true]) w)
    (h : ∀ KK : St → Prop, (∀ s, Y16 P tab n all K rest s → KK s) → KK (st.put dst (.tup [.v u, .v (.bool true)]))) :
    Y16 P tab n all K (⟨dst, .typeAssert x X T true, ty, pos, aft, none⟩ :: rest) st := by
  have h := h _ fun _ h => h
  refine Y81 rfl hk (fun d H t' => d = .tup [.v u, .v (.bool true)] ∧ H = st.H ∧ t' = st.t) (fun w0 F G a w hs => ?_) fun d H t' ⟨e1, e2, e3⟩ => by subst e1; subst e2; subst e3; exact h
  have hv := hs.2.1.eval tab X x
  rw [hx] at hv
  simp only [Rep] at hv
  refine ⟨.tuple #[u, .bool true], F, G, w, _, _, _, by simp [execOp, hv, hm], .refl _ _ _, hs.1, ?_, rfl, rfl, rfl⟩
  simp only [Rep]
  exact ⟨_, rfl, by simp only [RepL]; exact ⟨_, _, rfl, Y1e _ _ _, _, _, rfl, Y1e _ _ _, rfl⟩⟩
theorem Y8n {P : Program} {tab : Tab} {n : Nat} {all : List Oper} {K : St → Prop} {rest : List Oper} {st : St} {dst : Option Tmp} {X T A ty : TypeId} {x : Operand} {pos : String} {aft : Array Edge} {u z : Value} {dz : D}
    (hk : dst.getD 0 < n) (hx : Y1t tab st.tm X x = .v (.iface T u)) (hm : ∀ w, (Instr.typeAssert (.iface T u) X A true).run P w = .ok (.tuple #[z, .bool false]) w) (hz : ∀ F G, Rep F G dz z)
    (h : ∀ KK : St → Prop, (∀ s, Y16 P tab n all K rest s → KK s) → KK (st.put dst (.tup [dz, .v (.bool false)]))) :
    Y16 P tab n all K (⟨dst, .typeAssert x X A true, ty, pos, aft, none⟩ :: rest) st := by
  have h := h _ fun _ h => h
  refine Y81 rfl hk (fun d H t' => d = .tup [dz, .v (.bool false)] ∧ H = st.H ∧ t' = st.t) (fun w0 F G a w hs => ?_) fun d H t' ⟨e1, e2, e3⟩ => by subst e1; subst e2; subst e3; exact h
  have hv := hs.2.1.eval tab X x
  rw [hx] at hv
  simp only [Rep] at hv
  refine ⟨.tuple #[z, .bool false], F, G, w, _, _, _, by simp [execOp, hv, hm], .refl _ _ _, hs.1, ?_, rfl, rfl, rfl⟩
  simp only [Rep]
  exact ⟨_, rfl, by simp only [RepL]; exact ⟨_, _, rfl, hz F G, _, _, rfl, Y1e _ _ _, rfl⟩⟩
end Go.Proofs.YtpbpafmgkdihlaaGreatDoor.T
