import Derived.Test.YtcppnmohgaobdaaGreatRCPYALO
import Derived.Test.YtcppnmohgaobdaaGreatRALGFW
import Derived.Test.YtcppnmohgaobdaaGreatRMGKALW
import Derived.Test.YtcppnmohgaobdaaGreatRVJAVP
import Derived.Test.YtcppnmohgaobdaaGreatRWE
set_option linter.all false
namespace Go.Proofs.YtcppnmohgaobdaaGreat.T
open Go Go.RowKit Lin
theorem mulP_e5 {a b : Int × Int} (ha : vfrac a.1 a.2 = true) (hb : vfrac b.1 b.2 = true) : (mulP a b).2 = 0 ∨ (mulP a b).2 = 5 := by
  unfold mulP
  rw [if_pos ⟨ha, hb⟩]
  exact mulR_err ha hb
theorem addP_e5 {a b : Int × Int} (ha : vfrac a.1 a.2 = true) (hb : vfrac b.1 b.2 = true) : (addP a b).2 = 0 ∨ (addP a b).2 = 5 := by
  unfold addP
  rw [if_pos ⟨ha, hb⟩]
  exact addR_err ha hb
theorem divP_e5 {a b : Int × Int} (ha : vfrac a.1 a.2 = true) (hb : vfrac b.1 b.2 = true) (h0 : b.1 ≠ 0) : (divP a b).2 = 0 ∨ (divP a b).2 = 5 := by
  rw [divP_ok ha hb]
  rcases divR_err ha hb with h | h
  · exact absurd h.1 h0
  · exact h.2
theorem dotV_e5 : ∀ (v l : List (Int × Int)) (s : Int × Int), (∀ x ∈ v, vfrac x.1 x.2 = true) → (∀ x ∈ l, vfrac x.1 x.2 = true) → vfrac s.1 s.2 = true → (dotV v l s).2 = 0 ∨ (dotV v l s).2 = 5
  | [], _, _, _, _, _ => .inl (by simp [dotV])
  | _ :: _, [], _, _, _, _ => .inl (by simp [dotV])
  | a :: v, b :: l, s, hv, hl, hs => by
    simp only [dotV]
    have ha := hv a (by simp)
    have hb := hl b (by simp)
    rcases mulP_e5 ha hb with h | h
    · rw [if_pos h]
      rcases addP_e5 hs (mul0v h) with k | k
      · rw [if_pos k]
        exact dotV_e5 v l _ (fun x hx => hv x (by simp [hx])) (fun x hx => hl x (by simp [hx])) (add0v k)
      · rw [if_neg (by omega)]
        exact .inr k
    · rw [if_neg (by omega)]
      exact .inr h
theorem pairA_e5 {load grip : List (Int × Int)} : ∀ (L : List (List (Int × Int))) (w p : List (Int × Int)), (∀ v ∈ L, ((dotV v load (0, 1)).2 = 0 ∨ (dotV v load (0, 1)).2 = 5) ∧ ((dotV v grip (0, 1)).2 = 0 ∨ (dotV v grip (0, 1)).2 = 5)) → (pairA load grip L w p).2 = 0 ∨ (pairA load grip L w p).2 = 5
  | [], _, _, _ => .inl rfl
  | v :: L, w, p, h => by
    simp only [pairA]
    obtain ⟨h1, h2⟩ := h v (by simp)
    rcases h1 with h1 | h1
    · rw [if_pos h1]
      rcases h2 with h2 | h2
      · rw [if_pos h2]
        exact pairA_e5 L _ _ fun x hx => h x (by simp [hx])
      · rw [if_neg (by omega)]
        exact .inr h2
    · rw [if_neg (by omega)]
      exact .inr h1
theorem half_v {p : Int} (h : -2 ≤ p ∧ p ≤ 2) : -1152921504606846976 ≤ p.tdiv 2 ∧ p.tdiv 2 ≤ 1152921504606846976 := by
  have h1 : p = -2 ∨ p = -1 ∨ p = 0 ∨ p = 1 ∨ p = 2 := by omega
  rcases h1 with e | e | e | e | e <;> rw [e] <;> decide
theorem gripT_e5 {F : Nat → Int × Int} {n i : Nat} {h : Hd} (hF : ∀ j, j + 1 < n → vfrac (F j).1 (F j).2 = true) (h2 : 2 ≤ n) (hi : i < n) (hp : -2 ≤ h.p ∧ h.p ≤ 2) : (gripT n F i h).2 = 0 ∨ (gripT n F i h).2 = 5 := by
  unfold gripT
  split
  · exact mulP_e5 (vfrac_one (by omega)) (hF 0 (by omega))
  · split
    · exact mulP_e5 (vfrac_one (by omega)) (hF (n - 2) (by omega))
    · rcases addP_e5 (hF (i - 1) (by omega)) (hF i (by omega)) with k | k
      · rw [if_pos k]
        exact mulP_e5 (vfrac_one (half_v hp)) (add0v k)
      · rw [if_neg (by omega)]
        exact .inr k
theorem gripT_v {F : Nat → Int × Int} {n i : Nat} {h : Hd} (h0 : (gripT n F i h).2 = 0) : vfrac (gripT n F i h).1.1 (gripT n F i h).1.2 = true := by
  unfold gripT at h0 ⊢
  split
  · rename_i e
    rw [if_pos e] at h0
    exact mul0v h0
  · rename_i e
    rw [if_neg e] at h0
    split
    · rename_i e2
      rw [if_pos e2] at h0
      exact mul0v h0
    · rename_i e2
      rw [if_neg e2] at h0
      by_cases k : (addP (F (i - 1)) (F i)).2 = 0
      · rw [if_pos k] at h0 ⊢
        exact mul0v h0
      · rw [if_neg k] at h0
        exact absurd h0 k
theorem gripA_e5 {F : Nat → Int × Int} {n : Nat} {nm : ByteArray} (hF : ∀ j, j + 1 < n → vfrac (F j).1 (F j).2 = true) (h2 : 2 ≤ n) : ∀ (hs : List Hd) (i : Nat) (c : Int × Int), (∀ h ∈ hs, -2 ≤ h.p ∧ h.p ≤ 2) → i + hs.length ≤ n → vfrac c.1 c.2 = true → (gripA n F nm hs i c).2 = 0 ∨ (gripA n F nm hs i c).2 = 5
  | [], _, _, _, _, _ => .inl rfl
  | h :: l, i, c, hp, hi, hc => by
    simp only [List.length_cons] at hi
    simp only [gripA]
    have hp' : ∀ x ∈ l, -2 ≤ x.p ∧ x.p ≤ 2 := fun x hx => hp x (by simp [hx])
    split
    · rcases gripT_e5 (i := i) hF h2 (by omega) (hp h (by simp)) with k | k
      · rw [if_pos k]
        rcases addP_e5 hc (gripT_v k) with a | a
        · rw [if_pos a]
          exact gripA_e5 hF h2 l (i + 1) _ hp' (by omega) (add0v a)
        · rw [if_neg (by omega)]
          exact .inr a
      · rw [if_neg (by omega)]
        exact .inr k
    · exact gripA_e5 hF h2 l (i + 1) c hp' (by omega) hc
def RelW (W G Q : Int) (w p : Int × Int) : Prop := ∃ X D : Int, D ≠ 0 ∧ Val w (X * W) D ∧ Val p (X * G) (D * Q)
theorem balR_one {W G Q : Int} (hQ : 0 < Q) (hG : 0 < G) {t : Int × Int} (ht : Val t (W * Q) G) : ∀ (p w : List (Int × Int)), (∀ (k : Nat) (x y : Int × Int), p[k]? = some x → w[k]? = some y → RelW W G Q y x) → (balR t p w true).2 = 5 ∨ balR t p w true = (true, 0)
  | [], w, _ => .inr (by cases w <;> rfl)
  | _ :: _, [], _ => .inr rfl
  | x :: p, y :: w, h => by
    obtain ⟨X, D, hD, hy, hx⟩ := h 0 x y rfl rfl
    simp only [balR]
    rcases mulP_e5 hx.v ht.v with k | k
    · rw [if_pos k]
      have hm := hx.mulP ht k
      have e : (mulP x t).1 = y := hm.eq hy (by ac_rfl)
      rw [decide_eq_true e, Bool.and_self]
      exact balR_one hQ hG ht p w fun k a b ha hb => h (k + 1) a b (by simpa using ha) (by simpa using hb)
    · rw [if_neg (by omega)]
      exact .inl k
theorem balP_one {W G Q : Int} (hW : 0 ≤ W) (hQ : 0 < Q) (hG : 0 ≤ G) {w p : List (Int × Int)} (hl : p.length = w.length) (h : ∀ (k : Nat) (x y : Int × Int), p[k]? = some x → w[k]? = some y → RelW W G Q y x) : (nzI p < 0 ∧ ((balP w p).2 = 21 ∨ (balP w p).2 = 22)) ∨ (¬ nzI p < 0 ∧ 0 < G ∧ ((balP w p).2 = 5 ∨ ((balP w p).2 = 0 ∧ Val (balP w p).1 (W * Q) G))) := by
  unfold balP
  by_cases hn : nzI p < 0
  · rw [if_pos hn]
    refine .inl ⟨hn, ?_⟩
    simp only
    split
    · exact .inl rfl
    · exact .inr rfl
  rw [if_neg hn]
  obtain ⟨hk, h0, _⟩ := nzI_hit hn
  generalize (nzI p).toNat = k at *
  have hkw : k < w.length := by omega
  have ex : p.getD k (0, 0) = p[k] := by rw [List.getD_eq_getElem?_getD, List.getElem?_eq_getElem hk, Option.getD_some]
  have ey : w.getD k (0, 0) = w[k] := by rw [List.getD_eq_getElem?_getD, List.getElem?_eq_getElem hkw, Option.getD_some]
  rw [ex] at h0
  rw [ex, ey]
  obtain ⟨X, D, hD, hw, hp⟩ := h k p[k] w[k] (List.getElem?_eq_getElem hk) (List.getElem?_eq_getElem hkw)
  have hXG : X * G ≠ 0 := fun e => h0 (hp.num.2 e)
  have hG0 : G ≠ 0 := fun e => hXG (by rw [e, Int.mul_zero])
  have hGp : 0 < G := by omega
  refine .inr ⟨hn, hGp, ?_⟩
  rcases divP_e5 hw.v hp.v h0 with k1 | k1
  rotate_left 1
  · rw [if_neg (by omega)]
    exact .inl k1
  rw [if_pos k1]
  have ht : Val (divP w[k] p[k]).1 (W * Q) G := (hw.divP hp k1).to hG0 (by ac_rfl)
  generalize (divP w[k] p[k]).1 = t at *
  rcases balR_one hQ hGp ht p w h with k2 | k2
  · rw [if_neg (by omega)]
    exact .inl k2
  rw [k2, if_pos rfl, if_neg (by decide)]
  have hneg : ¬ t.1 < 0 := fun hlt => by
    have e := ht.e
    have d1 := (fr_bounds ht.v).1
    have a1 : t.1 * G < 0 := Int.mul_neg_of_neg_of_pos hlt hGp
    have a2 : 0 ≤ W * Q * t.2 := Int.mul_nonneg (Int.mul_nonneg hW (by omega)) (by omega)
    omega
  rw [if_neg hneg]
  exact .inr ⟨rfl, ht⟩
structure One (s : Sy) (b : Bk) : Prop where
  v : validS s = true
  bs : s.bs = [b]
  up : ∀ r ∈ s.rs, ∀ h ∈ r.hs, 0 ≤ h.p
theorem right_of {s : Sy} (ok : OkS s) {r : Rp} (hr : r ∈ s.rs) : rightR r = true := by
  obtain ⟨h2, h10, hh⟩ := ok.holds r hr
  refine rightR_of ⟨h2, h10⟩ fun i x hx => ?_
  have hk := okHolds_iff.1 hh i x hx
  unfold okHold at hk
  rw [Bool.and_eq_true] at hk
  have hk := hk.1
  unfold okLoss
  cases e : endH r.hs.length i
  · rw [e, if_neg (by decide)] at hk
    rw [hk]
    rfl
  · rw [e, if_pos rfl] at hk
    rw [hk]
    rw [Bool.and_eq_true, beq_iff_eq, beq_iff_eq] at hk
    rw [hk.1, hk.2]
    decide
def pullsB (s : Sy) (b : Bk) : Prop := 0 < gripW (fun _ => 1) (hauR s).hs.length b.nm (hauR s).hs 0
def movesB (s : Sy) : Prop := ∃ x : Int × Int, [x] ∈ (modesP s).1 ∧ x.1 ≠ 0
theorem hauR_mem {s : Sy} (h : ¬ hix s < 0) : hauR s ∈ s.rs ∧ s.rs[(hix s).toNat]? = some (hauR s) := by
  obtain ⟨i, r, hi, hr, _⟩ := hix_hit h
  have ehr : hauR s = r := by unfold hauR; rw [hi, Int.toNat_natCast, List.getD_eq_getElem?_getD, hr]; rfl
  rw [ehr, hi, Int.toNat_natCast]
  exact ⟨List.mem_of_getElem? hr, hr⟩
theorem first_one {s : Sy} {b : Bk} (o : One s b) (up : Bool) (hg : givL s = 0) {P : Nat → Int} {Q : Int} (hQ : 0 < Q) (hP : ∀ j, j + 1 < (hauR s).hs.length → Val (facK (hauR s).hs up j) (P j) Q) (hpos : ∀ j, j + 1 < (hauR s).hs.length → 0 < P j) : (firstP s up).2.2 = 5 ∨ (¬ (pullsB s b ∧ movesB s) ∧ ((firstP s up).2.2 = 21 ∨ (firstP s up).2.2 = 22)) ∨ (pullsB s b ∧ movesB s ∧ 0 < gripW P (hauR s).hs.length b.nm (hauR s).hs 0 ∧ (firstP s up).2.2 = 0 ∧ Val (firstP s up).1 (b.w * Q) (gripW P (hauR s).hs.length b.nm (hauR s).hs 0) ∧ (firstP s up).2.1 = facL (hauR s) up ((hauR s).hs.length - 1)) := by
  obtain ⟨hv, hx0, _⟩ := givL_inv hg
  have ok := validS_ok hv
  obtain ⟨hrm, _⟩ := hauR_mem hx0
  have hr := right_of ok hrm
  obtain ⟨n2, n10⟩ := rightR_len hr
  have hpl : ∀ h ∈ (hauR s).hs, -2 ≤ h.p ∧ h.p ≤ 2 := fun h hh => ok.pulls _ hrm h hh
  have hpl0 : ∀ h ∈ (hauR s).hs, 0 ≤ h.p ∧ h.p ≤ 2 := fun h hh => ⟨o.up _ hrm h hh, (hpl h hh).2⟩
  obtain ⟨g0, g1⟩ := gripW_nn (nm := b.nm) n2 hpos (hauR s).hs 0 (by omega) hpl0
  have gu := (gripW_nn (nm := b.nm) (P := fun _ => 1) n2 (fun _ _ => Int.one_pos) (hauR s).hs 0 (by omega) hpl0).1
  have hgp := gripP_val (up := up) (nm := b.nm) hP n2 hpl
  have hge := gripA_e5 (nm := b.nm) (fun j hj => (hP j hj).v) n2 (hauR s).hs 0 (0, 1) hpl (by omega) (by decide)
  have hge : (gripP (hauR s) up b.nm).2 = 0 ∨ (gripP (hauR s) up b.nm).2 = 5 := hge
  have hpb : pullsB s b ↔ 0 < gripW P (hauR s).hs.length b.nm (hauR s).hs 0 := by
    unfold pullsB
    omega
  generalize gripW P (hauR s).hs.length b.nm (hauR s).hs 0 = G at *
  have ea : alongP (hauR s) up = (facL (hauR s) up ((hauR s).hs.length - 1), 0) := by unfold alongP; rw [if_pos hr]
  have hbw := ok.wts b (by rw [o.bs]; simp)
  have eg : gripsA (hauR s) up s.bs [] = if (gripP (hauR s) up b.nm).2 = 0 then ([(gripP (hauR s) up b.nm).1], 0) else ([], (gripP (hauR s) up b.nm).2) := by rw [o.bs]; rfl
  have el : loadP s = [(b.w, 1)] := by unfold loadP; rw [o.bs]; rfl
  unfold firstP
  rw [if_pos hg, ea]
  simp only [if_true]
  rcases hge with ge | ge
  rotate_left 1
  · have h5 : ¬ (gripP (hauR s) up b.nm).2 = 0 := by omega
    rw [if_neg h5] at eg
    rw [eg]
    simp only [h5, if_false]
    exact .inl ge
  have hgv := hgp ge
  rw [if_pos ge] at eg
  have ep : prsP s up = pairA [(b.w, 1)] [(gripP (hauR s) up b.nm).1] (modesP s).1 [] [] := by unfold prsP; rw [eg, el]
  rw [eg]
  simp only [if_true]
  rw [ep]
  have hml : ∀ v ∈ (modesP s).1, ∃ x X D, v = [x] ∧ D ≠ 0 ∧ Val x X D := fun v hvm => by
    obtain ⟨hl, X, D, hD, hX, _⟩ := modes_K hv hvm
    rw [o.bs] at hl
    obtain ⟨x, rfl⟩ := List.length_eq_one_iff.1 hl
    exact ⟨x, X 0, D, rfl, hD, hX 0 x rfl⟩
  have hbv : Val (b.w, 1) b.w 1 := Val.one (by omega)
  have hz : Val (0, 1) 0 1 := Val.one (by omega)
  have hd5 : ∀ v ∈ (modesP s).1, ((dotV v [(b.w, 1)] (0, 1)).2 = 0 ∨ (dotV v [(b.w, 1)] (0, 1)).2 = 5) ∧ ((dotV v [(gripP (hauR s) up b.nm).1] (0, 1)).2 = 0 ∨ (dotV v [(gripP (hauR s) up b.nm).1] (0, 1)).2 = 5) := fun v hvm => by
    obtain ⟨x, X, D, rfl, hD, hx⟩ := hml v hvm
    have h1 : ∀ y ∈ [x], vfrac y.1 y.2 = true := fun y hy => by rw [List.mem_singleton.1 hy]; exact hx.v
    refine ⟨dotV_e5 _ _ _ h1 (fun y hy => ?_) hz.v, dotV_e5 _ _ _ h1 (fun y hy => ?_) hz.v⟩
    · rw [List.mem_singleton.1 hy]; exact hbv.v
    · rw [List.mem_singleton.1 hy]; exact hgv.v
  rcases pairA_e5 (modesP s).1 [] [] hd5 with pe | pe
  rotate_left 1
  · rw [if_neg (by omega)]
    exact .inl pe
  rw [if_pos pe]
  obtain ⟨e, hall⟩ := pairA_inv (modesP s).1 [] [] pe
  rw [e]
  simp only [List.nil_append]
  have hrel : ∀ v ∈ (modesP s).1, ∀ x X D, v = [x] → D ≠ 0 → Val x X D → Val (dotV v [(b.w, 1)] (0, 1)).1 (X * b.w) D ∧ Val (dotV v [(gripP (hauR s) up b.nm).1] (0, 1)).1 (X * G) (D * Q) := fun v hvm x X D hv hD hx => by
    obtain ⟨d1, d2⟩ := hall v hvm
    subst hv
    have s1 := dotV_val hD (show (1 : Int) ≠ 0 by decide) [x] [(b.w, 1)] (fun _ => X) (fun _ => b.w) (0, 1) 0 rfl (fun k f hk => by
      cases k with
      | zero => simp at hk; rw [← hk]; exact hx
      | succ k => simp at hk) (fun k f hk => by
      cases k with
      | zero => simp at hk; rw [← hk]; exact hbv
      | succ k => simp at hk) ⟨hz.v, by simpa using hD, by simp⟩ d1
    have s2 := dotV_val hD (Int.ne_of_gt hQ) [x] [(gripP (hauR s) up b.nm).1] (fun _ => X) (fun _ => G) (0, 1) 0 rfl (fun k f hk => by
      cases k with
      | zero => simp at hk; rw [← hk]; exact hx
      | succ k => simp at hk) (fun k f hk => by
      cases k with
      | zero => simp at hk; rw [← hk]; exact hgv
      | succ k => simp at hk) ⟨hz.v, Int.mul_ne_zero hD (Int.ne_of_gt hQ), by simp⟩ d2
    simp only [List.length_cons, List.length_nil, sumN, Int.zero_add, Int.add_zero, Int.mul_one] at s1 s2
    exact ⟨s1, s2⟩
  have hb := balP_one (W := b.w) (G := G) (Q := Q) hbw.1 hQ g0 (w := (modesP s).1.map fun x => (dotV x [(b.w, 1)] (0, 1)).1) (p := (modesP s).1.map fun x => (dotV x [(gripP (hauR s) up b.nm).1] (0, 1)).1) (by simp) fun k x y hx hy => by
    rw [List.getElem?_map] at hx hy
    cases hm : (modesP s).1[k]? with
    | none => rw [hm] at hx; simp at hx
    | some v =>
      rw [hm] at hx hy
      simp only [Option.map_some, Option.some.injEq] at hx hy
      have hvm := List.mem_of_getElem? hm
      obtain ⟨z, X, D, hz, hD, hX⟩ := hml v hvm
      obtain ⟨a1, a2⟩ := hrel v hvm z X D hz hD hX
      rw [← hx, ← hy]
      exact ⟨X, D, hD, a1, a2⟩
  have hnz : ¬ nzI ((modesP s).1.map fun x => (dotV x [(gripP (hauR s) up b.nm).1] (0, 1)).1) < 0 ↔ movesB s ∧ G ≠ 0 := by
    rw [nzI_neg, Bool.not_eq_false, List.any_eq_true]
    constructor
    · rintro ⟨x, hx, h0⟩
      obtain ⟨v, hvm, rfl⟩ := List.mem_map.1 hx
      obtain ⟨z, X, D, hz, hD, hX⟩ := hml v hvm
      obtain ⟨_, a2⟩ := hrel v hvm z X D hz hD hX
      have h0 : (dotV v [(gripP (hauR s) up b.nm).1] (0, 1)).1.1 ≠ 0 := by simpa using h0
      have hXG : X * G ≠ 0 := fun e => h0 (a2.num.2 e)
      refine ⟨⟨z, by rw [← hz]; exact hvm, fun e => hXG ?_⟩, fun e => hXG (by rw [e, Int.mul_zero])⟩
      rw [hX.num.1 e, Int.zero_mul]
    · rintro ⟨⟨z, hzm, z0⟩, hG⟩
      refine ⟨_, List.mem_map.2 ⟨_, hzm, rfl⟩, ?_⟩
      obtain ⟨z', X, D, hz, hD, hX⟩ := hml _ hzm
      obtain ⟨_, a2⟩ := hrel _ hzm z' X D hz hD hX
      simp only [List.cons.injEq, and_true] at hz
      subst hz
      have : X * G ≠ 0 := Int.mul_ne_zero (fun e => z0 (hX.num.2 e)) hG
      have h0 := fun e => this (a2.num.1 e)
      simpa using h0
  rcases hb with ⟨b1, b2⟩ | ⟨b1, b2, b3⟩
  · refine .inr (.inl ⟨fun h => ?_, b2⟩)
    exact absurd b1 (hnz.2 ⟨h.2, by have := hpb.1 h.1; omega⟩)
  · rcases b3 with b3 | ⟨b3, b4⟩
    · exact .inl b3
    · exact .inr (.inr ⟨hpb.2 b2, (hnz.1 b1).1, b2, b3, b4, by first | rfl | trivial⟩)
end Go.Proofs.YtcppnmohgaobdaaGreat.T

namespace Go.Proofs.YtcppnmohgaobdaaGreat.T
open Go Go.RowKit Lin
theorem cells14_hd (l : List Hd) : (hdC l).all isCell = true := by
  induction l with
  | nil => rfl
  | cons x r ih => simp only [hdC, List.flatMap_cons, List.all_append, Bool.and_eq_true] at ih ⊢; exact ⟨rfl, ih⟩
set_option maxHeartbeats 1000000 in
theorem clone14_hd_ (x : Hd) (r : List Hd) (hl : r.length ≤ 1000) : PFresh Tryz.prog 28 [hds (x :: r)] 44 4 (r.length + 1) (hdC (x :: r)) := by
  refine PFresh.intro (plain_hd _) fun t => ACall.enter tab_ok Tryz.func28 rfl rfl Tryz.ntmps28 (by simp) ?_
  simp only [enterTM]
  have f2 : hdC (x :: r) = str x.b :: int x.p :: int x.n :: int x.d :: hdC r := rfl
  have hcl := cells14_hd r
  have hld := hdC_div (x :: r)
  have hll := hdC_len (x :: r)
  have f1 : hds (x :: r) = .sl 4 (str x.b :: int x.p :: int x.n :: int x.d :: hdC r) false := rfl
  rw [f2] at hld hll
  rw [f1, f2]
  simp only [List.length_cons] at hll hld
  ((refine wqa ?_))
  ((refine wqa ?_))
  ((refine wia ?_))
  ((refine wsa ?_))
  ((repeat refine AW_seq ?_); (refine AW_region_k tab_ok fun KR hKR => ?_); (repeat ((first | refine awOps_n rfl fun KK hKK => ?_ | refine awOps_g rfl rfl fun KK hKK => ?_ | refine awOps_gc rfl fun KK hKK => ?_); simp (disch := omega) only [bb, bt, zDs, zD, eqCells, simprocAttr, isSlice, hcl, hld]; refine hKK _ ?_; clear hKK KK)); (refine awOps_nil ?_); (refine hKR _ ?_); (try clear hKR KR); (repeat (with_reducible first | refine q1 ?_ | refine q2 ?_ | refine q3 ?_ | refine q4 ?_ | refine q5 ?_ | refine q6 ?_ | (refine q7 ?_ ?_; (focus (with_unfolding_all rfl))))))
  ((repeat refine AW_seq ?_); (refine wta ?_); simp (disch := omega) only [retQ, resD, oneD, rsv, rs, rsL, rsL_eq_map, List.map_map, bb, bt, zDs, zD, eqCells, simprocAttr, Tryz.results28])
  exact .inr ⟨0, t + 1, rfl, rfl⟩
theorem clone14_hd (l : List Hd) (h0 : 1 ≤ l.length) (hl : l.length ≤ 1000) : PFresh Tryz.prog 28 [hds l] 44 4 l.length (hdC l) := by
  cases l with
  | nil => simp at h0
  | cons x r => exact clone14_hd_ x r (by simp at hl; omega)
theorem cells14_rp (l : List Rp) : (rpC l).all isCell = true := by
  induction l with
  | nil => rfl
  | cons x r ih => simp only [rpC, List.flatMap_cons, List.all_append, Bool.and_eq_true] at ih ⊢; exact ⟨rfl, ih⟩
set_option maxHeartbeats 1000000 in
theorem clone14_rp_ (x : Rp) (r : List Rp) (hl : r.length ≤ 1000) : PFresh Tryz.prog 27 [rps (x :: r)] 40 3 (r.length + 1) (rpC (x :: r)) := by
  refine PFresh.intro (plain_rp _) fun t => ACall.enter tab_ok Tryz.func27 rfl rfl Tryz.ntmps27 (by simp) ?_
  simp only [enterTM]
  have f2 : rpC (x :: r) = str x.nm :: hds x.hs :: bool x.hl :: rpC r := rfl
  have hcl := cells14_rp r
  have hld := rpC_div (x :: r)
  have hll := rpC_len (x :: r)
  have f1 : rps (x :: r) = .sl 3 (str x.nm :: hds x.hs :: bool x.hl :: rpC r) false := rfl
  rw [f2] at hld hll
  rw [f1, f2]
  simp only [List.length_cons] at hll hld
  ((refine wqa ?_))
  ((refine wqa ?_))
  ((refine wia ?_))
  ((refine wsa ?_))
  ((repeat refine AW_seq ?_); (refine AW_region_k tab_ok fun KR hKR => ?_); (repeat ((first | refine awOps_n rfl fun KK hKK => ?_ | refine awOps_g rfl rfl fun KK hKK => ?_ | refine awOps_gc rfl fun KK hKK => ?_); simp (disch := omega) only [bb, bt, zDs, zD, eqCells, simprocAttr, isSlice, hcl, hld]; refine hKK _ ?_; clear hKK KK)); (refine awOps_nil ?_); (refine hKR _ ?_); (try clear hKR KR); (repeat (with_reducible first | refine q1 ?_ | refine q2 ?_ | refine q3 ?_ | refine q4 ?_ | refine q5 ?_ | refine q6 ?_ | (refine q7 ?_ ?_; (focus (with_unfolding_all rfl))))))
  ((repeat refine AW_seq ?_); (refine wta ?_); simp (disch := omega) only [retQ, resD, oneD, rsv, rs, rsL, rsL_eq_map, List.map_map, bb, bt, zDs, zD, eqCells, simprocAttr, Tryz.results27])
  exact .inr ⟨0, t + 1, rfl, rfl⟩
theorem clone14_rp (l : List Rp) (h0 : 1 ≤ l.length) (hl : l.length ≤ 1000) : PFresh Tryz.prog 27 [rps l] 40 3 l.length (rpC l) := by
  cases l with
  | nil => simp at h0
  | cons x r => exact clone14_rp_ x r (by simp at hl; omega)
theorem cells14_bk (l : List Bk) : (bkC l).all isCell = true := by
  induction l with
  | nil => rfl
  | cons x r ih => simp only [bkC, List.flatMap_cons, List.all_append, Bool.and_eq_true] at ih ⊢; exact ⟨rfl, ih⟩
set_option maxHeartbeats 1000000 in
theorem clone14_bk_ (x : Bk) (r : List Bk) (hl : r.length ≤ 1000) : PFresh Tryz.prog 26 [bks (x :: r)] 57 2 (r.length + 1) (bkC (x :: r)) := by
  refine PFresh.intro (plain_bk _) fun t => ACall.enter tab_ok Tryz.func26 rfl rfl Tryz.ntmps26 (by simp) ?_
  simp only [enterTM]
  have f2 : bkC (x :: r) = str x.nm :: int x.w :: bkC r := rfl
  have hcl := cells14_bk r
  have hld := bkC_div (x :: r)
  have hll := bkC_len (x :: r)
  have f1 : bks (x :: r) = .sl 2 (str x.nm :: int x.w :: bkC r) false := rfl
  rw [f2] at hld hll
  rw [f1, f2]
  simp only [List.length_cons] at hll hld
  ((refine wqa ?_))
  ((refine wqa ?_))
  ((refine wia ?_))
  ((refine wsa ?_))
  ((repeat refine AW_seq ?_); (refine AW_region_k tab_ok fun KR hKR => ?_); (repeat ((first | refine awOps_n rfl fun KK hKK => ?_ | refine awOps_g rfl rfl fun KK hKK => ?_ | refine awOps_gc rfl fun KK hKK => ?_); simp (disch := omega) only [bb, bt, zDs, zD, eqCells, simprocAttr, isSlice, hcl, hld]; refine hKK _ ?_; clear hKK KK)); (refine awOps_nil ?_); (refine hKR _ ?_); (try clear hKR KR); (repeat (with_reducible first | refine q1 ?_ | refine q2 ?_ | refine q3 ?_ | refine q4 ?_ | refine q5 ?_ | refine q6 ?_ | (refine q7 ?_ ?_; (focus (with_unfolding_all rfl))))))
  ((repeat refine AW_seq ?_); (refine wta ?_); simp (disch := omega) only [retQ, resD, oneD, rsv, rs, rsL, rsL_eq_map, List.map_map, bb, bt, zDs, zD, eqCells, simprocAttr, Tryz.results26])
  exact .inr ⟨0, t + 1, rfl, rfl⟩
theorem clone14_bk (l : List Bk) (h0 : 1 ≤ l.length) (hl : l.length ≤ 1000) : PFresh Tryz.prog 26 [bks l] 57 2 l.length (bkC l) := by
  cases l with
  | nil => simp at h0
  | cons x r => exact clone14_bk_ x r (by simp at hl; omega)
def effP (s : Sy) : (Int × Int) × Int := if (forceP s true).2 = 0 then (if (forceP (cleanS s) true).2 = 0 then divP (forceP (cleanS s) true).1 (forceP s true).1 else ((0, 0), (forceP (cleanS s) true).2)) else ((0, 0), (forceP s true).2)
def clR (l : List Rp) (k : Nat) : List Rp := (l.take k).map cleanR ++ l.drop k
def clH (l : List Hd) (k : Nat) : List Hd := (l.take k).map cleanH ++ l.drop k
theorem clR_len (l : List Rp) (k : Nat) (h : k ≤ l.length) : (clR l k).length = l.length := by simp [clR]; omega
theorem clH_len (l : List Hd) (k : Nat) (h : k ≤ l.length) : (clH l k).length = l.length := by simp [clH]; omega
theorem clR_zero (l : List Rp) : clR l 0 = l := by simp [clR]
theorem clH_zero (l : List Hd) : clH l 0 = l := by simp [clH]
theorem clR_end (l : List Rp) : clR l l.length = l.map cleanR := by simp [clR]
theorem clH_end (l : List Hd) : clH l l.length = l.map cleanH := by simp [clH]
theorem hdC_ls {l : List Hd} {i : Nat} {h : Hd} (hx : l[i]? = some h) (a b : Int) : (hdC l).take (i * 4 + 2) ++ int a :: int b :: (hdC l).drop (i * 4 + 4) = hdC (l.set i ⟨h.b, h.p, a, b⟩) := by
  have h1 := hdC_set l i ⟨h.b, h.p, a, b⟩ (List.getElem?_eq_some_iff.1 hx).1
  have h2 := hdC_read l i h hx
  have h3 : ((hdC l).drop (i * 4)).take 2 = [str h.b, int h.p] := by
    have := congrArg (List.take 2) h2
    rw [List.take_take] at this
    simpa using this
  rw [← h1, List.take_add, h3]
  simp
theorem rpC_hs {l : List Rp} {i : Nat} {r : Rp} (h : l[i]? = some r) (hs : List Hd) : (rpC l).set (i * 3 + 1) (hds hs) = rpC (l.set i ⟨r.nm, hs, r.hl⟩) := by
  have h1 := rpC_set l i ⟨r.nm, hs, r.hl⟩ (List.getElem?_eq_some_iff.1 h).1
  have hl := rpC_len l
  have hi := (List.getElem?_eq_some_iff.1 h).1
  have h2 := rpC_read l i r h
  rw [← h1]
  have e : rpC l = (rpC l).take (i * 3) ++ ([str r.nm, hds r.hs, bool r.hl] ++ (rpC l).drop (i * 3 + 3)) := by
    have : [str r.nm, hds r.hs, bool r.hl] = ((rpC l).drop (i * 3)).take 3 := h2.symm
    rw [this, ← List.drop_drop, List.take_append_drop, List.take_append_drop]
  have hlt : ((rpC l).take (i * 3)).length = i * 3 := by simp; omega
  conv => lhs; rw [e]
  rw [List.set_append_right _ _ (by omega), hlt, show i * 3 + 1 - i * 3 = 1 by omega]
  simp
theorem clR_at {h : List Rp} {x : Rp} {k : Nat} (hx : h[k]? = some x) : (clR h k)[k]? = some x := by
  have hk := (List.getElem?_eq_some_iff.1 hx).1
  unfold clR
  rw [List.getElem?_append_right (by simp; omega)]
  simp only [List.length_map, List.length_take]
  rw [List.getElem?_drop, Nat.min_eq_left (by omega), Nat.sub_self, Nat.add_zero, hx]
theorem clR_set {h : List Rp} {x : Rp} {k : Nat} (hx : h[k]? = some x) : (clR h k).set k (cleanR x) = clR h (k + 1) := by
  have hk := (List.getElem?_eq_some_iff.1 hx).1
  have hl : ((h.take k).map cleanR).length = k := by simp; omega
  unfold clR
  rw [List.set_append_right _ _ (by omega), hl, Nat.sub_self, List.take_add_one, hx, Option.toList_some, List.map_append, List.append_assoc, List.drop_eq_getElem_cons hk]
  rfl
theorem clH_at {h : List Hd} {x : Hd} {k : Nat} (hx : h[k]? = some x) : (clH h k)[k]? = some x := by
  have hk := (List.getElem?_eq_some_iff.1 hx).1
  unfold clH
  rw [List.getElem?_append_right (by simp; omega)]
  simp only [List.length_map, List.length_take]
  rw [List.getElem?_drop, Nat.min_eq_left (by omega), Nat.sub_self, Nat.add_zero, hx]
theorem clH_set {h : List Hd} {x : Hd} {k : Nat} (hx : h[k]? = some x) : (clH h k).set k (cleanH x) = clH h (k + 1) := by
  have hk := (List.getElem?_eq_some_iff.1 hx).1
  have hl : ((h.take k).map cleanH).length = k := by simp; omega
  unfold clH
  rw [List.set_append_right _ _ (by omega), hl, Nat.sub_self, List.take_add_one, hx, Option.toList_some, List.map_append, List.append_assoc, List.drop_eq_getElem_cons hk]
  rfl
theorem force_valid {s : Sy} {up : Bool} (h : (forceP s up).2 = 0) : validS s = true := by
  cases hv : validS s
  · have hg : givL s = 1 := by unfold givL; rw [if_neg (by simp [hv])]
    have hf : (firstP s up).2.2 = 1 := by unfold firstP; rw [if_neg (by rw [hg]; decide), hg]
    unfold forceP at h
    rw [if_neg (by rw [hf]; decide), hf] at h
    cases h
  · rfl
theorem clean_fits {s : Sy} (hf : Fits s) : Fits (cleanS s) := ⟨hf.nb, by simpa [cleanS] using hf.nr, hf.sb, fun r hr => by
  obtain ⟨q, hq, rfl⟩ := List.mem_map.1 hr
  exact ⟨(hf.sr q hq).1, by simpa [cleanR] using (hf.sr q hq).2⟩⟩
set_option maxRecDepth 100000 in
set_option maxHeartbeats 16000000 in
theorem eff14 (s : Sy) (hf : Fits s) : PRet Tryz.prog 11 [syD s] (fe (effP s)) := by
  refine PRet.intro 1 fun t => ACall.enter tab_ok Tryz.func11 rfl rfl Tryz.ntmps11 (by simp) ?_
  simp only [enterTM]
  have hR := raise14 s hf
  have hC := raise14 (cleanS s) (clean_fits hf)
  unfold effP
  by_cases h0 : (forceP s true).2 = 0
  rotate_left 1
  · have e1 : ((forceP s true).2 != 0) = true := by simpa using h0
    rw [if_neg h0]
    generalize forceP s true = X at *
    ((refine ggb1 e1 hR ?_))
    ((repeat refine AW_seq ?_); (refine wta ?_); simp (disch := omega) only [retQ, resD, oneD, rsv, rs, rsL, rsL_eq_map, List.map_map, bb, bt, zDs, zD, eqCells, simprocAttr, Tryz.results11])
  rw [if_pos h0]
  have e1 : ((forceP s true).2 != 0) = false := by simpa using h0
  have hv := force_valid h0
  have ok := validS_ok hv
  have hb6 := ok.b6
  have hr6 := ok.r6
  have hdr := rpC_div s.rs
  have hlr := rpC_len s.rs
  have hlb := bkC_len s.bs
  generalize forceP s true = X at *
  ((refine ggb1 e1 hR ?_))
  ((repeat refine AW_seq ?_); (refine AW_drawn_k tab_ok follows_mixed 3 fun KR hKR => ?_); simp only [List.replicate_succ, List.replicate_zero, List.append_nil, List.nil_append, List.cons_append, List.length_cons, List.length_nil, Nat.reduceAdd])
  ((refine wda ?_))
  ((first | refine awD_nc fun KK hKK => ?_ | refine awD_gc rfl fun KK hKK => ?_); simp (disch := omega) only [bb, bt, zDs, zD, eqCells, simprocAttr, goCDS, callDS_fn, argsZ, argsD, ufa, uf]; refine PGive.fresh (3) (clone14_bk s.bs ok.b1 (by omega)) ?_ ?_; (focus (first | omega | (simp (disch := omega) only [List.length_cons, List.length_nil, List.length_append]; done) | (simp (disch := omega) only [List.length_cons, List.length_nil, List.length_append]; omega))); simp (disch := omega) only [bb, bt, zDs, zD, eqCells, simprocAttr, afterDS]; refine hKK _ _ _ ?_; clear hKK KK)
  ((refine wda ?_))
  ((first | refine awD_nc fun KK hKK => ?_ | refine awD_gc rfl fun KK hKK => ?_); simp (disch := omega) only [bb, bt, zDs, zD, eqCells, simprocAttr, goCDS, callDS_fn, argsZ, argsD, ufa, uf]; refine PGive.fresh (4) (clone14_rp s.rs ok.r1 (by omega)) ?_ ?_; (focus (first | omega | (simp (disch := omega) only [List.length_cons, List.length_nil, List.length_append]; done) | (simp (disch := omega) only [List.length_cons, List.length_nil, List.length_append]; omega))); simp (disch := omega) only [bb, bt, zDs, zD, eqCells, simprocAttr, afterDS]; refine hKK _ _ _ ?_; clear hKK KK)
  ((refine wda ?_))
  ((refine awD_nil ?_); simp only [List.reverse_cons, List.reverse_nil, List.nil_append, List.cons_append]; (refine hKR _ _ (by first | rfl | kernel_rfl) ?_); (try clear hKR KR); (repeat (with_reducible first | refine q1 ?_ | refine q2 ?_ | refine q3 ?_ | refine q4 ?_ | refine q5 ?_ | refine q6 ?_ | (refine q7 ?_ ?_; (focus (with_unfolding_all rfl))))))
  have hfb : List.take (s.bs.length * 2) (bkC s.bs) = bkC s.bs := List.take_of_length_le (by omega)
  ((refine AW.freeze (3) (by first | rfl | (simp only [setH, List.getElem?_cons_zero, List.getElem?_cons_succ, fz_bk, fz_rp, hfb, hlb, Nat.le_refl]; done)) ?_); simp (disch := omega) only [fzT, fz, fzL, fzL_ints, fzL_mat, fzH, fzB, eq_self, bb, bt, zDs, zD, eqCells, simprocAttr, fz_bk, fz_rp, hfb, hlb, Nat.le_refl])
  ((refine gga0 ?_))
  have hw1 := whole14 1
  have hz := clR_zero s.rs
  ((repeat refine AW_seq ?_))
  refine AW_mid (fun x : Nat => ⟨[(2, .ptr 1 (t + 1 + 1) 0), (4, .ptr 2 (t + 1 + 1 + 1) 0), (6, .ptr 5 (t + 1 + 1 + 1 + 1) 0)], [none, some ⟨27, t + 1 + 1, [int 0, int 0]⟩, some ⟨27, t + 1 + 1 + 1, [int X.1.1, int X.1.2]⟩, none, some ⟨40, t + 1 + 1 + 1 + 1, rpC (clR s.rs s.rs.length)⟩, some ⟨25, t + 1 + 1 + 1 + 1, [bks s.bs, .own 3 4 (t + 1 + 1 + 1 + 1) 0 s.rs.length]⟩], x⟩) (fun _ => True) ?_ ?_
  · refine AW_block ?_
    refine AW_loop_w (fun x : Nat × Nat => ⟨[(2, .ptr 1 (t + 1 + 1) 0), (4, .ptr 2 (t + 1 + 1 + 1) 0), (6, .ptr 5 (t + 1 + 1 + 1 + 1) 0), (29, .own 3 4 (t + 1 + 1 + 1 + 1) 0 s.rs.length), (30, int s.rs.length), (31, int x.1)], [none, some ⟨27, t + 1 + 1, [int 0, int 0]⟩, some ⟨27, t + 1 + 1 + 1, [int X.1.1, int X.1.2]⟩, none, some ⟨40, t + 1 + 1 + 1 + 1, rpC (clR s.rs x.1)⟩, some ⟨25, t + 1 + 1 + 1 + 1, [bks s.bs, .own 3 4 (t + 1 + 1 + 1 + 1) 0 s.rs.length]⟩], x.2⟩) (fun x => s.rs.length - x.1) (fun x => x.1 ≤ s.rs.length) (0, t + 1 + 1 + 1 + 1) (Nat.zero_le _) (by (simp (disch := omega) only [StLe, tmLe, hpLe_refl, hpLe, bl, bb, bt, zDs, zD, eqCells, simprocAttr, hz])) ?_
    rintro ⟨k, tt⟩ hk
    simp only at hk
    by_cases hlt : k < s.rs.length
    · obtain ⟨r, hr⟩ : ∃ y, s.rs[k]? = some y := ⟨_, List.getElem?_eq_getElem hlt⟩
      have hat := clR_at hr
      have hra := rpC_read _ k r hat
      have hlk := rpC_len (clR s.rs k)
      rw [clR_len _ _ hk] at hlk
      have hhold := ok.holds r (List.mem_of_getElem? hr)
      have hset := rpC_hs hat (r.hs.map cleanH)
      have hnx : rpC ((clR s.rs k).set k ⟨r.nm, r.hs.map cleanH, r.hl⟩) = rpC (clR s.rs (k + 1)) := by rw [← clR_set hr]; rfl
      rw [hnx] at hset
      have hz2 := clH_zero r.hs
      have hdh := hdC_div r.hs
      ((refine ggb0 (F := _∧_) ⟨@Int.ofNat_lt, hlt⟩ ?_))
      ((repeat refine AW_seq ?_))
      refine AW_block ?_
      ((refine ggb0 (F := _∧_∧_) ⟨hlt, hlk, hra⟩ ?_))
      intro KR hKR
      ((first | refine awOps_nc fun KK hKK => ?_ | refine awOps_gc rfl fun KK hKK => ?_); simp (disch := omega) only [bb, bt, zDs, zD, eqCells, simprocAttr, goC, callO_fn, argsD, and_self]; refine ACall.of_fresh (clone14_hd r.hs (by omega) (by omega)) (by first | (simp only [List.map_cons, List.map_nil, List.append_nil, List.nil_append, List.cons_append, ufa, uf]; done) | rfl) ?_; simp (disch := omega) only [bb, bt, zDs, zD, eqCells, simprocAttr, afterC]; refine hKK _ ?_; clear hKK KK)
      ((refine wra ?_)); ((refine wea ?_); (try clear hKR KR))
      ((refine gga0 ?_))
      ((repeat refine AW_seq ?_))
      refine AW_mid (fun x : Nat => ⟨[(2, .ptr 1 (t + 1 + 1) 0), (4, .ptr 2 (t + 1 + 1 + 1) 0), (6, .ptr 5 (t + 1 + 1 + 1 + 1) 0), (29, .own 3 4 (t + 1 + 1 + 1 + 1) 0 s.rs.length), (30, int s.rs.length), (31, int k), (7, int k), (9, .own 4 7 (tt + 1 + 1) 0 r.hs.length)], [none, some ⟨27, t + 1 + 1, [int 0, int 0]⟩, some ⟨27, t + 1 + 1 + 1, [int X.1.1, int X.1.2]⟩, none, some ⟨40, t + 1 + 1 + 1 + 1, rpC (clR s.rs k)⟩, some ⟨25, t + 1 + 1 + 1 + 1, [bks s.bs, .own 3 4 (t + 1 + 1 + 1 + 1) 0 s.rs.length]⟩, none, some ⟨44, tt + 1 + 1, hdC (clH r.hs r.hs.length)⟩], x⟩) (fun _ => True) ?_ ?_
      · refine AW_block ?_
        refine AW_loop_w (fun x : Nat × Nat => ⟨[(2, .ptr 1 (t + 1 + 1) 0), (4, .ptr 2 (t + 1 + 1 + 1) 0), (6, .ptr 5 (t + 1 + 1 + 1 + 1) 0), (29, .own 3 4 (t + 1 + 1 + 1 + 1) 0 s.rs.length), (30, int s.rs.length), (31, int k), (7, int k), (9, .own 4 7 (tt + 1 + 1) 0 r.hs.length), (40, int r.hs.length), (41, int x.1)], [none, some ⟨27, t + 1 + 1, [int 0, int 0]⟩, some ⟨27, t + 1 + 1 + 1, [int X.1.1, int X.1.2]⟩, none, some ⟨40, t + 1 + 1 + 1 + 1, rpC (clR s.rs k)⟩, some ⟨25, t + 1 + 1 + 1 + 1, [bks s.bs, .own 3 4 (t + 1 + 1 + 1 + 1) 0 s.rs.length]⟩, none, some ⟨44, tt + 1 + 1, hdC (clH r.hs x.1)⟩], x.2⟩) (fun x => r.hs.length - x.1) (fun x => x.1 ≤ r.hs.length) (0, tt + 1 + 1) (Nat.zero_le _) (by (simp (disch := omega) only [StLe, tmLe, hpLe_refl, hpLe, bl, bb, bt, zDs, zD, eqCells, simprocAttr, hz2])) ?_
        rintro ⟨j, t2⟩ hj
        simp only at hj
        by_cases hlj : j < r.hs.length
        · obtain ⟨h, hh⟩ : ∃ y, r.hs[j]? = some y := ⟨_, List.getElem?_eq_getElem hlj⟩
          have hl4 := hdC_len (clH r.hs j)
          rw [clH_len _ _ hj] at hl4
          have hs4 := hdC_ls (clH_at hh) 1 1
          have hn4 : hdC ((clH r.hs j).set j ⟨h.b, h.p, 1, 1⟩) = hdC (clH r.hs (j + 1)) := by rw [← clH_set hh]; rfl
          rw [hn4] at hs4
          have hle4 : j * 4 + 4 ≤ r.hs.length * 4 := by omega
          ((refine ggb0 (F := _∧_) ⟨@Int.ofNat_lt, hlj⟩ ?_))
          ((repeat refine AW_seq ?_))
          refine AW_block ?_
          ((refine ggb1 (F := _∧_∧_∧_) ⟨hlj, hl4, hs4, hle4⟩ hw1 ?_))
          refine ⟨(j + 1, t2), hlj, by show r.hs.length - (j + 1) < r.hs.length - j; omega, ?_⟩
          (simp (disch := omega) only [StLe, tmLe, hpLe_refl, hpLe, bl, bb, bt, zDs, zD, eqCells, simprocAttr])
        · have hje : j = r.hs.length := by omega
          subst hje
          ((refine wqb @Int.lt_irrefl ?_))
          ((refine wia ?_))
          ((refine wxa ?_))
          exact ⟨t2, trivial, by (simp (disch := omega) only [StLe, tmLe, hpLe_refl, hpLe, bl, bb, bt, zDs, zD, eqCells, simprocAttr])⟩
      rintro t2 -
      have hfh : List.take (r.hs.length * 4) (hdC (clH r.hs r.hs.length)) = hdC (clH r.hs r.hs.length) := List.take_of_length_le (by rw [hdC_len, clH_len _ _ (Nat.le_refl _)]; exact Nat.le_refl _)
      have hlh : (hdC (clH r.hs r.hs.length)).length = r.hs.length * 4 := by rw [hdC_len, clH_len _ _ (Nat.le_refl _)]
      rw [clH_end] at hfh hlh ⊢
      ((refine AW.freeze (7) (by first | rfl | (simp only [setH, List.getElem?_cons_zero, List.getElem?_cons_succ, fz_bk, fz_rp, fz_hd, hfh, hlh, Nat.le_refl]; done)) ?_); simp (disch := omega) only [fzT, fz, fzL, fzL_ints, fzL_mat, fzH, fzB, eq_self, bb, bt, zDs, zD, eqCells, simprocAttr, fz_bk, fz_rp, fz_hd, hfh, hlh, Nat.le_refl])
      ((refine ggb0 (F := _∧_∧_) ⟨hlt, hlk, hset⟩ ?_))
      refine ⟨(k + 1, t2), hlt, by show s.rs.length - (k + 1) < s.rs.length - k; omega, ?_⟩
      (simp (disch := omega) only [StLe, tmLe, hpLe_refl, hpLe, bl, bb, bt, zDs, zD, eqCells, simprocAttr])
    · have hke : k = s.rs.length := by omega
      subst hke
      ((refine wqb @Int.lt_irrefl ?_))
      ((refine wia ?_))
      ((refine wxa ?_))
      exact ⟨tt, trivial, by (simp (disch := omega) only [StLe, tmLe, hpLe_refl, hpLe, bl, bb, bt, zDs, zD, eqCells, simprocAttr])⟩
  rintro tt -
  rw [clR_end]
  have hlc := rpC_len (s.rs.map cleanR)
  rw [List.length_map] at hlc
  have hfc : List.take (s.rs.length * 3) (rpC (s.rs.map cleanR)) = rpC (s.rs.map cleanR) := List.take_of_length_le (by omega)
  ((refine AW.freeze (4) (by first | rfl | (simp only [setH, List.getElem?_cons_zero, List.getElem?_cons_succ, fz_bk, fz_rp, hfc, hlc, Nat.le_refl]; done)) ?_); simp (disch := omega) only [fzT, fz, fzL, fzL_ints, fzL_mat, fzH, fzB, eq_self, bb, bt, zDs, zD, eqCells, simprocAttr, fz_bk, fz_rp, hfc, hlc, Nat.le_refl])
  generalize forceP (cleanS s) true = Y at *
  have hC : PRet Tryz.prog 8 [.agg [bks s.bs, rps (s.rs.map cleanR)]] (fe Y) := hC
  have hD := rDiv Y.1 X.1
  by_cases hy : Y.2 = 0
  rotate_left 1
  · have e2 : (Y.2 != 0) = true := by simpa using hy
    rw [if_neg hy]
    ((refine ggb1 e2 hC ?_))
    ((repeat refine AW_seq ?_); (refine wta ?_); simp (disch := omega) only [retQ, resD, oneD, rsv, rs, rsL, rsL_eq_map, List.map_map, bb, bt, zDs, zD, eqCells, simprocAttr, Tryz.results11])
  have e2 : (Y.2 != 0) = false := by simpa using hy
  rw [if_pos hy]
  generalize divP Y.1 X.1 = Z at *
  ((refine ggb2 e2 hC hD ?_))
  ((repeat refine AW_seq ?_); (refine wta ?_); simp (disch := omega) only [retQ, resD, oneD, rsv, rs, rsL, rsL_eq_map, List.map_map, bb, bt, zDs, zD, eqCells, simprocAttr, Tryz.results11])
end Go.Proofs.YtcppnmohgaobdaaGreat.T

namespace Go.Proofs.YtcppnmohgaobdaaGreat.T
open Go Go.RowKit Lin
theorem force_one {s : Sy} {b : Bk} (o : One s b) (up : Bool) (hg : givL s = 0) {P : Nat → Int} {Q : Int} (hQ : 0 < Q) (hP : ∀ j, j + 1 < (hauR s).hs.length → Val (facK (hauR s).hs up j) (P j) Q) (hpos : ∀ j, j + 1 < (hauR s).hs.length → 0 < P j) : (forceP s up).2 = 5 ∨ (¬ (pullsB s b ∧ movesB s) ∧ ((forceP s up).2 = 21 ∨ (forceP s up).2 = 22)) ∨ (pullsB s b ∧ movesB s ∧ 0 < gripW P (hauR s).hs.length b.nm (hauR s).hs 0 ∧ (forceP s up).2 = 0 ∧ Val (forceP s up).1 (b.w * P ((hauR s).hs.length - 2)) (gripW P (hauR s).hs.length b.nm (hauR s).hs 0)) := by
  obtain ⟨hv, hx0, _⟩ := givL_inv hg
  have hr := right_of (validS_ok hv) (hauR_mem hx0).1
  obtain ⟨n2, n10⟩ := rightR_len hr
  rcases first_one o up hg hQ hP hpos with h | ⟨h0, h⟩ | ⟨a1, a2, a3, a4, a5, a6⟩
  · left
    unfold forceP
    rw [if_neg (by omega)]
    exact h
  · right; left
    unfold forceP
    rw [if_neg (by omega)]
    exact ⟨h0, h⟩
  · have hl : (firstP s up).2.1.getD ((firstP s up).2.1.length - 1) (0, 0) = facK (hauR s).hs up ((hauR s).hs.length - 2) := by
      rw [a6, facL_len, List.getD_eq_getElem?_getD, facL_at _ up (by omega)]
      rw [show (hauR s).hs.length - 1 - 1 = (hauR s).hs.length - 2 by omega]
      rfl
    unfold forceP
    rw [if_pos a4, hl]
    have hp := hP ((hauR s).hs.length - 2) (by omega)
    rcases mulP_e5 a5.v hp.v with k | k
    · refine .inr (.inr ⟨a1, a2, a3, k, ?_⟩)
      exact (a5.mulP hp k).to (Int.ne_of_gt a3) (by ac_rfl)
    · exact .inl k
theorem force_giv {s : Sy} {up : Bool} (h : (forceP s up).2 = 0) : givL s = 0 := by
  unfold forceP at h
  by_cases h0 : (firstP s up).2.2 = 0
  · exact (first_inv h0).1
  · rw [if_neg h0] at h
    exact absurd h h0
theorem force_err {s : Sy} {b : Bk} (o : One s b) (up : Bool) : (forceP s up).2 ≠ 13 ∧ (forceP s up).2 ≠ 17 := by
  by_cases hg : givL s = 0
  · obtain ⟨hv, hx0, _⟩ := givL_inv hg
    have hr := right_of (validS_ok hv) (hauR_mem hx0).1
    obtain ⟨P, Q, hQ, hP, hf⟩ := fam_of hr up
    rcases force_one o up hg hQ hP hf.pos with h | ⟨_, h⟩ | ⟨_, _, _, h, _⟩ <;> omega
  · have e : (forceP s up).2 = givL s := by
      have : firstP s up = ((0, 0), [], givL s) := by unfold firstP; rw [if_neg hg]
      unfold forceP
      rw [this, if_neg hg]
    rw [e]
    unfold givL
    split
    · split
      · decide
      · split <;> decide
    · decide
def sk (h : Hd) : ByteArray × Int := (h.b, h.p)
theorem gripW_sk {P : Nat → Int} {n : Nat} {nm : ByteArray} : ∀ (hs ks : List Hd) (i : Nat), hs.map sk = ks.map sk → gripW P n nm hs i = gripW P n nm ks i
  | [], [], _, _ => rfl
  | [], _ :: _, _, h => by simp at h
  | _ :: _, [], _, h => by simp at h
  | h :: l, k :: m, i, e => by
    simp only [List.map_cons, List.cons.injEq, sk, Prod.mk.injEq] at e
    rw [gripW_cons, gripW_cons, gripW_sk l m (i + 1) e.2, e.1.1, e.1.2]
theorem force_le {s t : Sy} {b : Bk} (o : One s b) (o' : One t b) (up up' : Bool) (hs : givL s = 0) (ht : givL t = 0) (hk : (hauR t).hs.map sk = (hauR s).hs.map sk) (hle : ∀ j, 1 ≤ j → j + 1 < (hauR s).hs.length → aS up (hauR s).hs j * cS up' (hauR t).hs j ≤ aS up' (hauR t).hs j * cS up (hauR s).hs j) (h1 : (forceP s up).2 = 0) (h2 : (forceP t up').2 = 0) : leF (forceP s up).1 (forceP t up').1 := by
  have hl : (hauR t).hs.length = (hauR s).hs.length := by have := congrArg List.length hk; simpa using this
  obtain ⟨hv, hx0, _⟩ := givL_inv hs
  obtain ⟨hv', hx0', _⟩ := givL_inv ht
  have ok := validS_ok hv
  have hrm := (hauR_mem hx0).1
  have hr := right_of ok hrm
  have hr' := right_of (validS_ok hv') (hauR_mem hx0').1
  obtain ⟨n2, n10⟩ := rightR_len hr
  obtain ⟨P, Q, hQ, hP, hf⟩ := fam_of hr up
  obtain ⟨P', Q', hQ', hP', hf'⟩ := fam_of hr' up'
  have k1 := force_one o up hs hQ hP hf.pos
  have k2 := force_one o' up' ht hQ' hP' hf'.pos
  rw [hl, gripW_sk _ _ 0 hk] at k2
  rw [hl] at hf'
  have hc : ∀ j, j + 1 < (hauR s).hs.length → P' j * P ((hauR s).hs.length - 2) ≤ P j * P' ((hauR s).hs.length - 2) := fun j hj => fam_le hf hf' hle ((hauR s).hs.length - 2 - j) j (by omega)
  have hg := gripW_le (nm := b.nm) n2 hc (hauR s).hs 0 (by omega) fun h hh => ⟨o.up _ hrm h hh, (ok.pulls _ hrm h hh).2⟩
  rcases k1 with k1 | ⟨_, k1⟩ | ⟨_, _, k0, _, k1⟩
  · omega
  · omega
  rcases k2 with k2 | ⟨_, k2⟩ | ⟨_, _, k3, _, k2⟩
  · omega
  · omega
  rw [k1.leF k2 k0 k3, Int.mul_assoc, Int.mul_assoc]
  refine Int.mul_le_mul_of_nonneg_left ?_ (ok.wts b (by rw [o.bs]; simp)).1
  rw [Int.mul_comm, Int.mul_comm (P' _)]
  exact hg
theorem loss_at {r : Rp} (hr : rightR r = true) (j : Nat) : 0 < (lossAt r.hs j).2 ∧ (lossAt r.hs j).2 ≤ (lossAt r.hs j).1 := by
  have h := lossAt_fb hr j
  refine ⟨by have := h.d1; omega, ?_⟩
  unfold lossAt
  split
  · rename_i x hx
    have := okLoss_lossy (rightR_at hr hx)
    unfold lossy at this
    simp only [Bool.and_eq_true, decide_eq_true_eq] at this
    exact this.1.2
  · exact Int.le_refl _
theorem down_up {s : Sy} {b : Bk} (o : One s b) (h1 : (forceP s false).2 = 0) (h2 : (forceP s true).2 = 0) : leF (forceP s false).1 (forceP s true).1 := by
  have hg := force_giv h1
  obtain ⟨hv, hx0, _⟩ := givL_inv hg
  have hr := right_of (validS_ok hv) (hauR_mem hx0).1
  refine force_le o o false true hg hg rfl (fun j _ _ => ?_) h1 h2
  obtain ⟨a, b⟩ := loss_at hr j
  show (lossAt _ j).2 * (lossAt _ j).2 ≤ (lossAt _ j).1 * (lossAt _ j).1
  exact Int.mul_le_mul b b (by omega) (by omega)
theorem hold_err {s : Sy} {b : Bk} (o : One s b) : (holdP s).2.2 ≠ 13 ∧ (holdP s).2.2 ≠ 17 := by
  have h1 := force_err o true
  have h2 := force_err o false
  unfold holdP
  by_cases k1 : (forceP s true).2 = 0
  rotate_left 1
  · rw [if_neg k1]; exact h1
  rw [if_pos k1]
  by_cases k2 : (forceP s false).2 = 0
  rotate_left 1
  · rw [if_neg k2]; exact h2
  rw [if_pos k2, if_neg]
  · exact ⟨show (0 : Int) ≠ 13 by decide, show (0 : Int) ≠ 17 by decide⟩
  · have := down_up o k2 k1
    have := cmp_ge.2 this
    omega
theorem One.clean {s : Sy} {b : Bk} (o : One s b) : One (cleanS s) b := by
  refine ⟨validS_iff.2 (validS_iff.1 o.v).clean, o.bs, fun r hr h hh => ?_⟩
  obtain ⟨q, hq, rfl⟩ := List.mem_map.1 hr
  obtain ⟨k, hk, rfl⟩ := List.mem_map.1 hh
  exact o.up q hq k hk
theorem sk_clean (hs : List Hd) : (hs.map cleanH).map sk = hs.map sk := by
  rw [List.map_map]
  rfl
theorem order_mid {s : Sy} {b : Bk} (o : One s b) (h0 : (forceP s false).2 = 0) (h1 : (forceP (cleanS s) true).2 = 0) : leF (forceP s false).1 (forceP (cleanS s) true).1 := by
  have hg := force_giv h0
  obtain ⟨hv, hx0, _⟩ := givL_inv hg
  have hr := right_of (validS_ok hv) (hauR_mem hx0).1
  have hc : (hauR (cleanS s)).hs = (hauR s).hs.map cleanH := by rw [hauR_clean]; rfl
  refine force_le o o.clean false true hg (force_giv h1) (by rw [hc, sk_clean]) (fun j _ _ => ?_) h0 h1
  obtain ⟨a, b⟩ := loss_at hr j
  show (lossAt _ j).2 * (lossAt _ j).2 ≤ (lossAt _ j).1 * (lossAt _ j).1
  rw [hc, lossAt_clean]
  simp only [Int.mul_one, Int.one_mul]
  exact b
theorem order_top {s : Sy} {b : Bk} (o : One s b) (h0 : (forceP s true).2 = 0) (h1 : (forceP (cleanS s) true).2 = 0) : leF (forceP (cleanS s) true).1 (forceP s true).1 := by
  have hg := force_giv h0
  obtain ⟨hv, hx0, _⟩ := givL_inv hg
  have hr := right_of (validS_ok hv) (hauR_mem hx0).1
  have hc : (hauR (cleanS s)).hs = (hauR s).hs.map cleanH := by rw [hauR_clean]; rfl
  refine force_le o.clean o true true (force_giv h1) hg (by rw [hc, sk_clean]) (fun j _ _ => ?_) h1 h0
  obtain ⟨a, b⟩ := loss_at hr j
  show (lossAt _ j).1 * (lossAt _ j).2 ≤ (lossAt _ j).1 * (lossAt _ j).2
  rw [hc, lossAt_clean]
  simp only [Int.mul_one, Int.one_mul]
  exact b
theorem force_nn {s : Sy} {b : Bk} (o : One s b) {up : Bool} (h0 : (forceP s up).2 = 0) : 0 ≤ (forceP s up).1.1 := by
  have hg := force_giv h0
  obtain ⟨hv, hx0, _⟩ := givL_inv hg
  have ok := validS_ok hv
  have hr := right_of ok (hauR_mem hx0).1
  obtain ⟨n2, _⟩ := rightR_len hr
  obtain ⟨P, Q, hQ, hP, hf⟩ := fam_of hr up
  rcases force_one o up hg hQ hP hf.pos with k | ⟨_, k⟩ | ⟨_, _, k0, _, k⟩
  · omega
  · omega
  have e := k.e
  have d1 := (fr_bounds k.v).1
  have hp := hf.pos ((hauR s).hs.length - 2) (by omega)
  have hw := (ok.wts b (by rw [o.bs]; simp)).1
  have a2 : 0 ≤ b.w * P ((hauR s).hs.length - 2) * (forceP s up).1.2 := Int.mul_nonneg (Int.mul_nonneg hw (by omega)) (by omega)
  refine Int.not_lt.1 fun hlt => ?_
  have := Int.mul_neg_of_neg_of_pos hlt k0
  omega
theorem eff_le {s : Sy} {b : Bk} (o : One s b) (h : (effP s).2 = 0) : vfrac (effP s).1.1 (effP s).1.2 = true ∧ leF (effP s).1 (1, 1) := by
  unfold effP at h ⊢
  by_cases k1 : (forceP s true).2 = 0
  rotate_left 1
  · rw [if_neg k1] at h; exact absurd h k1
  rw [if_pos k1] at h ⊢
  by_cases k2 : (forceP (cleanS s) true).2 = 0
  rotate_left 1
  · rw [if_neg k2] at h; exact absurd h k2
  rw [if_pos k2] at h ⊢
  have hle := order_top o k1 k2
  have hn := force_nn o k1
  obtain ⟨v1, v2, v3, _⟩ := divP_val h
  have hq := (Val.self v1).divP (Val.self v2) h
  have d1 := (fr_bounds v1).1
  refine ⟨hq.v, ?_⟩
  have h1 : Val (1, 1) 1 1 := Val.one (by omega)
  rw [hq.leF h1 (Int.mul_pos (by omega) (by omega)) Int.one_pos, Int.mul_one, Int.one_mul]
  unfold leF at hle
  rw [Int.mul_comm (forceP (cleanS s) true).1.2]
  exact hle
theorem map_set {α β : Type} {f : α → β} {l : List α} {k : Nat} {x y : α} (h : l[k]? = some x) (e : f y = f x) : (l.set k y).map f = l.map f := by
  refine List.ext_getElem? fun i => ?_
  rw [List.getElem?_map, List.getElem?_map, List.getElem?_set]
  split
  · rename_i hk
    subst hk
    split
    · rw [h, Option.map_some, Option.map_some, e]
    · rename_i hn
      exact absurd (List.getElem?_eq_some_iff.1 h).1 hn
  · rfl
def setHd (h : Hd) (l : Int × Int) : Hd := ⟨h.b, h.p, l.1, l.2⟩
def setR (r : Rp) (i : Nat) (h : Hd) (l : Int × Int) : Rp := ⟨r.nm, r.hs.set i (setHd h l), r.hl⟩
def setS (s : Sy) (k : Nat) (r : Rp) (i : Nat) (h : Hd) (l : Int × Int) : Sy := ⟨s.bs, s.rs.set k (setR r i h l)⟩
theorem setS_clean {s : Sy} {k i : Nat} {r : Rp} {h : Hd} {l : Int × Int} (hr : s.rs[k]? = some r) (hh : r.hs[i]? = some h) : cleanS (setS s k r i h l) = cleanS s := by
  unfold cleanS setS
  simp only
  rw [map_set hr]
  unfold cleanR setR
  simp only
  rw [map_set (f := cleanH) (y := setHd h l) hh rfl]
theorem okRope_set {bs : List Bk} {r : Rp} {i : Nat} {h : Hd} {l : Int × Int} (hk : okRope bs r = true) (hh : r.hs[i]? = some h) (i1 : 1 ≤ i) (i2 : i + 1 < r.hs.length) (hl : lossy l.1 l.2 = true) : okRope bs (setR r i h l) = true := by
  unfold okRope at hk ⊢
  rw [Bool.and_eq_true, Bool.and_eq_true] at hk ⊢
  refine ⟨⟨by simpa [setR] using hk.1.1, okHolds_iff.2 fun j x hx => ?_⟩, ?_⟩
  · have hs := okHolds_iff.1 hk.1.2
    unfold setR at hx ⊢
    simp only [List.length_set] at hx ⊢
    rw [List.getElem?_set] at hx
    by_cases e : i = j
    · rw [if_pos e, if_pos (by omega)] at hx
      simp only [Option.some.injEq] at hx
      subst hx
      subst e
      have h0 := hs i h hh
      have hend : endH r.hs.length i = false := by unfold endH; simp; omega
      rw [hend] at h0 ⊢
      unfold okHold at h0 ⊢
      rw [Bool.and_eq_true] at h0 ⊢
      exact ⟨hl, h0.2⟩
    · rw [if_neg e] at hx
      exact hs j x hx
  · have h3 := hk.2
    have e : (setR r i h l).hs.getLast? = r.hs.getLast? := by
      unfold setR
      simp only
      rw [List.getLast?_eq_getElem?, List.getLast?_eq_getElem?, List.length_set, List.getElem?_set, if_neg (by omega)]
    rw [e]
    exact h3
theorem setS_valid {s : Sy} {k i : Nat} {r : Rp} {h : Hd} {l : Int × Int} (hv : validS s = true) (hr : s.rs[k]? = some r) (hh : r.hs[i]? = some h) (i1 : 1 ≤ i) (i2 : i + 1 < r.hs.length) (hl : lossy l.1 l.2 = true) : validS (setS s k r i h l) = true := by
  have v := validS_iff.1 hv
  have hc : (setS s k r i h l).rs.map cleanR = s.rs.map cleanR := congrArg Sy.rs (setS_clean (l := l) hr hh)
  refine validS_iff.2 ⟨v.b, by simpa [setS] using v.r, ?_, v.bk, fun q hq => ?_, ?_⟩
  · rw [← clean_names, hc, clean_names]
    exact v.nd
  · rcases List.mem_or_eq_of_mem_set hq with hq | rfl
    · exact v.rp q hq
    · have hrm := List.mem_of_getElem? hr
      exact ⟨(v.rp r hrm).1, okRope_set (v.rp r hrm).2 hh i1 i2 hl⟩
  · rw [← clean_hauls, hc, clean_hauls]
    exact v.h
theorem fixA_clean (s : Sy) : fixA (cleanS s) = fixA s := by
  unfold fixA fixP cleanS
  simp only [List.length_map]
  refine List.filter_congr fun i _ => ?_
  unfold fixB
  rw [List.getElem?_map]
  cases s.rs[i]? <;> rfl
theorem modes_clean {s : Sy} (hv : validS s = true) : modesP (cleanS s) = modesP s := by
  have h2 : validS (cleanS s) = true := validS_iff.2 (validS_iff.1 hv).clean
  unfold modesP rowsF trS
  rw [if_pos hv, if_pos h2, fixA_clean, matS_clean]
  simp only [cleanS, List.length_map]
structure Set (s t : Sy) (r : Rp) (i : Nat) (h : Hd) (l : Int × Int) : Prop where
  g : givL t = 0
  r : hauR t = setR r i h l
  m : movesB t ↔ movesB s
theorem setS_ok {s : Sy} {i : Nat} {r : Rp} {h : Hd} {l : Int × Int} (hg : givL s = 0) (hr : hauR s = r) (hh : r.hs[i]? = some h) (i1 : 1 ≤ i) (i2 : i + 1 < r.hs.length) (hl : lossy l.1 l.2 = true) : T.Set s (setS s (hix s).toNat r i h l) r i h l := by
  obtain ⟨hv, hx0, hlr⟩ := givL_inv hg
  obtain ⟨hm, hrk⟩ := hauR_mem hx0
  rw [hr] at hrk
  have hv' := setS_valid hv hrk hh i1 i2 hl
  have hcl := setS_clean (l := l) hrk hh
  have hi : hix (setS s (hix s).toNat r i h l) = hix s := by rw [← hix_clean, hcl, hix_clean]
  obtain ⟨j, q, hj, hq, hql⟩ := hix_hit hx0
  have erq : q = r := by
    rw [hj, Int.toNat_natCast, hq] at hrk
    exact Option.some.inj hrk
  refine ⟨?_, ?_, ?_⟩
  · unfold givL
    rw [if_pos hv', hi, if_neg hx0, if_neg]
    intro ha
    obtain ⟨x, hx, hxl⟩ := List.any_eq_true.1 ha
    rcases List.mem_or_eq_of_mem_set hx with hx | rfl
    · have := List.any_eq_false.1 hlr x hx
      exact this hxl
    · have : (setR r i h l).hl = true := by rw [← erq]; exact hql
      rw [this] at hxl
      simp at hxl
  · unfold hauR
    rw [hi, List.getD_eq_getElem?_getD]
    show ((s.rs.set (hix s).toNat (setR r i h l))[(hix s).toNat]?).getD _ = _
    rw [List.getElem?_set, if_pos rfl, if_pos (List.getElem?_eq_some_iff.1 hrk).1]
    rfl
  · unfold movesB
    rw [← modes_clean hv', hcl, modes_clean hv]
theorem order_set {s : Sy} {b : Bk} (o : One s b) {i : Nat} {r : Rp} {h : Hd} {l : Int × Int} (hr : hauR s = r) (hh : r.hs[i]? = some h) (i1 : 1 ≤ i) (i2 : i + 1 < r.hs.length) (hl : lossy l.1 l.2 = true) (hlt : ¬ leF l (h.n, h.d)) (h0 : (holdP s).2.2 = 0) : ((holdP (setS s (hix s).toNat r i h l)).2.2 = 0 ∨ (holdP (setS s (hix s).toNat r i h l)).2.2 = 5) ∧ ((holdP (setS s (hix s).toNat r i h l)).2.2 = 0 → leF (holdP (setS s (hix s).toNat r i h l)).1 (holdP s).1 ∧ leF (holdP s).2.1 (holdP (setS s (hix s).toNat r i h l)).2.1) := by
  obtain ⟨f1, f2, e1, e2, _, _, _⟩ := holdP_ok h0
  have hg := force_giv f1
  obtain ⟨hv, hx0, _⟩ := givL_inv hg
  obtain ⟨hm, hrk⟩ := hauR_mem hx0
  have ok := validS_ok hv
  have hrr := right_of ok hm
  obtain ⟨sg, sr, sm⟩ := setS_ok hg hr hh i1 i2 hl
  have hv' := (givL_inv sg).1
  have hx0' := (givL_inv sg).2.1
  rw [hr] at hrk hm hrr
  have ot : One (setS s (hix s).toNat r i h l) b := by
    refine ⟨hv', o.bs, fun q hq x hx => ?_⟩
    rcases List.mem_or_eq_of_mem_set hq with hq | rfl
    · exact o.up q hq x hx
    · unfold setR at hx
      rcases List.mem_or_eq_of_mem_set hx with hx | rfl
      · exact o.up r hm x hx
      · exact o.up r hm h (List.mem_of_getElem? hh)
  generalize setS s (hix s).toNat r i h l = t at *
  have hsk : (hauR t).hs.map sk = (hauR s).hs.map sk := by
    rw [sr, hr]
    exact map_set hh rfl
  have hlen : (hauR t).hs.length = (hauR s).hs.length := by have := congrArg List.length hsk; simpa using this
  have hpb : pullsB t b ↔ pullsB s b := by
    unfold pullsB
    rw [hlen, gripW_sk _ _ 0 hsk]
  have hyes : pullsB s b ∧ movesB s := by
    obtain ⟨P, Q, hQ, hP, hf⟩ := fam_of (r := hauR s) (by rw [hr]; exact hrr) true
    rcases force_one o true hg hQ hP hf.pos with k | ⟨_, k⟩ | ⟨k1, k2, _, _, _⟩
    · omega
    · omega
    · exact ⟨k1, k2⟩
  have hrt := right_of (validS_ok hv') (hauR_mem hx0').1
  have herr : ∀ up, (forceP t up).2 = 0 ∨ (forceP t up).2 = 5 := fun up => by
    obtain ⟨P, Q, hQ, hP, hf⟩ := fam_of hrt up
    rcases force_one ot up sg hQ hP hf.pos with k | ⟨k0, _⟩ | ⟨_, _, _, k, _⟩
    · exact .inr k
    · exact absurd ⟨hpb.2 hyes.1, sm.2 hyes.2⟩ k0
    · exact .inl k
  have hlo : ∀ j, 1 ≤ j → j + 1 < (hauR s).hs.length → (lossAt (hauR s).hs j).1 * (lossAt (hauR t).hs j).2 ≤ (lossAt (hauR t).hs j).1 * (lossAt (hauR s).hs j).2 := fun j _ _ => by
    rw [sr, hr]
    by_cases e : i = j
    · subst e
      have a1 : lossAt r.hs i = (h.n, h.d) := by unfold lossAt; rw [hh]
      have a2 : lossAt (setR r i h l).hs i = l := by
        unfold lossAt setR
        simp only
        rw [List.getElem?_set, if_pos rfl, if_pos (by omega)]
        rfl
      rw [a1, a2]
      unfold leF at hlt
      simp only at hlt ⊢
      have := Int.le_of_lt (Int.not_le.1 hlt)
      exact this
    · have a2 : lossAt (setR r i h l).hs j = lossAt r.hs j := by
        unfold lossAt setR
        simp only
        rw [List.getElem?_set, if_neg e]
      rw [a2]
      exact Int.le_refl _
  have herrh : (holdP t).2.2 = 0 ∨ (holdP t).2.2 = 5 := by
    have h17 := (hold_err ot).2
    unfold holdP at h17 ⊢
    rcases herr true with k1 | k1
    · rw [if_pos k1] at h17 ⊢
      rcases herr false with k2 | k2
      · rw [if_pos k2] at h17 ⊢
        split
        · rename_i hc
          rw [if_pos hc] at h17
          exact absurd rfl h17
        · exact .inl rfl
      · rw [if_neg (by omega)]
        exact .inr k2
    · rw [if_neg (by omega)]
      exact .inr k1
  refine ⟨herrh, fun ht => ?_⟩
  obtain ⟨g1, g2, e3, e4, _, _, _⟩ := holdP_ok ht
  rw [e1, e2, e3, e4]
  constructor
  · refine force_le ot o false false sg hg hsk.symm (fun j j1 j2 => ?_) g2 f2
    show (lossAt _ j).2 * (lossAt _ j).1 ≤ (lossAt _ j).2 * (lossAt _ j).1
    have := hlo j j1 (by omega)
    rw [Int.mul_comm, Int.mul_comm (lossAt (hauR s).hs j).2]
    exact this
  · refine force_le o ot true true hg sg hsk (fun j j1 j2 => ?_) f1 g1
    exact hlo j j1 j2
end Go.Proofs.YtcppnmohgaobdaaGreat.T

namespace Go.Proofs.YtcppnmohgaobdaaGreat.T
open Go Go.RowKit Lin
theorem gdza_AHP {P Q : Prop} (q : Q) (h : Q → P := by
  intro  hq
  (try with_reducible intro KR hKR)
  (repeat refine AW_seq ?_); (repeat refine AW_seq ?_); (refine AW_drawn_k tab_ok follows_mixed 0 fun KR hKR => ?_); simp only [List.replicate_succ, List.replicate_zero, List.append_nil, List.nil_append, List.cons_append, List.length_cons, List.length_nil, Nat.reduceAdd]; (repeat' ((first | refine awD_n rfl fun KK hKK => ?_ | refine awD_g rfl rfl fun KK hKK => ?_ | refine awD_gc rfl fun KK hKK => ?_ | refine awD_nc fun KK hKK => ?_); simp (disch := omega) only [bb, bt, zDs, zD, eqCells, simprocAttr, bne_self_eq_false, Int.reduceBNe, Int.reduceBEq, Bool.bne_false, Bool.bne_true, Bool.false_bne, Bool.true_bne]; refine hKK _ _ _ ?_; clear hKK KK)); (refine awD_nil ?_); simp only [List.reverse_cons, List.reverse_nil, List.nil_append, List.cons_append]; (refine hKR _ _ (by first | rfl | kernel_rfl) ?_); (try clear hKR KR); (repeat (with_reducible first | refine q1 ?_ | refine q2 ?_ | refine q3 ?_ | refine q4 ?_ | refine q5 ?_ | refine q6 ?_ | (refine q7 ?_ ?_; (focus (with_unfolding_all rfl)))))
  (first | exact hq | (revert hKR; revert KR; exact hq))) : P := h  q
set_option maxHeartbeats 4000000 in
theorem hold14 (s : Sy) (hf : Fits s) : PRet Tryz.prog 7 [syD s] (.tup [frD (holdP s).1, frD (holdP s).2.1, int (holdP s).2.2]) := by
  refine PRet.intro 1 fun t => ACall.enter tab_ok Tryz.func7 rfl rfl Tryz.ntmps7 (by simp) ?_
  simp only [enterTM]
  have hR := raise14 s hf
  have hL := lower14 s hf
  have v1 := @force_v s true
  have v2 := @force_v s false
  unfold holdP
  generalize forceP s true = A at *
  generalize forceP s false = B at *
  by_cases h1 : A.2 = 0
  rotate_left 1
  · have e1 : (A.2 != 0) = true := by simpa using h1
    rw [if_neg h1]
    ((refine ggb1 e1 hR ?_))
    ((repeat refine AW_seq ?_); (refine wta ?_); simp (disch := omega) only [retQ, resD, oneD, rsv, rs, rsL, rsL_eq_map, List.map_map, bb, bt, zDs, zD, eqCells, simprocAttr, Tryz.results7])
  have e1 : (A.2 != 0) = false := by simpa using h1
  rw [if_pos h1]
  by_cases h2 : B.2 = 0
  rotate_left 1
  · have e2 : (B.2 != 0) = true := by simpa using h2
    rw [if_neg h2]
    ((refine ggb2 (F := _∧_) ⟨e1, e2⟩ hR hL ?_))
    ((repeat refine AW_seq ?_); (refine wta ?_); simp (disch := omega) only [retQ, resD, oneD, rsv, rs, rsL, rsL_eq_map, List.map_map, bb, bt, zDs, zD, eqCells, simprocAttr, Tryz.results7])
  have e2 : (B.2 != 0) = false := by simpa using h2
  rw [if_pos h2]
  have hC := rCmp A.1 B.1
  rw [cmpP_ok (v1 h1) (v2 h2)] at hC
  simp only at hC
  generalize cmpV A.1 B.1 = c at *
  by_cases h3 : c < 0
  · rw [if_pos h3]
    ((refine ggb3 (F := _∧_) ⟨e1, e2⟩ hR hL hC ?_))
    refine AW_block ?_
    ((refine ggb0 h3 ?_))
    ((repeat refine AW_seq ?_); (refine wta ?_); simp (disch := omega) only [retQ, resD, oneD, rsv, rs, rsL, rsL_eq_map, List.map_map, bb, bt, zDs, zD, eqCells, simprocAttr, Tryz.results7])
  · rw [if_neg h3]
    ((refine ggb3 (F := _∧_) ⟨e1, e2⟩ hR hL hC ?_))
    refine AW_block ?_
    ((refine ggb0 h3 ?_))
    ((repeat refine AW_seq ?_); (refine gdza_AHP ?_))
    ((repeat refine AW_seq ?_); (refine wta ?_); simp (disch := omega) only [retQ, resD, oneD, rsv, rs, rsL, rsL_eq_map, List.map_map, bb, bt, zDs, zD, eqCells, simprocAttr, Tryz.results7])
end Go.Proofs.YtcppnmohgaobdaaGreat.T

namespace Go.Proofs.YtcppnmohgaobdaaGreat.T
open Go Go.RowKit Lin
theorem grp_len {sz : Nat} : ∀ {l : List (List D)}, (∀ x ∈ l, x.length = sz) → l.flatten.length = l.length * sz
  | [], _ => by simp
  | x :: l, h => by
    rw [List.flatten_cons, List.length_append, h x (by simp), grp_len fun y hy => h y (List.mem_cons_of_mem _ hy), List.length_cons, Nat.add_mul]
    omega
end Go.Proofs.YtcppnmohgaobdaaGreat.T

namespace Go.Proofs.YtcppnmohgaobdaaGreat.T
open Go Go.RowKit Lin
abbrev ro1 (r : Rp) (p : Nat × Nat) : List D := [str r.nm, .own 4 p.1 p.2 0 r.hs.length, bool r.hl]
def roC (rs : List Rp) (ps : List (Nat × Nat)) : List (List D) := List.zipWith ro1 rs ps
structure CA where
  k : Nat
  g : Nat
  ps : List (Nat × Nat)
  R : List Blk
  t : Nat
structure CAok (s : Sy) (t0 : Nat) (x : CA) : Prop where
  k : x.k ≤ s.rs.length
  lp : x.ps.length = x.k
  lr : x.R.length = 2 * x.k
  at_ : ∀ (j : Nat) (r : Rp) (p : Nat × Nat), s.rs[j]? = some r → x.ps[j]? = some p → p.1 = 2 * j + 6 ∧ x.R[2 * j + 1]? = some ⟨44, p.2, hdC r.hs⟩
  new : ∀ bl ∈ x.R, t0 < bl.g ∧ ((∃ l, bl.cells = hdC l) ∨ ∃ r p, bl.cells = ro1 r p ∧ p.1 < 5 + x.R.length)
  g : t0 < x.g
  t : t0 ≤ x.t
theorem cells_bk (l : List Bk) : (bkC l).all isCell = true := by
  induction l with
  | nil => rfl
  | cons x r ih => simp only [bkC, List.flatMap_cons, List.all_append, Bool.and_eq_true] at ih ⊢; exact ⟨rfl, ih⟩
theorem cells_hd (l : List Hd) : (hdC l).all isCell = true := by
  induction l with
  | nil => rfl
  | cons x r ih => simp only [hdC, List.flatMap_cons, List.all_append, Bool.and_eq_true] at ih ⊢; exact ⟨rfl, ih⟩
theorem roC_len {rs : List Rp} {ps : List (Nat × Nat)} (h : ps.length = rs.length) : (roC rs ps).length = rs.length := by simp [roC, h]
theorem roC_cells {rs : List Rp} {ps : List (Nat × Nat)} (h : ps.length = rs.length) : (roC rs ps).flatten.length = rs.length * 3 := by
  rw [grp_len (sz := 3), roC_len h]
  intro x hx
  obtain ⟨i, hi⟩ := List.mem_iff_getElem?.1 hx
  unfold roC at hi
  rw [List.getElem?_zipWith] at hi
  cases h1 : rs[i]? <;> cases h2 : ps[i]? <;> rw [h1, h2] at hi <;> simp at hi
  subst hi
  rfl
theorem roC_push {rs : List Rp} {ps : List (Nat × Nat)} {k : Nat} {r : Rp} {p : Nat × Nat} (hl : ps.length = k) (hr : rs[k]? = some r) : roC (rs.take (k + 1)) (ps ++ [p]) = roC (rs.take k) ps ++ [ro1 r p] := by
  have hk := (List.getElem?_eq_some_iff.1 hr).1
  unfold roC
  rw [List.take_add_one, hr, Option.toList_some, List.zipWith_append (by simp; omega)]
  rfl
set_option maxHeartbeats 4000000 in
theorem copy0S (s : Sy) (ok : OkS s) (t : Nat) : ACall Tryz.prog 12 [syD s] [] t (fun d H' t' => ∃ (x : CA) (g0 g1 g2 g3 : Nat) (z : List D), CAok s t x ∧ x.k = s.rs.length ∧ t' = x.t ∧ d = .agg [.own 2 2 g2 0 s.bs.length, .own 3 4 x.g 0 s.rs.length] ∧ t < g0 ∧ t < g1 ∧ t < g2 ∧ t < g3 ∧ z = [.own 2 2 g2 0 s.bs.length, .own 3 4 x.g 0 s.rs.length] ∧
    H' = some ⟨25, g0, [bks s.bs, rps s.rs]⟩ :: some ⟨25, g1, z⟩ :: some ⟨57, g2, bkC s.bs⟩ :: some ⟨25, g3, z⟩ :: some ⟨40, x.g, (roC s.rs x.ps).flatten⟩ :: x.R.map some) := by
  refine ACall.enter tab_ok Tryz.func12 rfl rfl Tryz.ntmps12 (by simp) ?_
  simp only [enterTM]
  have hdr := rpC_div s.rs
  have hdb := bkC_div s.bs
  have hlb := bkC_len s.bs
  have b1 := ok.b1
  have b6 := ok.b6
  have r6 := ok.r6
  have hcb := cells_bk s.bs
  have hnb : (bkC s.bs = []) = False := by
    simp only [eq_iff_iff, iff_false]
    intro e
    rw [e] at hlb
    simp at hlb
    omega
  ((refine wqa ?_))
  ((refine wqb (F := _∧_∧_) ⟨hcb, hnb, hdb⟩ ?_))
  ((refine wqa ?_))
  refine AW.begin_cell 3 1 3 40 rfl rfl (by decide) ?_
  simp only [List.set_cons_succ, List.set_cons_zero, List.length_cons, List.length_nil, List.cons_append, List.nil_append, Nat.zero_add, Nat.reduceAdd]
  refine AW_mid (fun x : CA => ⟨[(2, .ptr 1 (t + 1 + 1) 0), (3, .ptr 3 (t + 1 + 1 + 1 + 1) 0)], some ⟨25, t + 1, [bks s.bs, rps s.rs]⟩ :: some ⟨25, t + 1 + 1, [.sl 2 [] true, .sl 3 [] true]⟩ :: some ⟨57, t + 1 + 1 + 1, bkC s.bs⟩ :: some ⟨25, t + 1 + 1 + 1 + 1, [.own 2 2 (t + 1 + 1 + 1) 0 s.bs.length, .own 3 4 x.g 0 s.rs.length]⟩ :: some ⟨40, x.g, (roC s.rs x.ps).flatten⟩ :: x.R.map some, x.t⟩) (fun x => CAok s t x ∧ x.k = s.rs.length) ?_ ?_
  · refine AW_block ?_
    refine AW_loop_w (fun x : CA => ⟨[(1, .ptr 0 (t + 1) 0), (2, .ptr 1 (t + 1 + 1) 0), (3, .ptr 3 (t + 1 + 1 + 1 + 1) 0), (4, int x.k)], some ⟨25, t + 1, [bks s.bs, rps s.rs]⟩ :: some ⟨25, t + 1 + 1, [.sl 2 [] true, .sl 3 [] true]⟩ :: some ⟨57, t + 1 + 1 + 1, bkC s.bs⟩ :: some ⟨25, t + 1 + 1 + 1 + 1, [.own 2 2 (t + 1 + 1 + 1) 0 s.bs.length, .own 3 4 x.g 0 x.k]⟩ :: some ⟨40, x.g, (roC (s.rs.take x.k) x.ps).flatten⟩ :: x.R.map some, x.t⟩) (fun x => s.rs.length - x.k) (fun x => CAok s t x) ⟨0, t + 1 + 1 + 1 + 1 + 1, [], [], t + 1 + 1 + 1 + 1 + 1⟩ ⟨Nat.zero_le _, rfl, rfl, fun j r p _ h => by simp at h, fun bl h => by simp at h, by show t < t + 1 + 1 + 1 + 1 + 1; omega, by show t ≤ t + 1 + 1 + 1 + 1 + 1; omega⟩ (by (simp (disch := omega) only [StLe, tmLe, hpLe_refl, hpLe, bl, bb, bt, zDs, zD, eqCells, simprocAttr, roC, List.take_zero, List.zipWith_nil_left])) ?_
    rintro ⟨k, g, ps, R, tt⟩ hx
    obtain ⟨hk, hlp, hlr, hat, hnew, hgt, htt⟩ := hx
    simp only at hk hlp hlr hat hnew hgt htt
    by_cases hlt : k < s.rs.length
    · obtain ⟨r, hr⟩ : ∃ y, s.rs[k]? = some y := ⟨_, List.getElem?_eq_getElem hlt⟩
      have hrm := List.mem_of_getElem? hr
      have hra := rpC_read s.rs k r hr
      obtain ⟨ho1, ho2, _⟩ := ok.holds r hrm
      have hch := cells_hd r.hs
      have hlh := hdC_len r.hs
      have hdh := hdC_div r.hs
      have hnh : (hdC r.hs = []) = False := by
        simp only [eq_iff_iff, iff_false]
        intro e
        rw [e] at hlh
        simp at hlh
        omega
      have hRl : (R.map some).length = 2 * k := by simp [hlr]
      have hg5 : ∀ x y : Option Blk, (R.map some ++ [x, y])[R.length]? = some x := fun x y => by rw [List.getElem?_append_right (by simp)]; simp
      have hg6 : ∀ x y : Option Blk, (R.map some ++ [x, y])[R.length + 1]? = some y := fun x y => by rw [List.getElem?_append_right (by simp)]; simp
      have hg5a : ∀ x : Option Blk, (R.map some ++ [x])[R.length]? = some x := fun x => by rw [List.getElem?_append_right (by simp)]; simp
      have hs5 : ∀ x y z : Option Blk, (R.map some ++ [x, y]).set R.length z = R.map some ++ [z, y] := fun x y z => by rw [List.set_append_right _ _ (by simp)]; simp
      have hrc : (roC (s.rs.take k) ps).flatten.length = k * 3 := by rw [roC_cells (by simp [hlp]; omega)]; simp; omega
      have hpush := roC_push (p := (R.length + 1 + 1 + 1 + 1 + 1 + 1, tt + 1 + 1)) hlp hr
      ((refine ggb0 (F := _∧_∧_) ⟨@Int.ofNat_lt, hlt, hdr⟩ ?_))
      ((repeat refine AW_seq ?_))
      refine AW_block ?_
      have hs5a : ∀ x z : Option Blk, (R.map some ++ [x]).set R.length z = R.map some ++ [z] := fun x z => by rw [List.set_append_right _ _ (by simp)]; simp
      ((refine wqb (F := _∧_∧_∧_∧_) ⟨hlt, hdr, hra, hg5a, hs5a⟩ ?_))
      ((refine wqb (F := _∧_∧_∧_∧_∧_∧_) ⟨hg5a, hch, hnh, hdh, hg5, hg6, hs5⟩ ?_))
      ((refine ggb0 (F := _∧_) ⟨hg5, hrc⟩ ?_))
      refine ⟨⟨k + 1, tt + 1 + 1 + 1, ps ++ [(R.length + 1 + 1 + 1 + 1 + 1 + 1, tt + 1 + 1)], R ++ [⟨40, tt + 1, ro1 r (R.length + 1 + 1 + 1 + 1 + 1 + 1, tt + 1 + 1)⟩, ⟨44, tt + 1 + 1, hdC r.hs⟩], tt + 1 + 1 + 1⟩, ⟨hlt, by simp [hlp], by simp [hlr]; omega, fun j q p hq hp => ?_, fun bl hbl => ?_, by show t < tt + 1 + 1 + 1; omega, by show t ≤ tt + 1 + 1 + 1; omega⟩, by show s.rs.length - (k + 1) < s.rs.length - k; omega, ?_⟩
      · by_cases hjk : j < k
        · rw [List.getElem?_append_left (by omega)] at hp
          obtain ⟨a1, a2⟩ := hat j q p hq hp
          exact ⟨a1, by rw [List.getElem?_append_left (by have := (List.getElem?_eq_some_iff.1 a2).1; omega)]; exact a2⟩
        · have hjl := (List.getElem?_eq_some_iff.1 hp).1
          have hje : j = k := by simp [hlp] at hjl; omega
          subst hje
          rw [List.getElem?_append_right (by omega), hlp, Nat.sub_self] at hp
          simp only [List.getElem?_cons_zero, Option.some.injEq] at hp
          subst hp
          rw [hr, Option.some.injEq] at hq
          subst hq
          refine ⟨by simp only; omega, ?_⟩
          rw [List.getElem?_append_right (by omega), show 2 * j + 1 - R.length = 1 by omega]
          rfl
      · simp only [List.length_append, List.length_cons, List.length_nil]
        rcases List.mem_append.1 hbl with h | h
        · obtain ⟨a1, a2⟩ := hnew bl h
          refine ⟨a1, a2.imp id ?_⟩
          rintro ⟨r', p', e, hp'⟩
          exact ⟨r', p', e, by omega⟩
        · rcases List.mem_cons.1 h with rfl | h
          · exact ⟨by simp only; omega, .inr ⟨r, _, rfl, by simp only; omega⟩⟩
          · simp only [List.mem_singleton] at h
            subst h
            exact ⟨by simp only; omega, .inl ⟨r.hs, rfl⟩⟩
      · simp only [hpush, List.flatten_append, List.flatten_cons, List.flatten_nil, List.append_nil, List.map_append, List.map_cons, List.map_nil]
        (simp (disch := omega) only [StLe, tmLe, hpLe_refl, hpLe, bl, bb, bt, zDs, zD, eqCells, simprocAttr])
    · have hke : k = s.rs.length := by omega
      subst hke
      rw [List.take_length]
      ((refine wqb (F := _∧_) ⟨@Int.lt_irrefl, hdr⟩ ?_))
      ((refine wia ?_))
      ((refine wxa ?_))
      exact ⟨⟨s.rs.length, g, ps, R, tt⟩, ⟨⟨hk, hlp, hlr, hat, hnew, hgt, htt⟩, rfl⟩, by (simp (disch := omega) only [StLe, tmLe, hpLe_refl, hpLe, bl, bb, bt, zDs, zD, eqCells, simprocAttr])⟩
  rintro ⟨k, g, ps, R, tt⟩ ⟨hx, hke⟩
  simp only at hx hke
  ((refine gga0 ?_))
  ((repeat refine AW_seq ?_); (refine wta ?_); simp (disch := omega) only [retQ, resD, oneD, bb, bt, zDs, zD, eqCells, simprocAttr, Tryz.results12])
  exact ⟨⟨k, g, ps, R, tt⟩, t + 1, t + 1 + 1, t + 1 + 1 + 1, t + 1 + 1 + 1 + 1, _, hx, hke, rfl, rfl, by omega, by omega, by omega, by omega, rfl, rfl⟩
end Go.Proofs.YtcppnmohgaobdaaGreat.T

