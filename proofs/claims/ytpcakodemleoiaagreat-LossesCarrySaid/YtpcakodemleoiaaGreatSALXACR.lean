import Derived.Test.YtpcakodemleoiaaGreatSCPYALN
import Derived.Test.YtpcakodemleoiaaGreatSALFFW
import Derived.Test.YtpcakodemleoiaaGreatSACALM
import Derived.Test.YtpcakodemleoiaaGreatSLSJ
import Derived.Test.YtpcakodemleoiaaGreatSWOP
import Derived.Test.YtpcakodemleoiaaGreatSVSALP
set_option linter.all false
namespace Go.Proofs.YtpcakodemleoiaaGreat.T
open Go Go.RowKit Lin
theorem mulc {a b c : Int} (h : 0 < c) : a * c ≤ b * c ↔ a ≤ b := ⟨fun w => Int.le_of_mul_le_mul_right w h, fun w => Int.mul_le_mul_of_nonneg_right w (by omega)⟩
def leF (a b : Int × Int) : Prop := a.1 * b.2 ≤ b.1 * a.2
theorem Val.leF {x y : Int × Int} {p q r s : Int} (h : Val x p q) (k : Val y r s) (hq : 0 < q) (hs : 0 < s) : T.leF x y ↔ p * s ≤ r * q := by
  have hx := (fr_bounds h.v).1
  have hy := (fr_bounds k.v).1
  have h1 := h.e
  have h2 := k.e
  have hc : 0 < q * s := Int.mul_pos hq hs
  have hd : 0 < x.2 * y.2 := Int.mul_pos (by omega) (by omega)
  have e1 : x.1 * y.2 * (q * s) = (p * s) * (x.2 * y.2) := by
    calc x.1 * y.2 * (q * s) = (x.1 * q) * (y.2 * s) := by ac_rfl
      _ = (p * x.2) * (y.2 * s) := by rw [h1]
      _ = (p * s) * (x.2 * y.2) := by ac_rfl
  have e2 : y.1 * x.2 * (q * s) = (r * q) * (x.2 * y.2) := by
    calc y.1 * x.2 * (q * s) = (y.1 * s) * (x.2 * q) := by ac_rfl
      _ = (r * y.2) * (x.2 * q) := by rw [h2]
      _ = (r * q) * (x.2 * y.2) := by ac_rfl
  unfold T.leF
  rw [← mulc hc, e1, e2, mulc hd]
theorem cmp_le {a b : Int × Int} : cmpV a b ≤ 0 ↔ leF a b := by
  have := @cmpV_gt a b
  unfold leF
  omega
theorem cmp_ge {a b : Int × Int} : 0 ≤ cmpV a b ↔ leF b a := by
  have := @cmpV_lt a b
  unfold leF
  omega
theorem leF_refl (a : Int × Int) : leF a a := Int.le_refl _
def holdP (s : Sy) : (Int × Int) × (Int × Int) × Int :=
  if (forceP s true).2 = 0 then (if (forceP s false).2 = 0 then (if cmpV (forceP s true).1 (forceP s false).1 < 0 then ((0, 0), (0, 0), 17) else ((forceP s false).1, (forceP s true).1, 0)) else ((0, 0), (0, 0), (forceP s false).2)) else ((0, 0), (0, 0), (forceP s true).2)
def holdsP (s : Sy) (f : Int × Int) : Bool × Int :=
  if vfrac f.1 f.2 = true then (if (holdP s).2.2 = 0 then (decide (0 ≤ cmpV f (holdP s).1) && decide (cmpV f (holdP s).2.1 ≤ 0), 0) else (false, (holdP s).2.2)) else (false, 1)
theorem force_v {s : Sy} {up : Bool} (h : (forceP s up).2 = 0) : vfrac (forceP s up).1.1 (forceP s up).1.2 = true := by
  unfold forceP at h ⊢
  by_cases h0 : (firstP s up).2.2 = 0
  · rw [if_pos h0] at h ⊢
    exact mul0v h
  · rw [if_neg h0] at h
    exact absurd h h0
theorem holdP_ok {s : Sy} (h : (holdP s).2.2 = 0) : (forceP s true).2 = 0 ∧ (forceP s false).2 = 0 ∧ (holdP s).1 = (forceP s false).1 ∧ (holdP s).2.1 = (forceP s true).1 ∧ leF (holdP s).1 (holdP s).2.1 ∧ vfrac (holdP s).1.1 (holdP s).1.2 = true ∧ vfrac (holdP s).2.1.1 (holdP s).2.1.2 = true := by
  unfold holdP at h ⊢
  by_cases h1 : (forceP s true).2 = 0
  rotate_left 1
  · rw [if_neg h1] at h
    exact absurd h h1
  rw [if_pos h1] at h ⊢
  by_cases h2 : (forceP s false).2 = 0
  rotate_left 1
  · rw [if_neg h2] at h
    exact absurd h h2
  rw [if_pos h2] at h ⊢
  by_cases h3 : cmpV (forceP s true).1 (forceP s false).1 < 0
  · rw [if_pos h3] at h
    cases h
  rw [if_neg h3]
  exact ⟨h1, h2, rfl, rfl, cmp_ge.1 (show 0 ≤ cmpV (forceP s true).1 (forceP s false).1 by omega), force_v h2, force_v h1⟩
theorem holdsP_is {s : Sy} (h : (holdP s).2.2 = 0) {f : Int × Int} (hf : vfrac f.1 f.2 = true) : (leF (holdP s).1 f → leF f (holdP s).2.1 → holdsP s f = (true, 0)) ∧ (¬ leF (holdP s).1 f → holdsP s f = (false, 0)) ∧ (¬ leF f (holdP s).2.1 → holdsP s f = (false, 0)) := by
  unfold holdsP
  rw [if_pos hf, if_pos h]
  refine ⟨fun a b => ?_, fun a => ?_, fun a => ?_⟩
  · rw [decide_eq_true (cmp_ge.2 a), decide_eq_true (cmp_le.2 b)]
    rfl
  · rw [decide_eq_false (fun k => a (cmp_ge.1 k))]
    rfl
  · rw [decide_eq_false (fun k => a (cmp_le.1 k)), Bool.and_false]
theorem exact_mid {lo hi d p q x : Int × Int} {part : Int} (vl : vfrac lo.1 lo.2 = true) (vh : vfrac hi.1 hi.2 = true) (hle : leF lo hi) (hp : Val p part 255) (h0 : 0 ≤ part) (h1 : part ≤ 255) (hd : subP hi lo = (d, 0)) (hq : mulP d p = (q, 0)) (hx : addP lo q = (x, 0)) : leF lo x ∧ leF x hi := by
  have l0 := (fr_bounds vl).1
  have l1 := (fr_bounds vh).1
  have a1 := (Val.self vh).sub (Val.self vl) (by rw [hd])
  rw [hd] at a1
  have a2 := a1.mulP hp (by rw [hq])
  rw [hq] at a2
  have a3 := (Val.self vl).addP a2 (by rw [hx])
  rw [hx] at a3
  simp only at a3
  unfold leF at hle
  obtain ⟨l, dl⟩ := lo
  obtain ⟨h, dh⟩ := hi
  simp only at *
  have hA : 0 ≤ h * dl - l * dh := by omega
  have p1 : 0 < dh * dl * 255 := Int.mul_pos (Int.mul_pos (by omega) (by omega)) (by decide)
  have p2 : 0 < dl * (dh * dl * 255) := Int.mul_pos (by omega) p1
  constructor
  · rw [(Val.self vl).leF a3 (by simp only; omega) p2]
    simp only
    have k : 0 ≤ (h * dl - l * dh) * part * dl * dl := Int.mul_nonneg (Int.mul_nonneg (Int.mul_nonneg hA h0) (by omega)) (by omega)
    have e : (l * (dh * dl * 255) + (h * dl - l * dh) * part * dl) * dl = l * (dl * (dh * dl * 255)) + (h * dl - l * dh) * part * dl * dl := by grind
    omega
  · rw [a3.leF (Val.self vh) p2 (by simp only; omega)]
    simp only
    have k : 0 ≤ dl * dh * (h * dl - l * dh) * (255 - part) := Int.mul_nonneg (Int.mul_nonneg (Int.mul_nonneg (by omega) (by omega)) hA) (by omega)
    have e : h * (dl * (dh * dl * 255)) = (l * (dh * dl * 255) + (h * dl - l * dh) * part * dl) * dh + dl * dh * (h * dl - l * dh) * (255 - part) := by grind
    omega
theorem exact_up {hi x : Int × Int} (vh : vfrac hi.1 hi.2 = true) (hx : addP hi (1, 1000) = (x, 0)) : ¬ leF x hi := by
  have l1 := (fr_bounds vh).1
  have hv : Val (1, 1000) 1 1000 := ⟨by decide, by decide, rfl⟩
  have a3 := (Val.self vh).addP hv (by rw [hx])
  rw [hx] at a3
  simp only at a3
  obtain ⟨h, dh⟩ := hi
  simp only at *
  rw [a3.leF (Val.self vh) (by omega) (by simp only; omega)]
  simp only
  have k : 0 < dh * dh := Int.mul_pos (by omega) (by omega)
  have e : (h * 1000 + 1 * dh) * dh = h * (dh * 1000) + dh * dh := by grind
  omega
theorem exact_down {lo x : Int × Int} (vl : vfrac lo.1 lo.2 = true) (hx : subP lo (1, 1000) = (x, 0)) : ¬ leF lo x := by
  have l1 := (fr_bounds vl).1
  have hv : Val (1, 1000) 1 1000 := ⟨by decide, by decide, rfl⟩
  have a3 := (Val.self vl).sub hv (by rw [hx])
  rw [hx] at a3
  simp only at a3
  obtain ⟨h, dh⟩ := lo
  simp only at *
  rw [(Val.self vl).leF a3 (by simp only; omega) (by omega)]
  simp only
  have k : 0 < dh * dh := Int.mul_pos (by omega) (by omega)
  have e : (h * 1000 - 1 * dh) * dh = h * (dh * 1000) - dh * dh := by grind
  omega
end Go.Proofs.YtpcakodemleoiaaGreat.T

namespace Go.Proofs.YtpcakodemleoiaaGreat.T
open Go Go.RowKit Lin
theorem ex_none {j : Nat} : ∀ (cs : List Nat) (h : Nat → List Nat → Int), (∀ c r, (c = j ∨ j ∈ r) → h c r = 0) → j ∈ cs → ex h cs = 0
  | [], _, _, hj => by cases hj
  | x :: xs, h, hh, hj => by
    simp only [ex]
    have e1 : h x xs = 0 := hh x xs (by
      rcases List.mem_cons.1 hj with e | e
      · exact .inl e.symm
      · exact .inr e)
    rw [e1]
    by_cases hx : j ∈ xs
    · rw [ex_none xs (fun c r => h c (x :: r)) (fun c r hc => hh c (x :: r) (hc.imp id fun k => List.mem_cons_of_mem _ k)) hx]
      rfl
    · have e : j = x := by
        rcases List.mem_cons.1 hj with e | e
        · exact e
        · exact absurd e hx
      subst e
      rw [ex_congr (h' := fun _ _ => 0) fun c r => hh c (j :: r) (.inr (by simp)), ex_zero]
      rfl
theorem w_none {j : Nat} : ∀ (rs : List Row) (cs : List Nat), (∀ r ∈ rs, r j = 0) → j ∈ cs → w rs cs = 0
  | [], [], _, h => by cases h
  | [], _ :: _, _, _ => rfl
  | r :: rs, cs, hr, hj => by
    rw [w_cons]
    refine ex_none cs _ (fun c rest hc => ?_) hj
    rcases hc with rfl | hc
    · rw [hr r (by simp), Int.zero_mul]
    · rw [w_none rs rest (fun x hx => hr x (by simp [hx])) hc, Int.mul_zero]
theorem nulls_hasC (f : Frm) (n : Nat) : ∀ c d, d < c → f.pivots.contains d = false → nvec f n d f.pivots.length ∈ nulls f n c
  | 0, d, h, _ => by omega
  | c + 1, d, h, hd => by
    simp only [nulls]
    by_cases e : d = c
    · subst e
      rw [hd]
      simp
    · have ih := nulls_hasC f n c d (by omega) hd
      split
      · exact ih
      · exact List.mem_append_left _ ih
theorem zero_col {m : List (List Int)} (hv : validP m = true) {j : Nat} (hj : j < wid m) (hz : ∀ r ∈ m, Lin.at_ r j = 0) : ∃ v ∈ (nullP m).1, v.length = wid m ∧ ∀ (k : Nat) (f : Int × Int), v[k]? = some f → Val f (if k = j then 1 else 0) 1 := by
  unfold nullP
  rw [if_pos hv]
  simp only
  have hs := valid_small hv
  have iv := elim_inv (ups_mover m (wid m)) hs.lens (wid m) (Nat.le_refl _)
  rw [← elim_by] at iv
  have in2 := iv.small2 hs (Nat.le_refl _)
  have hd2 := iv.den_small2 hs (Nat.le_refl _)
  generalize elim m (wid m) = f at *
  have hS : ∀ r ∈ SS m f, r j = 0 := fun r hr => by
    obtain ⟨s, hs, rfl⟩ := SS_mem iv r hr
    exact hz s hs
  have hc : f.pivots.contains j = false := by
    cases hc : f.pivots.contains j
    · rfl
    · refine absurd ?_ iv.den0
      rw [iv.den]
      exact w_none _ _ hS (by unfold CC; rw [List.mem_reverse]; exact List.contains_iff_mem.1 hc)
  have hrow : ∀ i, i < f.pivots.length → Lin.at_ (Lin.row f.rows i) j = 0 := fun i hi => by
    have hl : (CC f).length = f.pivots.length := CC_length f
    have e : CC f = (CC f).take (f.pivots.length - 1 - i) ++ (CC f)[f.pivots.length - 1 - i] :: (CC f).drop (f.pivots.length - 1 - i + 1) := by
      rw [← List.drop_eq_getElem_cons (by omega), List.take_append_drop]
    have h2 := iv.piv _ _ _ e j hj
    have e3 : ((CC f).drop (f.pivots.length - 1 - i + 1)).length = i := by rw [List.length_drop]; omega
    rw [e3] at h2
    rw [h2]
    exact w_none _ _ hS (by simp)
  have hnX : ∀ k, k ≤ f.pivots.length → ∀ x, nX f j k x = if x = j then f.den else 0 := by
    intro k
    induction k with
    | zero => intro _ x; rfl
    | succ k ih =>
      intro hk x
      simp only [nX]
      by_cases e : x = (f.pivots[k]?).getD 0
      · rw [if_pos e, hrow k (by omega), if_neg]
        · rfl
        · intro e2
          rw [e2, List.getElem?_eq_getElem (show k < f.pivots.length by omega), Option.getD_some] at e
          have : f.pivots.contains j = true := List.contains_iff_mem.2 (by rw [e]; exact List.getElem_mem _)
          rw [hc] at this
          cases this
      · rw [if_neg e, ih (by omega) x]
  have ok : ∀ k c, k < f.pivots.length → c < wid m → (makeP (-(Lin.at_ (Lin.row f.rows k) c)) f.den).2 = 0 := fun k c hk hc => by
    have := in2 k c hk hc
    exact makeP_ok (by omega) hd2 iv.den0
  obtain ⟨q1', q2'⟩ := nvec_q iv ok hj f.pivots.length (Nat.le_refl _)
  refine ⟨_, nulls_hasC f (wid m) (wid m) j hj hc, nvec_len _ _ _ _, fun k p hp => ?_⟩
  have hval : Val p (if k = j then f.den else 0) f.den := ⟨allV_at q1' hp, iv.den0, by rw [q2' k p hp, hnX _ (Nat.le_refl _)]⟩
  refine hval.to (by decide) ?_
  split <;> simp
def aloneB (s : Sy) (nm : ByteArray) : Bool := !s.rs.any fun r => !r.hl && r.hs.any fun h => decide (h.b = nm)
theorem pull_none {nm : ByteArray} : ∀ {hs : List Hd}, (hs.any fun h => decide (h.b = nm)) = false → pull nm hs = 0
  | [], _ => rfl
  | h :: l, hh => by
    rw [List.any_cons, Bool.or_eq_false_iff, decide_eq_false_iff_not] at hh
    simp only [pull]
    rw [if_neg hh.1, pull_none hh.2]
    rfl
theorem alone_mode {s : Sy} (hv : validS s = true) {j : Nat} {b : Bk} (hb : s.bs[j]? = some b) (ha : aloneB s b.nm = true) : ∃ v ∈ (modesP s).1, v.length = s.bs.length ∧ ∀ (k : Nat) (f : Int × Int), v[k]? = some f → Val f (if k = j then 1 else 0) 1 := by
  have ok := validS_ok hv
  have hj := (List.getElem?_eq_some_iff.1 hb).1
  unfold modesP
  rw [if_pos hv]
  by_cases hf : fixA s = []
  · rw [if_pos hf]
    refine ⟨unitR s.bs.length j, List.mem_map.2 ⟨j, List.mem_range.2 hj, rfl⟩, by simp [unitR], fun k f hk => ?_⟩
    unfold unitR at hk
    rw [List.getElem?_map] at hk
    cases e : (List.range s.bs.length)[k]? with
    | none => rw [e] at hk; simp at hk
    | some i =>
      rw [e] at hk
      obtain ⟨h1, h2⟩ := List.getElem?_eq_some_iff.1 e
      rw [List.getElem_range] at h2
      subst h2
      simp only [Option.map_some, Option.some.injEq] at hk
      subst hk
      split
      · exact Val.one (n := 1) (by omega)
      · exact Val.one (n := 0) (by omega)
  · rw [if_neg hf]
    obtain ⟨rv, rw', _⟩ := rowsF_valid ok hf (by have := fixP_len s.rs (-1) s.rs.length; unfold fixA; have := ok.r6; omega) (fun i hi => fixP_lt hi)
    have := zero_col rv (j := j) (by omega) fun r hr => by
      unfold rowsF at hr
      obtain ⟨i, hi, rfl⟩ := List.mem_map.1 hr
      have hil : i < s.rs.length := fixP_lt hi
      obtain ⟨q, hq⟩ : ∃ y, s.rs[i]? = some y := ⟨_, List.getElem?_eq_getElem hil⟩
      have hql := (fixA_mem hq).1 hi
      rw [trS_getD s hil]
      unfold Lin.at_ colP matS
      rw [List.getElem?_map, List.getElem?_map, hb]
      simp only [Option.map_some, Option.getD_some]
      unfold Lin.at_
      rw [List.getElem?_map, hq]
      simp only [Option.map_some, Option.getD_some]
      refine pull_none ?_
      unfold aloneB at ha
      rw [Bool.not_eq_true', List.any_eq_false] at ha
      have := ha q (List.mem_of_getElem? hq)
      rw [hql] at this
      simpa using this
    rw [rw'] at this
    exact this
theorem alone_grip {s : Sy} {up : Bool} (h : (firstP s up).2.2 = 0) {j : Nat} {b : Bk} (hb : s.bs[j]? = some b) (ha : aloneB s b.nm = true) : (gripP (hauR s) up b.nm).2 = 0 ∧ (mulP (gripP (hauR s) up b.nm).1 (firstP s up).1).2 = 0 ∧ (mulP (gripP (hauR s) up b.nm).1 (firstP s up).1).1 = (b.w, 1) := by
  obtain ⟨hg, hr, hgr, hp, hba, e⟩ := first_inv h
  obtain ⟨hv, hx0, _⟩ := givL_inv hg
  have ok := validS_ok hv
  have hj := (List.getElem?_eq_some_iff.1 hb).1
  obtain ⟨v, hvm, hvl, hval⟩ := alone_mode hv hb ha
  obtain ⟨k, hk⟩ := List.mem_iff_getElem?.1 hvm
  obtain ⟨_, _, _, _, hall⟩ := balP_inv hba
  obtain ⟨ep, hdot⟩ := pairA_inv (load := loadP s) (grip := (gripsA (hauR s) up s.bs []).1) (modesP s).1 [] [] hp
  have ep' : prsP s up = pairA (loadP s) (gripsA (hauR s) up s.bs []).1 (modesP s).1 [] [] := rfl
  rw [← ep'] at ep
  obtain ⟨d1, d2⟩ := hdot v hvm
  obtain ⟨gi, ga⟩ := gripsA_inv s.bs [] hgr
  rw [List.nil_append] at gi
  have hgb := ga b (List.mem_of_getElem? hb)
  have e1 : (firstP s up).1 = (balP (prsP s up).1.1 (prsP s up).1.2).1 := by rw [e]
  have hh := hall k (dotV v (gripsA (hauR s) up s.bs []).1 (0, 1)).1 (dotV v (loadP s) (0, 1)).1 (by rw [ep]; simp [hk]) (by rw [ep]; simp [hk])
  rw [← e1] at hh
  rw [gi] at hh d2
  obtain ⟨Y, E, hE, hY⟩ := dens (s.bs.map fun b => (gripP (hauR s) up b.nm).1) (by
    obtain ⟨n2, _⟩ := rightR_len hr
    refine List.all_eq_true.2 fun x hx => ?_
    obtain ⟨c, hc, rfl⟩ := List.mem_map.1 hx
    have := ga c hc
    have hfv : ∀ j, j + 1 < (hauR s).hs.length → vfrac (facK (hauR s).hs up j).1 (facK (hauR s).hs up j).2 = true := fun j hj => by
      have := (rightR_len hr).2
      exact (facK_fb (hs := (hauR s).hs) (up := up) j (by omega) fun i x h1 h2 hx => okLoss_lossy (rightR_at hr hx)).v
    obtain ⟨P, Q, hQ, hP⟩ := dens (facL (hauR s) up ((hauR s).hs.length - 1)) (List.all_eq_true.2 fun x hx => by
      obtain ⟨i, hi, rfl⟩ := List.mem_map.1 hx
      exact hfv i (by have := List.mem_range.1 hi; omega))
    have hpl : ∀ h ∈ (hauR s).hs, -2 ≤ h.p ∧ h.p ≤ 2 := fun h hh => by
      obtain ⟨i, r, hi, hrr, _⟩ := hix_hit hx0
      have ehr : hauR s = r := by unfold hauR; rw [hi, Int.toNat_natCast, List.getD_eq_getElem?_getD, hrr]; rfl
      rw [ehr] at hh
      exact ok.pulls r (List.mem_of_getElem? hrr) h hh
    exact (gripP_val (P := P) (Q := Q) (fun j hj => hP j _ (facL_at _ up (by omega))) n2 hpl this).v)
  have hw := dotV_val (by decide) (by decide) v (loadP s) (fun k => if k = j then 1 else 0) (Lin.at_ (wtsS s)) (0, 1) 0 (by simp [loadP, hvl]) hval (loadP_val s ok) ⟨vfrac_one (by omega), by decide, by simp⟩ d1
  have hpv := dotV_val (by decide) hE v _ (fun k => if k = j then 1 else 0) Y (0, 1) 0 (by simp [hvl]) hval hY ⟨vfrac_one (by omega), by simpa using hE, by simp⟩ d2
  have s1 : sumN (fun k => (if k = j then 1 else 0) * Lin.at_ (wtsS s) k) v.length = Lin.at_ (wtsS s) j := by
    rw [sum_pick _ j _ (by omega) fun k _ hk => by rw [if_neg hk, Int.zero_mul], if_pos rfl, Int.one_mul]
  have s2 : sumN (fun k => (if k = j then 1 else 0) * Y k) v.length = Y j := by
    rw [sum_pick _ j _ (by omega) fun k _ hk => by rw [if_neg hk, Int.zero_mul], if_pos rfl, Int.one_mul]
  rw [s1, Int.zero_add, Int.one_mul] at hw
  rw [s2, Int.zero_add, Int.one_mul] at hpv
  have ew : Lin.at_ (wtsS s) j = b.w := by unfold Lin.at_ wtsS; rw [List.getElem?_map, hb]; rfl
  have bw := ok.wts b (List.mem_of_getElem? hb)
  have e2 : (dotV v (loadP s) (0, 1)).1 = (b.w, 1) := by
    refine hw.eq (Val.one (n := b.w) (by omega)) ?_
    rw [ew]
  have e3 : (dotV v (s.bs.map fun b => (gripP (hauR s) up b.nm).1) (0, 1)).1 = (gripP (hauR s) up b.nm).1 := hpv.eq (hY j _ (by rw [List.getElem?_map, hb]; rfl)) rfl
  rw [e2, e3] at hh
  exact ⟨hgb, hh⟩
theorem firstP_v {s : Sy} {up : Bool} (h : (firstP s up).2.2 = 0) : vfrac (firstP s up).1.1 (firstP s up).1.2 = true ∧ (firstP s up).2.1 = facL (hauR s) up ((hauR s).hs.length - 1) ∧ rightR (hauR s) = true ∧ validS s = true ∧ ¬ hix s < 0 ∧ ∀ x ∈ (firstP s up).2.1, vfrac x.1 x.2 = true := by
  obtain ⟨hg, hr, _, _, hb, e⟩ := first_inv h
  obtain ⟨_, hd, et, _, _⟩ := balP_inv hb
  obtain ⟨hv, hx, _⟩ := givL_inv hg
  obtain ⟨n2, n10⟩ := rightR_len hr
  rw [e]
  simp only
  refine ⟨?_, by first | rfl | trivial, hr, hv, hx, fun x hx => ?_⟩
  · rw [et]
    obtain ⟨a1, a2, _, _⟩ := divP_val hd
    exact (Val.divP (Val.self a1) (Val.self a2) hd).v
  · obtain ⟨i, hi, rfl⟩ := List.mem_map.1 hx
    have := List.mem_range.1 hi
    exact (facK_fb (hs := (hauR s).hs) (up := up) i (by omega) fun j x h1 h2 hx => okLoss_lossy (rightR_at hr hx)).v
def segA (t : Int × Int) : List (Int × Int) → List (Int × Int) → List (Int × Int) × Int
  | [], acc => (acc, 0)
  | f :: l, acc => if (mulP t f).2 = 0 then segA t l (acc ++ [(mulP t f).1]) else ([], (mulP t f).2)
def segP (s : Sy) (up : Bool) : List (Int × Int) × Int := if (firstP s up).2.2 = 0 then segA (firstP s up).1 (firstP s up).2.1 [] else ([], (firstP s up).2.2)
theorem segA_step {t f : Int × Int} {l : List (Int × Int)} {k : Nat} (h : l[k]? = some f) (acc : List (Int × Int)) : segA t (l.drop k) acc = if (mulP t f).2 = 0 then segA t (l.drop (k + 1)) (acc ++ [(mulP t f).1]) else ([], (mulP t f).2) := by
  rw [List.drop_eq_getElem_cons (List.getElem?_eq_some_iff.1 h).1, (List.getElem?_eq_some_iff.1 h).2]
  rfl
theorem segA_inv {t : Int × Int} : ∀ (l acc : List (Int × Int)), ((segA t l acc).2 = 0 → (segA t l acc).1 = acc ++ l.map (fun f => (mulP t f).1) ∧ ∀ f ∈ l, (mulP t f).2 = 0) ∧ ((segA t l acc).2 ≠ 0 → (segA t l acc).1 = [])
  | [], acc => ⟨fun _ => ⟨by simp [segA], by simp⟩, fun h => absurd rfl h⟩
  | f :: l, acc => by
    simp only [segA]
    by_cases h1 : (mulP t f).2 = 0
    · rw [if_pos h1]
      obtain ⟨a, b⟩ := segA_inv (t := t) l (acc ++ [(mulP t f).1])
      refine ⟨fun h => ?_, b⟩
      obtain ⟨a1, a2⟩ := a h
      refine ⟨by rw [a1]; simp, fun x hx => ?_⟩
      rcases List.mem_cons.1 hx with rfl | hx
      · exact h1
      · exact a2 x hx
    · rw [if_neg h1]
      exact ⟨fun h => absurd h h1, fun _ => rfl⟩
end Go.Proofs.YtpcakodemleoiaaGreat.T

namespace Go.Proofs.YtpcakodemleoiaaGreat.T
open Go Go.RowKit Lin
theorem gdza_AHP {P Q : Prop} (q : Q) (h : Q → P := by
  intro  hq
  (try with_reducible intro KR hKR)
  (repeat refine AW_seq ?_); (repeat refine AW_seq ?_); (refine AW_drawn_k tab_ok follows_mixed 0 fun KR hKR => ?_); simp only [List.replicate_succ, List.replicate_zero, List.append_nil, List.nil_append, List.cons_append, List.length_cons, List.length_nil, Nat.reduceAdd]; (repeat' ((first | refine awD_n rfl fun KK hKK => ?_ | refine awD_g rfl rfl fun KK hKK => ?_ | refine awD_gc rfl fun KK hKK => ?_ | refine awD_nc fun KK hKK => ?_); simp (disch := omega) only [bb, bt, zDs, zD, eqCells, simprocAttr, bne_self_eq_false, Int.reduceBNe, Int.reduceBEq, Bool.bne_false, Bool.bne_true, Bool.false_bne, Bool.true_bne]; refine hKK _ _ _ ?_; clear hKK KK)); (refine awD_nil ?_); simp only [List.reverse_cons, List.reverse_nil, List.nil_append, List.cons_append]; (refine hKR _ _ (by first | rfl | kernel_rfl) ?_); (try clear hKR KR); (repeat (with_reducible first | refine q1 ?_ | refine q2 ?_ | refine q3 ?_ | refine q4 ?_ | refine q5 ?_ | refine q6 ?_ | (refine q7 ?_ ?_; (focus (with_unfolding_all rfl)))))
  (first | exact hq | (revert hKR; revert KR; exact hq))) : P := h  q
theorem segsP_len {s : Sy} {up : Bool} : (firstP s up).2.1.length ≤ 1000 := by
  unfold firstP
  split
  · split
    · split
      · split
        · simp only
          unfold alongP
          split
          · rename_i h
            simp only
            rw [facL_len]
            have := rightR_len h
            omega
          · simp
        · simp
      · simp
    · simp
  · simp
set_option maxHeartbeats 8000000 in
theorem segs14 (s : Sy) (hf : Fits s) (up : Bool) : PRet Tryz.prog 11 [syD s, bool up] (fse (segP s up)) := by
  refine PRet.intro 1 fun t => ACall.enter tab_ok Tryz.func11 rfl rfl Tryz.ntmps11 (by simp) ?_
  simp only [enterTM]
  have hF := first14 s hf up
  have hl := segsP_len (s := s) (up := up)
  unfold segP
  generalize firstP s up = X at *
  obtain ⟨f, l, e⟩ := X
  simp only at *
  by_cases h0 : e = 0
  rotate_left 1
  · have e1 : (e != 0) = true := by simpa using h0
    rw [if_neg h0]
    ((refine ggb1 e1 hF ?_))
    ((repeat refine AW_seq ?_); (refine wta ?_); simp (disch := omega) only [retQ, resD, oneD, rsv, rs, rsL, rsL_eq_map, List.map_map, bb, bt, zDs, zD, eqCells, simprocAttr, Tryz.results11])
    rfl
  subst h0
  rw [if_pos rfl]
  have hd := frC_div l
  have hz : frC [] = [] := rfl
  generalize hR : segA f l [] = R
  ((refine ggb1 hd hF ?_))
  refine AW.begin 9 2 33 rfl (by decide) ?_
  simp only [putTM, List.length_cons, List.length_nil, Nat.reduceEqDiff, ↓reduceIte, List.cons_append, List.nil_append]
  ((repeat refine AW_seq ?_))
  refine AW_mid (fun x : Nat × Nat => ⟨[(9, .own 2 2 x.1 0 l.length)], [none, none, some ⟨33, x.1, frC R.1⟩], x.2⟩) (fun _ => R.2 = 0 ∧ R.1.length = l.length) ?_ ?_
  · refine AW_block ?_
    refine AW_loop_w (fun x : List (Int × Int) × Nat × Nat × Nat => ⟨[(6, .ptr 1 (t + 1 + 1) 0), (9, .own 2 2 x.2.2.1 0 x.2.1), (24, frs l), (25, int l.length), (26, int x.2.1)], [none, some ⟨33, t + 1 + 1, [int f.1, int f.2]⟩, some ⟨33, x.2.2.1, frC x.1⟩], x.2.2.2⟩) (fun x => l.length - x.2.1) (fun x => x.2.1 ≤ l.length ∧ x.1.length = x.2.1 ∧ segA f (l.drop x.2.1) x.1 = R) ([], 0, t + 1 + 1 + 1, t + 1 + 1 + 1) ⟨Nat.zero_le _, rfl, hR⟩ (by (simp (disch := omega) only [StLe, tmLe, hpLe_refl, hpLe, bl, bb, bt, zDs, zD, eqCells, simprocAttr, hz])) ?_
    rintro ⟨acc, k, g, tt⟩ ⟨hk, hak, hs⟩
    simp only at hk hak hs
    by_cases hlt : k < l.length
    · obtain ⟨x, hx⟩ : ∃ y, l[k]? = some y := ⟨_, List.getElem?_eq_getElem hlt⟩
      have hrx := frC_read l k x hx
      have hM := rMul f x
      rw [segA_step hx] at hs
      generalize mulP f x = M at *
      have hal := frC_len acc
      rw [hak] at hal
      have hap : frC acc ++ [int M.1.1, int M.1.2] = frC (acc ++ [M.1]) := by simp [frC]
      ((refine ggb0 (F := _∧_) ⟨@Int.ofNat_lt, hlt⟩ ?_))
      ((repeat refine AW_seq ?_))
      refine AW_block ?_
      by_cases h1 : M.2 = 0
      rotate_left 1
      · have e1 : (M.2 != 0) = true := by simpa using h1
        rw [if_neg h1] at hs
        subst hs
        ((refine ggb1 (F := _∧_∧_∧_) ⟨hlt, hd, hrx, e1⟩ hM ?_))
        ((repeat refine AW_seq ?_); (refine wta ?_); simp (disch := omega) only [retQ, resD, oneD, rsv, rs, rsL, rsL_eq_map, List.map_map, bb, bt, zDs, zD, eqCells, simprocAttr, Tryz.results11])
        rfl
      have e1 : (M.2 != 0) = false := by simpa using h1
      rw [if_pos h1] at hs
      ((refine ggb1 (F := _∧_∧_∧_∧_∧_) ⟨hlt, hd, hrx, e1, hal, hap⟩ hM ?_))
      refine ⟨(acc ++ [M.1], k + 1, tt + 1 + 1 + 1, tt + 1 + 1 + 1), ⟨hlt, by simp [hak], hs⟩, by show l.length - (k + 1) < l.length - k; omega, ?_⟩
      (simp (disch := omega) only [StLe, tmLe, hpLe_refl, hpLe, bl, bb, bt, zDs, zD, eqCells, simprocAttr])
    · have hke : k = l.length := by omega
      subst hke
      have hde : segA f (l.drop l.length) acc = (acc, 0) := by rw [List.drop_eq_nil_of_le (Nat.le_refl _)]; rfl
      rw [hde] at hs
      subst hs
      ((refine wqb @Int.lt_irrefl ?_))
      ((refine wia ?_))
      ((refine wxa ?_))
      exact ⟨(g, tt), ⟨rfl, hak⟩, by (simp (disch := omega) only [StLe, tmLe, hpLe_refl, hpLe, bl, bb, bt, zDs, zD, eqCells, simprocAttr])⟩
  rintro ⟨g, tt⟩ ⟨hR0, hRl⟩
  obtain ⟨a, e⟩ := R
  simp only at hR0 hRl ⊢
  subst hR0
  have hal := frC_len a
  rw [hRl] at hal
  have hfin : List.take (l.length * 2) (frC a) = frC a := List.take_of_length_le (by omega)
  ((refine AW.freeze (2) (by first | rfl | (simp only [setH, List.getElem?_cons_zero, List.getElem?_cons_succ, hfin, hal, Nat.le_refl]; done)) ?_); simp (disch := omega) only [fzT, fz, fzL, fzL_ints, fzL_mat, fzH, fzB, eq_self, bb, bt, zDs, zD, eqCells, simprocAttr, hfin, hal, Nat.le_refl])
  ((refine gga0 ?_))
  ((repeat refine AW_seq ?_); (refine wta ?_); simp (disch := omega) only [retQ, resD, oneD, bb, bt, zDs, zD, eqCells, simprocAttr, Tryz.results11])
  exact rsv_tidy _ _ (by simp only [tidyD, tidyL, tidy_fr, Bool.not_false, Bool.and_self])
set_option maxHeartbeats 4000000 in
theorem hold14 (s : Sy) (hf : Fits s) : PRet Tryz.prog 24 [syD s] (.tup [frD (holdP s).1, frD (holdP s).2.1, int (holdP s).2.2]) := by
  refine PRet.intro 1 fun t => ACall.enter tab_ok Tryz.func24 rfl rfl Tryz.ntmps24 (by simp) ?_
  simp only [enterTM]
  have hR := raise14 s hf
  have hL := lower14 s hf
  have v1 := @force_v s true
  have v2 := @force_v s false
  unfold holdP
  generalize forceP s true = A at *
  generalize forceP s false = B at *
  by_cases h1 : A.2 = 0
  rotate_left 1
  · have e1 : (A.2 != 0) = true := by simpa using h1
    rw [if_neg h1]
    ((refine ggb1 e1 hR ?_))
    ((repeat refine AW_seq ?_); (refine wta ?_); simp (disch := omega) only [retQ, resD, oneD, rsv, rs, rsL, rsL_eq_map, List.map_map, bb, bt, zDs, zD, eqCells, simprocAttr, Tryz.results24])
  have e1 : (A.2 != 0) = false := by simpa using h1
  rw [if_pos h1]
  by_cases h2 : B.2 = 0
  rotate_left 1
  · have e2 : (B.2 != 0) = true := by simpa using h2
    rw [if_neg h2]
    ((refine ggb2 (F := _∧_) ⟨e1, e2⟩ hR hL ?_))
    ((repeat refine AW_seq ?_); (refine wta ?_); simp (disch := omega) only [retQ, resD, oneD, rsv, rs, rsL, rsL_eq_map, List.map_map, bb, bt, zDs, zD, eqCells, simprocAttr, Tryz.results24])
  have e2 : (B.2 != 0) = false := by simpa using h2
  rw [if_pos h2]
  have hC := rCmp A.1 B.1
  rw [cmpP_ok (v1 h1) (v2 h2)] at hC
  simp only at hC
  generalize cmpV A.1 B.1 = c at *
  by_cases h3 : c < 0
  · rw [if_pos h3]
    ((refine ggb3 (F := _∧_) ⟨e1, e2⟩ hR hL hC ?_))
    refine AW_block ?_
    ((refine ggb0 h3 ?_))
    ((repeat refine AW_seq ?_); (refine wta ?_); simp (disch := omega) only [retQ, resD, oneD, rsv, rs, rsL, rsL_eq_map, List.map_map, bb, bt, zDs, zD, eqCells, simprocAttr, Tryz.results24])
  · rw [if_neg h3]
    ((refine ggb3 (F := _∧_) ⟨e1, e2⟩ hR hL hC ?_))
    refine AW_block ?_
    ((refine ggb0 h3 ?_))
    ((repeat refine AW_seq ?_); (refine gdza_AHP ?_))
    ((repeat refine AW_seq ?_); (refine wta ?_); simp (disch := omega) only [retQ, resD, oneD, rsv, rs, rsL, rsL_eq_map, List.map_map, bb, bt, zDs, zD, eqCells, simprocAttr, Tryz.results24])
set_option maxHeartbeats 4000000 in
theorem holds14 (s : Sy) (hf : Fits s) (f : Int × Int) : PRet Tryz.prog 31 [syD s, frD f] (.tup [bool (holdsP s f).1, int (holdsP s f).2]) := by
  refine PRet.intro 1 fun t => ACall.enter tab_ok Tryz.func31 rfl rfl Tryz.ntmps31 (by simp) ?_
  simp only [enterTM]
  have hV := rValid f.1 f.2
  have hH := hold14 s hf
  have hok := @holdP_ok s
  unfold holdsP
  generalize holdP s = X at *
  obtain ⟨lo, hi, e⟩ := X
  simp only at *
  cases hv : vfrac f.1 f.2
  · rw [hv] at hV
    rw [if_neg (by decide)]
    ((refine gga1 hV ?_))
    ((repeat refine AW_seq ?_); (refine wta ?_); simp (disch := omega) only [retQ, resD, oneD, rsv, rs, rsL, rsL_eq_map, List.map_map, bb, bt, zDs, zD, eqCells, simprocAttr, Tryz.results31])
  rw [hv] at hV
  rw [if_pos rfl]
  by_cases h1 : e = 0
  rotate_left 1
  · have e1 : (e != 0) = true := by simpa using h1
    rw [if_neg h1]
    ((refine ggb2 e1 hV hH ?_))
    ((repeat refine AW_seq ?_); (refine wta ?_); simp (disch := omega) only [retQ, resD, oneD, rsv, rs, rsL, rsL_eq_map, List.map_map, bb, bt, zDs, zD, eqCells, simprocAttr, Tryz.results31])
  obtain ⟨_, _, _, _, _, vl, vh⟩ := hok h1
  subst h1
  rw [if_pos rfl]
  have hC1 := rCmp f lo
  rw [cmpP_ok hv vl] at hC1
  have hC2 := rCmp f hi
  rw [cmpP_ok hv vh] at hC2
  simp only at hC1 hC2
  generalize cmpV f lo = c1 at *
  generalize cmpV f hi = c2 at *
  by_cases h2 : 0 ≤ c1
  · rw [decide_eq_true h2, Bool.true_and]
    by_cases h3 : c2 ≤ 0
    · rw [decide_eq_true h3]
      ((refine ggb4 (F := _∧_) ⟨h2, h3⟩ hV hH hC1 hC2 ?_))
      ((repeat refine AW_seq ?_); (refine wta ?_); simp (disch := omega) only [retQ, resD, oneD, rsv, rs, rsL, rsL_eq_map, List.map_map, bb, bt, zDs, zD, eqCells, simprocAttr, Tryz.results31])
    · rw [decide_eq_false h3]
      ((refine ggb4 (F := _∧_) ⟨h2, h3⟩ hV hH hC1 hC2 ?_))
      ((repeat refine AW_seq ?_); (refine wta ?_); simp (disch := omega) only [retQ, resD, oneD, rsv, rs, rsL, rsL_eq_map, List.map_map, bb, bt, zDs, zD, eqCells, simprocAttr, Tryz.results31])
  · rw [decide_eq_false h2, Bool.false_and]
    ((refine ggb4 h2 hV hH hC1 hC2 ?_))
    ((repeat refine AW_seq ?_); (refine wta ?_); simp (disch := omega) only [retQ, resD, oneD, rsv, rs, rsL, rsL_eq_map, List.map_map, bb, bt, zDs, zD, eqCells, simprocAttr, Tryz.results31])
end Go.Proofs.YtpcakodemleoiaaGreat.T

namespace Go.Proofs.YtpcakodemleoiaaGreat.T
open Go Go.RowKit Lin
end Go.Proofs.YtpcakodemleoiaaGreat.T

namespace Go.Proofs.YtpcakodemleoiaaGreat.T
open Go Go.RowKit Lin
end Go.Proofs.YtpcakodemleoiaaGreat.T

namespace Go.Proofs.YtpcakodemleoiaaGreat.T
open Go Go.RowKit Lin
end Go.Proofs.YtpcakodemleoiaaGreat.T

