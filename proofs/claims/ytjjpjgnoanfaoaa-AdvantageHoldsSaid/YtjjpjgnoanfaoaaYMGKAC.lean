import Derived.Test.YtjjpjgnoanfaoaaMGI
import Derived.Test.YtjjpjgnoanfaoaaYVSAVP
import Derived.Test.YtjjpjgnoanfaoaaTB
import Derived.Test.YtjjpjgnoanfaoaaSG
import Derived.Test.YtjjpjgnoanfaoaaLSJ
import Derived.Test.YtjjpjgnoanfaoaaWRJ
set_option linter.all false

section
namespace Go.Proofs.Ytjjpjgnoanfaoaa.T
open Go Go.RowKit Lin
/-- Hauls multiplied. -/
theorem SolQ.mul {m : List (List Int)} {right : List Int} {Z : Nat → Int} {D n : Int} (h : SolQ m right Z D) : SolQ m (right.map (· * n)) (fun k => Z k * n) D := fun i r b hi hb => by
  rw [List.getElem?_map] at hb
  cases hq : right[i]? with
  | none => rw [hq] at hb; simp at hb
  | some q =>
    rw [hq] at hb
    simp only [Option.map_some, Option.some.injEq] at hb
    subst hb
    have := h i r q hi hq
    have e : sumN (fun k => Lin.at_ r k * (Z k * n)) (wid m) = n * sumN (fun k => Lin.at_ r k * Z k) (wid m) := by
      rw [← sumN_mul]
      exact sumN_congr _ fun k _ => by ac_rfl
    show sumN (fun k => Lin.at_ r k * (Z k * n)) (wid m) = D * (q * n)
    rw [e, this]
    ac_rfl
theorem givH_mul {s : Sy} {h : List Int} (hg : givH s h = 0) (n : Int) : givH s (h.map (· * n)) = 0 ∨ givH s (h.map (· * n)) = 2 := by
  obtain ⟨hv, hz, hr⟩ := givH_zero hg
  unfold givH
  rw [if_pos hv, if_pos (by simpa using hz)]
  split
  · exact .inl rfl
  · exact .inr rfl
/-- Multiplied hauls have multiplied speeds. -/
theorem speeds_mul {s : Sy} {h : List Int} (h0 : (speedsP s h).2 = 0) (n : Int) : (speedsP s (h.map (· * n))).2 = 2 ∨ ((speedsP s (h.map (· * n))).2 = 0 ∧ (speedsP s (h.map (· * n))).1.length = s.bs.length ∧
    ∀ (i : Nat) (f g : Int × Int), (speedsP s h).1[i]? = some f → (speedsP s (h.map (· * n))).1[i]? = some g → vfrac n 1 = true → (mulP f (n, 1)).2 = 0 → (mulP f (n, 1)).1 = g) := by
  obtain ⟨hg, _⟩ := speedsP_full h0
  obtain ⟨hv, hz, hr⟩ := givH_zero hg
  have ok := validS_ok hv
  obtain ⟨tv, tw⟩ := ok.tr_valid
  have tl := ok.tr_len
  obtain ⟨X, D, hD, hX, hl, hXv⟩ := speedsP_val h0
  rcases givH_mul hg n with hg2 | hg2
  · right
    obtain ⟨_, hz2, hr2⟩ := givH_zero hg2
    have hw1 := rangedP_within hz hr
    have hw2 := rangedP_within hz2 hr2
    have hs2 : (speedsP s (h.map (· * n))).2 = 0 := by
      unfold speedsP at h0 ⊢
      rw [if_pos hg] at h0
      rw [if_pos hg2]
      obtain ⟨_, hfull⟩ := (solve_ok tv (by omega) hw1).1 h0
      exact (solve_ok tv (by rw [hz2, tl]) hw2).2 ⟨⟨_, D, hD, hX.mul⟩, hfull⟩
    have hfull : ¬ rankP (trS s) (wid (trS s)) < wid (trS s) := by
      unfold speedsP at h0
      rw [if_pos hg] at h0
      exact ((solve_ok tv (by omega) hw1).1 h0).2
    obtain ⟨W, F, hF, hW, hl2, hWv⟩ := speedsP_val hs2
    refine ⟨hs2, hl2, fun i f g hf hgi hn hm => ?_⟩
    have hfv := hXv i f hf
    have hnv : Val (n, 1) n 1 := Val.self (x := (n, 1)) hn
    rw [mulP_ok hfv.v hnv.v] at hm ⊢
    refine (hfv.mul hnv hm).eq (hWv i g hgi) ?_
    have hi := (List.getElem?_eq_some_iff.1 hf).1
    have := sol_uniq tv (by rw [hz2, tl]) hw2 hfull hD hF (hX.mul (n := n)) hW i (by omega)
    rw [Int.mul_one]
    exact this
  · left
    unfold speedsP
    rw [if_neg (by omega)]
    exact hg2
/-- The speeds go with the hauls, and no others do. -/
theorem speeds_go {s : Sy} {h : List Int} (h0 : (speedsP s h).2 = 0) : (chkM s h (speedsP s h).1).2 = 5 ∨ chkM s h (speedsP s h).1 = (true, 0) := by
  obtain ⟨hg, hl⟩ := speedsP_full h0
  obtain ⟨X, D, hD, hX, _, hXv⟩ := speedsP_val h0
  have ha := allV_of hXv
  rcases chkM_err hg ha hl with e | e
  · exact .inr (Prod.ext ((chkM_iff hg ha hl e hD hXv).2 hX) e)
  · exact .inl e
theorem speeds_only {s : Sy} {h : List Int} (h0 : (speedsP s h).2 = 0) {i : Nat} {f : Int × Int} (hf : (speedsP s h).1[i]? = some f) (hx : (addP f (1, 1)).2 = 0) :
    (chkM s h ((speedsP s h).1.set i (addP f (1, 1)).1)).2 = 5 ∨ chkM s h ((speedsP s h).1.set i (addP f (1, 1)).1) = (false, 0) := by
  obtain ⟨hg, hl⟩ := speedsP_full h0
  obtain ⟨hv, hz, hr⟩ := givH_zero hg
  have ok := validS_ok hv
  obtain ⟨tv, tw⟩ := ok.tr_valid
  have tl := ok.tr_len
  obtain ⟨X, D, hD, hX, _, hXv⟩ := speedsP_val h0
  have hfv := hXv i f hf
  have h11 : Val (1, 1) 1 1 := .one (by omega)
  rw [addP_ok hfv.v h11.v] at *
  have hxv := (hfv.add h11 hx).to (r := X i + D) hD (by grind)
  generalize (addR f (1, 1)).1 = x at *
  have hil := (List.getElem?_eq_some_iff.1 hf).1
  have hZ2 : ∀ (k : Nat) (g : Int × Int), ((speedsP s h).1.set i x)[k]? = some g → Val g (if k = i then X i + D else X k) D := fun k g hg => by
    by_cases e : k = i
    · subst e
      rw [List.getElem?_set_self hil, Option.some.injEq] at hg
      subst hg
      rw [if_pos rfl]
      exact hxv
    · rw [List.getElem?_set_ne (Ne.symm e)] at hg
      rw [if_neg e]
      exact hXv k g hg
  have ha := allV_of hZ2
  have hl2 : ((speedsP s h).1.set i x).length = s.bs.length := by simpa using hl
  rcases chkM_err hg ha hl2 with e | e
  · refine .inr (Prod.ext ?_ e)
    have := chkM_iff hg ha hl2 e hD hZ2
    cases hc : (chkM s h ((speedsP s h).1.set i x)).1
    · rfl
    · exfalso
      have hsol := this.1 hc
      have hw := rangedP_within hz hr
      have hfull : ¬ rankP (trS s) (wid (trS s)) < wid (trS s) := by
        unfold speedsP at h0
        rw [if_pos hg] at h0
        exact ((solve_ok tv (by omega) hw).1 h0).2
      have hu := sol_uniq tv (by omega) hw hfull hD hD hsol hX i (by omega)
      simp only [if_true] at hu
      have := cancel hD hu
      omega
  · exact .inl e
end Go.Proofs.Ytjjpjgnoanfaoaa.T
end

namespace Go.Proofs.Ytjjpjgnoanfaoaa.T
open Go Go.RowKit Lin
set_option linter.unusedSimpArgs false

/-! AdvantageOwn (plain): neither weights nor losses change an advantage. -/
def cleanH (h : Hd) : Hd := ⟨h.b, h.p, 1, 1⟩
def cleanR (r : Rp) : Rp := ⟨r.nm, r.hs.map cleanH, r.hl⟩
def ownB (nm : ByteArray) (w : Int) (b : Bk) : Bk := ⟨b.nm, if b.nm = nm then w else 0⟩
def cleanS (s : Sy) : Sy := ⟨s.bs, s.rs.map cleanR⟩
def ownS (s : Sy) (nm : ByteArray) (w : Int) : Sy := ⟨s.bs.map (ownB nm w), s.rs.map cleanR⟩
theorem idx_map {α β : Type} (f : α → β) (p : β → Bool) (q : α → Bool) (h : ∀ x, p (f x) = q x) : ∀ (l : List α) (n : Nat), idx p (l.map f) n = idx q l n
  | [], _ => rfl
  | x :: l, n => by simp only [List.map_cons, idx, h, idx_map f p q h l]
theorem findB_map {f : Bk → Bk} (h : ∀ b, (f b).nm = b.nm) (bs : List Bk) (nm : ByteArray) : findB (bs.map f) nm = findB bs nm := idx_map f _ _ (fun x => by simp only [h]) bs 0
theorem pull_clean (nm : ByteArray) : ∀ hs : List Hd, pull nm (hs.map cleanH) = pull nm hs
  | [] => rfl
  | h :: hs => by simp only [List.map_cons, pull, pull_clean nm hs]; rfl
theorem okHold_clean {bs : List Bk} {h : Hd} {e : Bool} (hk : okHold bs h e = true) : okHold bs (cleanH h) e = true := by
  unfold okHold at hk ⊢
  rw [Bool.and_eq_true] at hk ⊢
  refine ⟨?_, hk.2⟩
  cases e
  · exact (by decide : lossy 1 1 = true)
  · rfl
theorem okHolds_clean {bs : List Bk} {hs : List Hd} (hk : okHolds bs hs = true) : okHolds bs (hs.map cleanH) = true := by
  refine okHolds_iff.2 fun i h hi => ?_
  rw [List.getElem?_map] at hi
  cases hq : hs[i]? with
  | none => rw [hq] at hi; simp at hi
  | some q =>
    rw [hq] at hi
    simp only [Option.map_some, Option.some.injEq] at hi
    subst hi
    rw [List.length_map]
    exact okHold_clean (okHolds_iff.1 hk i q hq)
theorem okRope_clean {bs : List Bk} {r : Rp} (hk : okRope bs r = true) : okRope bs (cleanR r) = true := by
  unfold okRope at hk ⊢
  rw [Bool.and_eq_true, Bool.and_eq_true] at hk ⊢
  refine ⟨⟨by simpa [cleanR] using hk.1.1, okHolds_clean hk.1.2⟩, ?_⟩
  have h3 := hk.2
  simp only [cleanR, List.getLast?_map] at h3 ⊢
  cases hl : r.hs.getLast? with
  | none => rw [hl] at h3; simpa using h3
  | some h => rw [hl] at h3; simpa [cleanH] using h3
theorem clean_hauls (rs : List Rp) : hauls (rs.map cleanR) = hauls rs := by
  unfold hauls
  rw [List.filter_map, List.length_map]
  rfl
theorem clean_names (rs : List Rp) : rNames (rs.map cleanR) = rNames rs := by simp [rNames, cleanR]
theorem VS.clean {s : Sy} (h : VS s) : VS (cleanS s) := by
  refine ⟨h.b, by simpa [cleanS] using h.r, ?_, h.bk, fun r hr => ?_, ?_⟩
  · show (bNames s.bs ++ rNames (s.rs.map cleanR)).Nodup
    rw [clean_names]
    exact h.nd
  · obtain ⟨q, hq, rfl⟩ := List.mem_map.1 hr
    exact ⟨(h.rp q hq).1, okRope_clean (h.rp q hq).2⟩
  · show hauls (s.rs.map cleanR) ≤ 1
    rw [clean_hauls]
    exact h.h
theorem matS_clean (s : Sy) : matS (cleanS s) = matS s := by
  unfold matS cleanS
  simp only [List.map_map]
  refine List.map_congr_left fun b _ => List.map_congr_left fun r _ => ?_
  exact pull_clean b.nm r.hs
theorem hix_clean (s : Sy) : hix (cleanS s) = hix s := idx_map cleanR _ _ (fun _ => rfl) s.rs 0
theorem tens_clean {s : Sy} (hv : validS s = true) : tensP (cleanS s) = tensP s := by
  have h2 : validS (cleanS s) = true := validS_iff.2 (validS_iff.1 hv).clean
  unfold tensP
  rw [if_pos hv, if_pos h2, matS_clean]
  rfl
theorem haul_clean {s : Sy} (hv : validS s = true) : haulP (cleanS s) = haulP s := by
  unfold haulP
  rw [tens_clean hv, hix_clean]
theorem own_valid {s : Sy} (hv : validS s = true) (nm : ByteArray) {w : Int} (hw : 0 ≤ w ∧ w ≤ 65535) : validS (ownS s nm w) = true := by
  refine validS_iff.2 ((validS_iff.1 hv).clean.weights (t := ownS s nm w) rfl ?_ fun b hb => ?_)
  · simp [bNames, ownS, ownB, cleanS]
  · obtain ⟨c, _, rfl⟩ := List.mem_map.1 hb
    simp only [ownB]
    split <;> omega
theorem own_unit (s : Sy) (nm : ByteArray) (w : Int) : unitS (ownS s nm w) nm = cleanS (unitS s nm) := by
  unfold unitS ownS cleanS
  simp only [List.map_map, Sy.mk.injEq, and_true]
  exact List.map_congr_left fun b _ => rfl
theorem own_for {s : Sy} (hv : validS s = true) (nm : ByteArray) {w : Int} (hw : 0 ≤ w ∧ w ≤ 65535) : forP (ownS s nm w) nm = forP s nm := by
  unfold forP
  rw [if_pos hv, if_pos (own_valid hv nm hw)]
  have e : findB (ownS s nm w).bs nm = findB s.bs nm := findB_map (f := ownB nm w) (fun _ => rfl) s.bs nm
  rw [e]
  unfold overN
  rw [own_unit, haul_clean (unit_valid hv nm)]
def sumW (s : Sy) : Int := (wtsS s).sum
def ratP (s : Sy) : (Int × Int) × Int := overN (sumW s) s
theorem sum_one {w : Int} : ∀ (l : List Int) (j : Nat), j < l.length → (∀ k, k < l.length → l[k]? = some (if j = k then w else 0)) → l.sum = w
  | [], j, h, _ => by simp at h
  | x :: l, 0, _, h => by
    have h0 := h 0 (by simp)
    simp at h0
    have hz : ∀ m : List Int, (∀ k, k < m.length → m[k]? = some 0) → m.sum = 0 := fun m => by
      induction m with
      | nil => intro _; rfl
      | cons y m ih =>
        intro hm
        have a := hm 0 (by simp)
        simp at a
        rw [List.sum_cons, a, ih fun k hk => by have := hm (k + 1) (by simpa using hk); simpa using this]
        rfl
    rw [List.sum_cons, h0, hz l fun k hk => by have := h (k + 1) (by simpa using hk); simpa using this]
    omega
  | x :: l, j + 1, hj, h => by
    have h0 := h 0 (by simp)
    simp at h0
    rw [List.sum_cons, h0, sum_one l j (by simpa using hj) fun k hk => by have := h (k + 1) (by simpa using hk); simpa using this]
    omega
theorem own_wts {s : Sy} (nm : ByteArray) (w : Int) : wtsS (ownS s nm w) = (wtsS (unitS s nm)).map (· * w) := by
  unfold wtsS ownS unitS
  simp only [List.map_map]
  refine List.map_congr_left fun b _ => ?_
  simp only [Function.comp, ownB, unitB]
  split <;> simp
theorem own_ratio {s : Sy} (hv : validS s = true) {nm : ByteArray} {w : Int} (hw : 0 ≤ w ∧ w ≤ 65535) (h0 : w ≠ 0) (h : (forP s nm).2 = 0) : ratP (ownS s nm w) = forP s nm := by
  unfold forP at h ⊢
  rw [if_pos hv] at h ⊢
  by_cases hb : findB s.bs nm < 0
  · rw [if_pos hb] at h; simp at h
  rw [if_neg hb] at h ⊢
  unfold ratP overN at *
  by_cases hh : (haulP (unitS s nm)).2 = 0
  rotate_left 1
  · rw [if_neg hh] at h; exact absurd h hh
  rw [if_pos hh] at h ⊢
  have ok := validS_ok hv
  obtain ⟨j, b, ej, hj, hn⟩ := findB_ok hb
  obtain ⟨hvu, htu, i, r, ei, hr, _, _, Z, D, hD, hZ, hVt⟩ := haulP_val hh
  have oku := validS_ok hvu
  have hvt := own_valid hv nm hw
  have okt := validS_ok hvt
  have em : matS (ownS s nm w) = matS (unitS s nm) := by
    have e1 : matS (ownS s nm w) = matS (cleanS s) := matS_names rfl (by simp [bNames, ownS, ownB, cleanS])
    rw [e1, matS_clean, matS_names (s := s) (t := unitS s nm) rfl (unit_names s nm)]
  have ew := own_wts (s := s) nm w
  have hx : hix (ownS s nm w) = (i : Int) := by
    have : hix (ownS s nm w) = hix s := hix_clean s
    rw [this]
    exact ei
  have hjl := (List.getElem?_eq_some_iff.1 hj).1
  have hbl := unit_len s nm
  have esum : sumW (ownS s nm w) = w := by
    unfold sumW
    rw [ew]
    have hl : ((wtsS (unitS s nm)).map (· * w)).length = s.bs.length := by rw [List.length_map, oku.wts_len, hbl]
    refine sum_one _ j (by rw [hl]; exact hjl) fun k hk => ?_
    rw [hl] at hk
    have ha := at_unit ok hj hn hk
    rw [List.getElem?_map]
    have hg : (wtsS (unitS s nm))[k]? = some (Lin.at_ (wtsS (unitS s nm)) k) := by
      unfold Lin.at_
      rw [List.getElem?_eq_getElem (show k < (wtsS (unitS s nm)).length by rw [oku.wts_len, hbl]; exact hk)]
      rfl
    rw [hg, ha, Option.map_some]
    split <;> simp
  have hfull : ¬ rankP (matS (unitS s nm)) (wid (matS (unitS s nm))) < wid (matS (unitS s nm)) := by
    unfold tensP at htu
    rw [if_pos hvu] at htu
    exact ((solve_ok oku.mat_valid oku.len oku.wts_in).1 htu).2
  have htt : (tensP (ownS s nm w)).2 = 0 := by
    unfold tensP
    rw [if_pos hvt]
    refine (solve_ok okt.mat_valid okt.len okt.wts_in).2 ⟨⟨fun k => Z k * w, D, hD, ?_⟩, by rw [em]; exact hfull⟩
    rw [em, ew]
    exact hZ.mul
  have hht : (haulP (ownS s nm w)).2 = 0 := by
    unfold haulP
    rw [if_pos htt, if_neg (by omega)]
  rw [if_pos hht]
  obtain ⟨_, _, i2, r2, ei2, _, _, _, Z2, D2, hD2, hZ2, hVt2⟩ := haulP_val hht
  have : i2 = i := by omega
  subst this
  have hil : i2 < s.rs.length := (List.getElem?_eq_some_iff.1 hr).1
  have hu : Z2 i2 * D = Z i2 * w * D2 := by
    rw [em, ew] at hZ2
    exact sol_uniq oku.mat_valid (by rw [List.length_map]; exact oku.len) (by rw [← ew]; exact okt.wts_in) hfull hD2 hD hZ2 hZ.mul i2 (by rw [oku.mat_wid]; exact hil)
  obtain ⟨v1, v2, n1, d1⟩ := divP_val h
  have a1 : Val (divP (1, 1) (haulP (unitS s nm)).1).1 (1 * D) (1 * Z i2) := by
    rw [d1] at h ⊢
    exact (Val.one (n := 1) (by decide)).div hVt n1 h
  have hzi : Z i2 ≠ 0 := fun e => n1 (hVt.num.2 e)
  have hz2 : Z2 i2 ≠ 0 := fun e => by
    rw [e, Int.zero_mul] at hu
    rcases Int.mul_eq_zero.1 hu.symm with e | e
    · rcases Int.mul_eq_zero.1 e with e | e
      · exact hzi e
      · exact h0 e
    · exact hD2 e
  have hw1 : Val (w, 1) w 1 := Val.one (by omega)
  rw [esum, divP_ok hw1.v hVt2.v, divR_is hw1 hVt2 hz2 (x := (divP (1, 1) (haulP (unitS s nm)).1).1) (a1.to (by rw [Int.one_mul]; exact hz2) (by rw [Int.one_mul, Int.one_mul, Int.one_mul, Int.mul_comm D, hu]; ac_rfl))]
  exact Prod.ext rfl h.symm

/-! AdvantageEqual (plain): works. -/
def workP (s : Sy) (h : List Int) : (Int × Int) × (Int × Int) × Int :=
  if (speedsP s h).2 = 0 then (if (haulP s).2 = 0 then (if (mulP (haulP s).1 (h.getD (hix s).toNat 0, 1)).2 = 0 then (if (dotF (wtsS s) (speedsP s h).1 (0, 1)).2 = 0 then ((mulP (haulP s).1 (h.getD (hix s).toNat 0, 1)).1, (dotF (wtsS s) (speedsP s h).1 (0, 1)).1, 0) else ((0, 0), (0, 0), (dotF (wtsS s) (speedsP s h).1 (0, 1)).2)) else ((0, 0), (0, 0), (mulP (haulP s).1 (h.getD (hix s).toNat 0, 1)).2)) else ((0, 0), (0, 0), (haulP s).2)) else ((0, 0), (0, 0), (speedsP s h).2)
theorem haul_only {s : Sy} {h : List Int} (hg : givH s h = 0) (hv : validS s = true) {i : Nat} {r : Rp} (ei : hix s = (i : Int)) (hr : s.rs[i]? = some r) (hh : r.hl = true) {k : Nat} (hk : k < s.rs.length) (hki : k ≠ i) : Lin.at_ h k = 0 := by
  obtain ⟨_, hl, hp⟩ := givH_zero hg
  obtain ⟨q, hq⟩ : ∃ y, s.rs[k]? = some y := ⟨_, List.getElem?_eq_getElem hk⟩
  obtain ⟨n, hn⟩ : ∃ y, h[k]? = some y := ⟨_, List.getElem?_eq_getElem (by omega)⟩
  have en : Lin.at_ h k = n := by simp [Lin.at_, hn]
  rw [en]
  rcases (rangedP_at hp hq hn).2 with e | e
  · exact e
  · exfalso
    have h1 := (validS_iff.1 hv).h
    have two : ∀ (l : List Rp) (a b : Nat) (x y : Rp), a < b → l[a]? = some x → l[b]? = some y → x.hl = true → y.hl = true → 2 ≤ hauls l := fun l => by
      induction l with
      | nil => intro a b x y _ h; simp at h
      | cons z l ih =>
        intro a b x y hab ha hb hx hy
        cases b with
        | zero => omega
        | succ b =>
          simp only [List.getElem?_cons_succ] at hb
          unfold hauls at ih ⊢
          cases a with
          | zero =>
            simp only [List.getElem?_cons_zero, Option.some.injEq] at ha
            subst ha
            rw [List.filter_cons, if_pos hx, List.length_cons]
            have hm : y ∈ l.filter (·.hl) := List.mem_filter.2 ⟨List.mem_of_getElem? hb, hy⟩
            have := List.length_pos_of_mem hm
            omega
          | succ a =>
            simp only [List.getElem?_cons_succ] at ha
            have := ih a b x y (by omega) ha hb hx hy
            rw [List.filter_cons]
            split
            · rw [List.length_cons]; omega
            · exact this
    rcases Nat.lt_trichotomy k i with hlt | hlt | hlt
    · have := two s.rs k i q r hlt hq hr e hh; omega
    · exact hki hlt
    · have := two s.rs i k r q hlt hr hq hh e; omega
theorem work_cases {s : Sy} {h : List Int} : ((workP s h).2.2 ≠ 0 → (workP s h).1 = (0, 0) ∧ (workP s h).2.1 = (0, 0)) ∧
    ((workP s h).2.2 = 0 → ∃ (i : Nat) (Z : Nat → Int) (D : Int) (X : Nat → Int) (E : Int), (speedsP s h).2 = 0 ∧ (haulP s).2 = 0 ∧ hix s = (i : Int) ∧ i < s.rs.length ∧ D ≠ 0 ∧ SolQ (matS s) (wtsS s) Z D ∧ Val (haulP s).1 (Z i) D ∧ Val (workP s h).1 (Z i * Lin.at_ h i) D ∧ Val (workP s h).2.1 (sumN (fun k => Lin.at_ (wtsS s) k * X k) s.bs.length) E ∧ sumN (fun k => Lin.at_ (wtsS s) k * X k) s.bs.length * D = Lin.at_ h i * Z i * E) := by
  unfold workP
  by_cases h1 : (speedsP s h).2 = 0
  rotate_left 1
  · rw [if_neg h1]; exact ⟨fun _ => ⟨rfl, rfl⟩, fun e => absurd e h1⟩
  rw [if_pos h1]
  by_cases h2 : (haulP s).2 = 0
  rotate_left 1
  · rw [if_neg h2]; exact ⟨fun _ => ⟨rfl, rfl⟩, fun e => absurd e h2⟩
  rw [if_pos h2]
  by_cases h3 : (mulP (haulP s).1 (h.getD (hix s).toNat 0, 1)).2 = 0
  rotate_left 1
  · rw [if_neg h3]; exact ⟨fun _ => ⟨rfl, rfl⟩, fun e => absurd e h3⟩
  rw [if_pos h3]
  by_cases h4 : (dotF (wtsS s) (speedsP s h).1 (0, 1)).2 = 0
  rotate_left 1
  · rw [if_neg h4]; exact ⟨fun _ => ⟨rfl, rfl⟩, fun e => absurd e h4⟩
  rw [if_pos h4]
  refine ⟨fun e => absurd rfl e, fun _ => ?_⟩
  obtain ⟨hv, htz, i, r, ei, hr, hh, _, Z, D, hD, hZ, hVt⟩ := haulP_val h2
  have ok := validS_ok hv
  obtain ⟨X, E, hE, hX, hl, hV⟩ := speedsP_val h1
  obtain ⟨hg, _⟩ := speedsP_full h1
  obtain ⟨_, hhl, hp⟩ := givH_zero hg
  have hil := (List.getElem?_eq_some_iff.1 hr).1
  have eh : h.getD (hix s).toNat 0 = Lin.at_ h i := by rw [ei, Int.toNat_natCast]; rfl
  rw [eh] at h3 ⊢
  have hbd := withinP_spec (rangedP_within hhl hp) (Lin.at_ h i) (by
    unfold Lin.at_
    rw [List.getElem?_eq_getElem (show i < h.length by omega)]
    exact List.getElem_mem _)
  have hhv : Val (Lin.at_ h i, 1) (Lin.at_ h i) 1 := Val.one (by omega)
  rw [mulP_ok hVt.v hhv.v] at h3 ⊢
  have a1 := hVt.mul hhv h3
  rw [Int.mul_one] at a1
  have hd := dot_valW hE (r := wtsS s) (x := (speedsP s h).1) (X := X) (by rw [ok.wts_len, hl]) (fun n hn => by have := withinP_spec ok.wts_in n hn; omega) hV
  have a2 : Val (dotF (wtsS s) (speedsP s h).1 (0, 1)).1 (sumN (fun k => Lin.at_ (wtsS s) k * X k) (wtsS s).length) E := by
    rcases hd with hd | hd
    · exact hd.2
    · omega
  rw [ok.wts_len] at a2
  refine ⟨i, Z, D, X, E, h1, h2, ei, hil, hD, hZ, hVt, a1, a2, ?_⟩
  have hvw := ok.virtual hhl hZ hX
  have : sumN (fun k => Lin.at_ h k * Z k) s.rs.length = Lin.at_ h i * Z i := by
    rw [sumN_congr (G := fun k => (Lin.at_ h i * Z i) * (if i = k then 1 else 0)) _ fun k hk => by
      by_cases e : i = k
      · subst e; rw [if_pos rfl, Int.mul_one]
      · rw [if_neg e, haul_only hg hv ei hr hh hk (fun h => e h.symm)]; simp, sumN_pick (fun _ => Lin.at_ h i * Z i) _ _ _ hil, Int.mul_one]
  rw [← this]
  exact hvw
theorem work_same {s : Sy} {h : List Int} (h0 : (workP s h).2.2 = 0) : (workP s h).1 = (workP s h).2.1 := by
  obtain ⟨i, Z, D, X, E, _, _, _, _, hD, _, _, a1, a2, e⟩ := (work_cases (s := s) (h := h)).2 h0
  refine a1.eq a2 ?_
  rw [e, Int.mul_comm (Z i)]
theorem work_times {s : Sy} {h : List Int} (h0 : (workP s h).2.2 = 0) {n : Int} (hn : 0 ≤ n ∧ n ≤ 255) : ((workP s (h.map (· * n))).2.2 = 0 ∧ ((mulP (workP s h).1 (n, 1)).2 = 0 → (workP s (h.map (· * n))).1 = (mulP (workP s h).1 (n, 1)).1)) ∨ (workP s (h.map (· * n))).2.2 = 2 ∨ (workP s (h.map (· * n))).2.2 = 5 := by
  obtain ⟨i, Z, D, X, E, h1, h2, ei, hil, hD, hZ, hVt, a1, a2, e⟩ := (work_cases (s := s) (h := h)).2 h0
  rcases speeds_mul h1 n with e2 | ⟨e2, _, _⟩
  · refine .inr (.inl ?_)
    unfold workP
    rw [if_neg (by omega)]
    exact e2
  by_cases hw : (workP s (h.map (· * n))).2.2 = 0
  · refine .inl ⟨hw, fun hm => ?_⟩
    obtain ⟨i', Z', D', X', E', _, _, ei', _, hD', hZ', hVt', b1, _, _⟩ := (work_cases (s := s) (h := h.map (· * n))).2 hw
    have : i' = i := by omega
    subst this
    have hnv : Val (n, 1) n 1 := Val.one (by omega)
    rw [mulP_ok a1.v hnv.v] at hm ⊢
    refine b1.eq (a1.mul hnv hm) ?_
    have hat : Lin.at_ (h.map (· * n)) i' = Lin.at_ h i' * n := by
      unfold Lin.at_
      rw [List.getElem?_map]
      cases h[i']? <;> simp
    rw [hat]
    have hs := hVt'.same hVt
    calc Z' i' * (Lin.at_ h i' * n) * (D * 1) = (Z' i' * D) * (Lin.at_ h i' * n) := by rw [Int.mul_one]; ac_rfl
      _ = (Z i' * D') * (Lin.at_ h i' * n) := by rw [hs]
      _ = Z i' * Lin.at_ h i' * n * D' := by ac_rfl
  · refine .inr (.inr ?_)
    obtain ⟨hg2, _⟩ := speedsP_full e2
    obtain ⟨hv2, hhl, hp⟩ := givH_zero hg2
    have ok := validS_ok hv2
    obtain ⟨X2, E2, hE2, hX2, hl2, hV2⟩ := speedsP_val e2
    unfold workP at hw ⊢
    rw [if_pos e2, if_pos h2] at hw ⊢
    have hbd := withinP_spec (rangedP_within hhl hp) ((h.map (· * n)).getD (hix s).toNat 0) (by
      rw [ei, Int.toNat_natCast, List.getD_eq_getElem?_getD, List.getElem?_eq_getElem (show i < (h.map (· * n)).length by omega)]
      exact List.getElem_mem _)
    have hhv : Val ((h.map (· * n)).getD (hix s).toNat 0, 1) _ 1 := Val.one (by omega)
    split at hw
    · rename_i hm
      rw [if_pos hm]
      have hd := dot_valW hE2 (r := wtsS s) (x := (speedsP s (h.map (· * n))).1) (X := X2) (by rw [ok.wts_len, hl2]) (fun n hn => by have := withinP_spec ok.wts_in n hn; omega) hV2
      split at hw
      · exact absurd rfl hw
      · rename_i hd2
        rw [if_neg hd2]
        rcases hd with hd | hd
        · exact absurd hd.1 hd2
        · exact hd
    · rename_i hm
      rw [if_neg hm]
      rw [mulP_ok hVt.v hhv.v] at hm ⊢
      rcases mulR_err hVt.v hhv.v with e | e
      · exact absurd e hm
      · exact e
end Go.Proofs.Ytjjpjgnoanfaoaa.T

namespace Go.Proofs.Ytjjpjgnoanfaoaa.T
open Go Go.RowKit Lin
set_option linter.unusedSimpArgs false

/-! Comparisons of fractions (plain). -/
def cmpV (a b : Int × Int) : Int := if a.1 * b.2 < b.1 * a.2 then -1 else if b.1 * a.2 < a.1 * b.2 then 1 else 0
def cmpP (a b : Int × Int) : Int × Int := if vfrac a.1 a.2 = true ∧ vfrac b.1 b.2 = true then (cmpV a b, 0) else (0, 1)
theorem cmpP_ok {a b : Int × Int} (ha : vfrac a.1 a.2 = true) (hb : vfrac b.1 b.2 = true) : cmpP a b = (cmpV a b, 0) := by unfold cmpP; rw [if_pos ⟨ha, hb⟩]
theorem cmpV_lt {a b : Int × Int} : cmpV a b < 0 ↔ a.1 * b.2 < b.1 * a.2 := by
  unfold cmpV
  split
  · rename_i h; exact ⟨fun _ => h, fun _ => by decide⟩
  · rename_i h
    split
    · exact ⟨fun h => absurd h (by decide), fun h' => absurd h' h⟩
    · exact ⟨fun h => absurd h (by decide), fun h' => absurd h' h⟩
theorem cmpV_gt {a b : Int × Int} : 0 < cmpV a b ↔ b.1 * a.2 < a.1 * b.2 := by
  unfold cmpV
  split
  · rename_i h; exact ⟨fun h => absurd h (by decide), fun h' => by omega⟩
  · split
    · rename_i h; exact ⟨fun _ => h, fun _ => by decide⟩
    · rename_i h; exact ⟨fun h => absurd h (by decide), fun h' => absurd h' h⟩
theorem cmpV_eq {a b : Int × Int} (ha : vfrac a.1 a.2 = true) (hb : vfrac b.1 b.2 = true) : cmpV a b = 0 ↔ a = b := by
  constructor
  · intro h
    have h1 : ¬ cmpV a b < 0 := by omega
    have h2 : ¬ 0 < cmpV a b := by omega
    rw [cmpV_lt] at h1
    rw [cmpV_gt] at h2
    exact frac_eq ha hb (by omega)
  · rintro rfl
    have h1 : ¬ cmpV a a < 0 := fun h => by rw [cmpV_lt] at h; omega
    have h2 : ¬ 0 < cmpV a a := fun h => by rw [cmpV_gt] at h; omega
    omega
theorem cmpV_self (a : Int × Int) : cmpV a a = 0 := by
  have h1 : ¬ cmpV a a < 0 := fun h => by rw [cmpV_lt] at h; omega
  have h2 : ¬ 0 < cmpV a a := fun h => by rw [cmpV_gt] at h; omega
  omega
theorem le_lt_trans {a b c : Int × Int} (ha : vfrac a.1 a.2 = true) (hb : vfrac b.1 b.2 = true) (hc : vfrac c.1 c.2 = true) (h1 : a.1 * b.2 ≤ b.1 * a.2) (h2 : b.1 * c.2 < c.1 * b.2) : a.1 * c.2 < c.1 * a.2 := by
  have a0 := (fr_bounds ha).1
  have b0 := (fr_bounds hb).1
  have c0 := (fr_bounds hc).1
  have e1 := Int.mul_le_mul_of_nonneg_right h1 (show (0 : Int) ≤ c.2 by omega)
  have e2 := Int.mul_lt_mul_of_pos_right h2 (show (0 : Int) < a.2 by omega)
  refine Int.lt_of_mul_lt_mul_right (a := b.2) ?_ (by omega)
  calc a.1 * c.2 * b.2 = a.1 * b.2 * c.2 := by ac_rfl
    _ ≤ b.1 * a.2 * c.2 := e1
    _ = b.1 * c.2 * a.2 := by ac_rfl
    _ < c.1 * b.2 * a.2 := e2
    _ = c.1 * a.2 * b.2 := by ac_rfl
/-- The values decide, over denominators that are positive. -/
theorem Val.lt_iff {a b : Int × Int} {p q r s : Int} (ha : Val a p q) (hb : Val b r s) (hq : 0 < q) (hs : 0 < s) : a.1 * b.2 < b.1 * a.2 ↔ p * s < r * q := by
  have a0 := (fr_bounds ha.v).1
  have b0 := (fr_bounds hb.v).1
  have e1 := ha.e
  have e2 := hb.e
  have x : a.1 * b.2 * (q * s) = p * s * (a.2 * b.2) := by
    calc a.1 * b.2 * (q * s) = (a.1 * q) * (s * b.2) := by ac_rfl
      _ = p * s * (a.2 * b.2) := by rw [e1]; ac_rfl
  have y : b.1 * a.2 * (q * s) = r * q * (a.2 * b.2) := by
    calc b.1 * a.2 * (q * s) = (b.1 * s) * (q * a.2) := by ac_rfl
      _ = r * q * (a.2 * b.2) := by rw [e2]; ac_rfl
  have p1 : 0 < q * s := Int.mul_pos hq hs
  have p2 : 0 < a.2 * b.2 := Int.mul_pos (by omega) (by omega)
  constructor
  · intro h
    have := Int.mul_lt_mul_of_pos_right h p1
    rw [x, y] at this
    exact Int.lt_of_mul_lt_mul_right this (by omega)
  · intro h
    have := Int.mul_lt_mul_of_pos_right h p2
    rw [← x, ← y] at this
    exact Int.lt_of_mul_lt_mul_right this (by omega)

/-! Best (plain). -/
def bstS (nm : ByteArray) (st : (Int × Int) × Int) (i : Nat) (s : Sy) : (Int × Int) × Int := if (forP s nm).2 = 0 ∧ (st.2 < 0 ∨ 0 < cmpV (forP s nm).1 st.1) then ((forP s nm).1, (i : Int)) else st
def bstK (l : List Sy) (nm : ByteArray) : Nat → (Int × Int) × Int
  | 0 => ((0, 0), -1)
  | k + 1 => match l[k]? with
    | some s => bstS nm (bstK l nm k) k s
    | none => bstK l nm k
theorem bstK_step {l : List Sy} {nm : ByteArray} {k : Nat} {s : Sy} (h : l[k]? = some s) : bstK l nm (k + 1) = bstS nm (bstK l nm k) k s := by simp only [bstK, h]
def bestP (l : List Sy) (nm : ByteArray) : Int × Int := if (l.any fun s => !validS s) = true then (0, 1) else if 20 < l.length then (0, 4) else if (bstK l nm l.length).2 < 0 then (0, 12) else ((bstK l nm l.length).2, 0)
theorem forP_vfrac {s : Sy} {nm : ByteArray} (h : (forP s nm).2 = 0) : vfrac (forP s nm).1.1 (forP s nm).1.2 = true := by
  unfold forP at h ⊢
  split at h
  · rename_i hv
    rw [if_pos hv]
    split at h
    · simp at h
    · rename_i hb
      rw [if_neg hb]
      unfold overN at h ⊢
      split at h
      · rename_i hh
        rw [if_pos hh]
        obtain ⟨v1, v2, n1, d1⟩ := divP_val h
        rw [d1] at h ⊢
        exact ((Val.self (x := (1, 1)) v1).div (Val.self v2) n1 h).v
      · rename_i hh; exact absurd h hh
  · simp at h
theorem bstK_spec (l : List Sy) (nm : ByteArray) : ∀ k, k ≤ l.length → ((bstK l nm k).2 = -1 ∧ ∀ i s, i < k → l[i]? = some s → (forP s nm).2 ≠ 0) ∨ ∃ (n : Nat) (b : Sy), (bstK l nm k).2 = (n : Int) ∧ n < k ∧ l[n]? = some b ∧ (forP b nm).2 = 0 ∧ (bstK l nm k).1 = (forP b nm).1 ∧ ∀ i s, i < k → l[i]? = some s → (forP s nm).2 = 0 → ¬ 0 < cmpV (forP s nm).1 (forP b nm).1 ∧ (cmpV (forP s nm).1 (forP b nm).1 = 0 → n ≤ i)
  | 0, _ => .inl ⟨rfl, fun i s h => by omega⟩
  | k + 1, hk => by
    obtain ⟨x, hx⟩ : ∃ y, l[k]? = some y := ⟨_, List.getElem?_eq_getElem (by omega)⟩
    rw [bstK_step hx]
    have ih := bstK_spec l nm k (by omega)
    unfold bstS
    split
    · rename_i hc
      refine .inr ⟨k, x, rfl, by omega, hx, hc.1, rfl, fun i s hi hs hf => ?_⟩
      by_cases hik : i = k
      · subst hik
        rw [hx, Option.some.injEq] at hs
        subst hs
        rw [cmpV_self]
        exact ⟨by omega, fun _ => Nat.le_refl _⟩
      · rcases ih with ⟨_, h2⟩ | ⟨n, b, h1, h2, h3, h4, h5, h6⟩
        · exact absurd hf (h2 i s (by omega) hs)
        · have hgt : 0 < cmpV (forP x nm).1 (forP b nm).1 := by
            rcases hc.2 with h | h
            · omega
            · rw [h5] at h; exact h
          have h7 := (h6 i s (by omega) hs hf).1
          rw [cmpV_gt] at h7 hgt
          have hlt := le_lt_trans (forP_vfrac hf) (forP_vfrac h4) (forP_vfrac hc.1) (by omega) hgt
          rw [← cmpV_lt] at hlt
          exact ⟨by omega, fun e => by omega⟩
    · rename_i hc
      rcases ih with ⟨h1, h2⟩ | ⟨n, b, h1, h2, h3, h4, h5, h6⟩
      · refine .inl ⟨h1, fun i s hi hs => ?_⟩
        by_cases hik : i = k
        · subst hik
          rw [hx, Option.some.injEq] at hs
          subst hs
          intro hf
          exact hc ⟨hf, .inl (by omega)⟩
        · exact h2 i s (by omega) hs
      · refine .inr ⟨n, b, h1, by omega, h3, h4, h5, fun i s hi hs hf => ?_⟩
        by_cases hik : i = k
        · subst hik
          rw [hx, Option.some.injEq] at hs
          subst hs
          refine ⟨fun h => hc ⟨hf, .inr (by rw [h5]; exact h)⟩, fun _ => by omega⟩
        · exact h6 i s (by omega) hs hf

/-! AdvantageHolds (plain): the tension is the sum of the weights over their advantages. -/
def keepB (l : List Bk) (k : Nat) : List Int := (l.take k).map (·.w) ++ List.replicate (l.length - k) 0
theorem keepB_len (l : List Bk) (k : Nat) (h : k ≤ l.length) : (keepB l k).length = l.length := by simp [keepB]; omega
theorem keepB_end (s : Sy) : keepB s.bs s.bs.length = wtsS s := by simp [keepB, wtsS]
theorem keepB_get {l : List Bk} {k i : Nat} {b : Bk} (hk : k ≤ l.length) (hb : l[i]? = some b) : (keepB l k)[i]? = some (if i < k then b.w else 0) := by
  have hi := (List.getElem?_eq_some_iff.1 hb).1
  unfold keepB
  split
  · rename_i h
    rw [List.getElem?_append_left (by simp; omega), List.getElem?_map, List.getElem?_take, if_pos h, hb]
    rfl
  · rename_i h
    rw [List.getElem?_append_right (by simp; omega), List.getElem?_replicate, if_pos (by simp; omega)]
/-- What is known of the sum over the first k blocks. -/
def SumI (s : Sy) (i k : Nat) (c : Int × Int) : Prop := ∃ (Z : Nat → Int) (D : Int), D ≠ 0 ∧ SolQ (matS s) (keepB s.bs k) Z D ∧ Val c (Z i) D
theorem SumI.zero (s : Sy) (i : Nat) : SumI s i 0 (0, 1) := by
  refine ⟨fun _ => 0, 1, by decide, fun j r b _ hb => ?_, Val.one (by decide)⟩
  have : b = 0 := by
    have hm := List.mem_of_getElem? hb
    simp only [keepB, List.take_zero, List.map_nil, List.nil_append] at hm
    exact (List.mem_replicate.1 hm).2
  subst this
  simp [sumN_zero]
theorem hold_unit {s : Sy} (hv : validS s = true) (hz : (tensP s).2 = 0) {i : Nat} (ei : hix s = (i : Int)) {b : Bk} {j : Nat} (hb : s.bs[j]? = some b) : (forP s b.nm).2 = 0 ∨ (forP s b.nm).2 = 16 ∨ (forP s b.nm).2 = 22 := by
  have ok := validS_ok hv
  have hvu := unit_valid hv b.nm
  have oku := validS_ok hvu
  have hfb : ¬ findB s.bs b.nm < 0 := by
    have := (findB_ne hb)
    have h2 : (0 : Int) ≤ findB s.bs b.nm := by
      have h3 := findB_ge s.bs b.nm
      have h4 : (bNames s.bs).contains b.nm = true := by
        rw [List.contains_iff_mem]
        exact List.mem_map.2 ⟨b, List.mem_of_getElem? hb, rfl⟩
      rw [h4] at h3
      simpa using h3
    omega
  have em : matS (unitS s b.nm) = matS s := matS_names rfl (unit_names s b.nm)
  have hfull : ¬ rankP (matS (unitS s b.nm)) (wid (matS (unitS s b.nm))) < wid (matS (unitS s b.nm)) := by
    unfold tensP at hz
    rw [if_pos hv] at hz
    rw [em]
    exact ((solve_ok ok.mat_valid ok.len ok.wts_in).1 hz).2
  unfold forP
  rw [if_pos hv, if_neg hfb]
  unfold overN
  have hx : hix (unitS s b.nm) = (i : Int) := ei
  by_cases ht : (tensP (unitS s b.nm)).2 = 0
  · have hh : (haulP (unitS s b.nm)).2 = 0 := by
      unfold haulP
      rw [if_pos ht, if_neg (by omega)]
    rw [if_pos hh]
    obtain ⟨_, _, _, _, _, _, _, _, Z, D, hD, hZ, hV⟩ := haulP_val hh
    rw [divP_ok (by decide) hV.v]
    by_cases h0 : (haulP (unitS s b.nm)).1.1 = 0
    · rw [div_zero h0]; exact .inr (.inl rfl)
    · have h1 := (Val.self (x := (1, 1)) (by decide))
      have h2 := Val.self hV.v
      have h3 := h2.recip h0
      rw [divR_is h1 h2 h0 (x := T.recip (haulP (unitS s b.nm)).1) (h3.to (by simpa using h0) (by simp))]
      exact .inl rfl
  · have hh : haulP (unitS s b.nm) = ((0, 0), (tensP (unitS s b.nm)).2) := by
      unfold haulP
      rw [if_neg ht]
    rw [hh, if_neg ht]
    unfold tensP at ht ⊢
    rw [if_pos hvu] at ht ⊢
    rcases solve_cases oku.mat_valid oku.len oku.wts_in with e | e | e
    · exact absurd e ht
    · exact absurd ((solve_free oku.mat_valid oku.len oku.wts_in).1 e).2 hfull
    · exact .inr (.inr e)
/-- One block more. -/
theorem SumI.next {s : Sy} (hv : validS s = true) {i k : Nat} (ei : hix s = (i : Int)) {c : Int × Int} (h : SumI s i k c) {b : Bk} (hb : s.bs[k]? = some b) {Y : Nat → Int} {E : Int} (hE : E ≠ 0) (hY : SolQ (matS (unitS s b.nm)) (wtsS (unitS s b.nm)) Y E) {d : Int × Int} {r q : Int} (hd : Val d r q) (e : b.w * Y i * q = r * E) (ha : (addR c d).2 = 0) : SumI s i (k + 1) (addR c d).1 := by
  obtain ⟨Z, D, hD, hZ, hV⟩ := h
  have ok := validS_ok hv
  have em : matS (unitS s b.nm) = matS s := matS_names rfl (unit_names s b.nm)
  rw [em] at hY
  have hk := (List.getElem?_eq_some_iff.1 hb).1
  refine ⟨fun j => Z j * E + (Y j * b.w) * D, D * E, Int.mul_ne_zero hD hE, fun j row x hj hx => ?_, (hV.add hd ha).to (Int.mul_ne_zero hD hE) ?_⟩
  · have hjl : j < s.bs.length := by
      have := (List.getElem?_eq_some_iff.1 hj).1
      rw [ok.mat_len] at this
      exact this
    obtain ⟨g, hg⟩ : ∃ y, s.bs[j]? = some y := ⟨_, List.getElem?_eq_getElem hjl⟩
    rw [keepB_get (by omega) hg, Option.some.injEq] at hx
    have h1 := hZ j row _ hj (keepB_get (by omega) hg)
    have hu : (wtsS (unitS s b.nm))[j]? = some (if k = j then 1 else 0) := by
      have := at_unit ok hb rfl hjl
      rw [← this]
      unfold Lin.at_
      rw [List.getElem?_eq_getElem (show j < (wtsS (unitS s b.nm)).length by simp [wtsS, unitS]; exact hjl)]
      rfl
    have h2 := hY j row _ hj hu
    rw [sum_two, h1]
    have e3 : sumN (fun n => Lin.at_ row n * (Y n * b.w)) (wid (matS s)) = b.w * sumN (fun n => Lin.at_ row n * Y n) (wid (matS s)) := by
      rw [← sumN_mul]
      exact sumN_congr _ fun n _ => by ac_rfl
    rw [e3, h2, ← hx]
    by_cases hjk : k = j
    · subst hjk
      rw [hb, Option.some.injEq] at hg
      subst hg
      rw [if_pos rfl, if_neg (by omega), if_pos (by omega)]
      grind
    · rw [if_neg hjk]
      by_cases hlt : j < k
      · rw [if_pos hlt, if_pos (by omega)]
        grind
      · rw [if_neg hlt, if_neg (by omega)]
        grind
  · grind
theorem SumI.same {s : Sy} (hv : validS s = true) {i k : Nat} (ei : hix s = (i : Int)) {c : Int × Int} (h : SumI s i k c) {b : Bk} (hb : s.bs[k]? = some b) {Y : Nat → Int} {E : Int} (hE : E ≠ 0) (hY : SolQ (matS (unitS s b.nm)) (wtsS (unitS s b.nm)) Y E) (e : Y i = 0) : SumI s i (k + 1) c := by
  have h0 : Val ((0, 1) : Int × Int) 0 1 := Val.one (by decide)
  obtain ⟨Z, D, hD, hZ, hV⟩ := h
  have hs : addR c (0, 1) = (c, 0) := addR_is hV h0 (by simpa using hV)
  have := SumI.next hv ei ⟨Z, D, hD, hZ, hV⟩ hb hE hY h0 (by rw [e]; simp) (by rw [hs])
  rw [hs] at this
  exact this
theorem SumI.end_ {s : Sy} {i : Nat} (ei : hix s = (i : Int)) {c : Int × Int} (h : SumI s i s.bs.length c) (hh : (haulP s).2 = 0) : c = (haulP s).1 := by
  obtain ⟨Z, D, hD, hZ, hV⟩ := h
  rw [keepB_end] at hZ
  obtain ⟨hv, hz, i', r, ei', hr, _, _, Z', D', hD', hZ', hV'⟩ := haulP_val hh
  have ok := validS_ok hv
  have : i' = i := by omega
  subst this
  have hfull : ¬ rankP (matS s) (wid (matS s)) < wid (matS s) := by
    unfold tensP at hz
    rw [if_pos hv] at hz
    exact ((solve_ok ok.mat_valid ok.len ok.wts_in).1 hz).2
  exact hV.eq hV' (sol_uniq ok.mat_valid ok.len ok.wts_in hfull hD hD' hZ hZ' i' (by rw [ok.mat_wid]; exact (List.getElem?_eq_some_iff.1 hr).1))
/-- A weight over its block's advantage. -/
theorem hold_term {s : Sy} {b : Bk} (h : (forP s b.nm).2 = 0) (hw : 0 ≤ b.w ∧ b.w ≤ 16777216) {i : Nat} (ei : hix s = (i : Int)) (hd : (divP (b.w, 1) (forP s b.nm).1).2 = 0) : ∃ (Y : Nat → Int) (E r q : Int), E ≠ 0 ∧ SolQ (matS (unitS s b.nm)) (wtsS (unitS s b.nm)) Y E ∧ Val (divP (b.w, 1) (forP s b.nm).1).1 r q ∧ b.w * Y i * q = r * E := by
  have hfv := forP_vfrac h
  unfold forP at h hd hfv ⊢
  split at h
  rotate_left 1
  · simp at h
  rename_i hv
  rw [if_pos hv] at hd hfv ⊢
  split at h
  · simp at h
  rename_i hb
  rw [if_neg hb] at hd hfv ⊢
  unfold overN at h hd hfv ⊢
  split at h
  rotate_left 1
  · rename_i hh; exact absurd h hh
  rename_i hh
  rw [if_pos hh] at hd hfv ⊢
  obtain ⟨_, _, i', _, ei', _, _, _, Y, E, hE, hY, hV⟩ := haulP_val hh
  have ei2 : hix s = (i' : Int) := ei'
  have : i' = i := by omega
  subst this
  obtain ⟨v1, v2, n1, d1⟩ := divP_val h
  have a1 : Val (divP (1, 1) (haulP (unitS s b.nm)).1).1 (1 * E) (1 * Y i') := by
    rw [d1] at h ⊢
    exact (Val.one (n := 1) (by decide)).div hV n1 h
  obtain ⟨u1, u2, m1, d2⟩ := divP_val hd
  rw [d2] at hd ⊢
  have hw1 : Val (b.w, 1) b.w 1 := Val.one (by omega)
  exact ⟨Y, E, _, _, hE, hY, hw1.div a1 m1 hd, by grind⟩
theorem hold_zero {s : Sy} {b : Bk} (h : (forP s b.nm).2 = 16) {i : Nat} (ei : hix s = (i : Int)) : ∃ (Y : Nat → Int) (E : Int), E ≠ 0 ∧ SolQ (matS (unitS s b.nm)) (wtsS (unitS s b.nm)) Y E ∧ Y i = 0 := by
  unfold forP at h
  split at h
  rotate_left 1
  · simp at h
  rename_i hv
  split at h
  · simp at h
  rename_i hb
  unfold overN at h
  split at h
  rotate_left 1
  · rename_i hh
    exfalso
    have hvu := unit_valid hv b.nm
    have oku := validS_ok hvu
    unfold haulP tensP at h
    rw [if_pos hvu] at h
    split at h
    · split at h <;> simp at h
    · rcases solve_cases oku.mat_valid oku.len oku.wts_in with e | e | e <;> simp only [e] at h <;> omega
  rename_i hh
  obtain ⟨_, _, i', _, ei', _, _, _, Y, E, hE, hY, hV⟩ := haulP_val hh
  have ei2 : hix s = (i' : Int) := ei'
  have : i' = i := by omega
  subst this
  refine ⟨Y, E, hE, hY, ?_⟩
  rw [divP_ok (by decide) hV.v] at h
  rcases divR_err (a := (1, 1)) (by decide) hV.v with ⟨h0, _⟩ | ⟨_, h0⟩
  · exact hV.num.1 h0
  · omega
end Go.Proofs.Ytjjpjgnoanfaoaa.T

namespace Go.Proofs.Ytjjpjgnoanfaoaa.T
open Go Go.RowKit
set_option linter.unusedSimpArgs false

/-! A call whose result holds a slice of a block of its own among plain values. -/
theorem RepL_split {F : Mem} {G : Ghost} {d : D} {b : List D} : ∀ {a : List D} {us : List Value}, RepL F G (a ++ d :: b) us → ∃ ua u ub, us = ua ++ u :: ub ∧ RepL F G a ua ∧ Rep F G d u ∧ RepL F G b ub
  | [], us, h => by
    simp only [List.nil_append, RepL] at h
    obtain ⟨u, us', e, h1, h2⟩ := h
    exact ⟨[], u, us', e, by simp [RepL], h1, h2⟩
  | x :: a, us, h => by
    simp only [List.cons_append, RepL] at h
    obtain ⟨u, us', rfl, h1, h2⟩ := h
    obtain ⟨ua, v, ub, rfl, k1, k2, k3⟩ := RepL_split h2
    exact ⟨u :: ua, v, ub, rfl, by simp only [RepL]; exact ⟨u, ua, rfl, h1, k1⟩, k2, k3⟩
theorem RepL_join {F : Mem} {G : Ghost} {d : D} {b : List D} {u : Value} {ub : List Value} (h2 : Rep F G d u) (h3 : RepL F G b ub) : ∀ {a : List D} {ua : List Value}, RepL F G a ua → RepL F G (a ++ d :: b) (ua ++ u :: ub)
  | [], ua, h => by
    simp only [RepL] at h
    subst h
    simp only [List.nil_append, RepL]
    exact ⟨u, ub, rfl, h2, h3⟩
  | x :: a, ua, h => by
    simp only [RepL] at h
    obtain ⟨v, us', rfl, h1, h4⟩ := h
    simp only [List.cons_append, RepL]
    exact ⟨v, _, rfl, h1, RepL_join h2 h3 h4⟩
def wrapD (tup : Bool) (pre post : List D) (o : D) : D := if tup = true then .tup (pre ++ o :: post) else .agg (pre ++ o :: post)
theorem wrap_split {F : Mem} {G : Ghost} {tup : Bool} {pre post : List D} {o : D} {u : Value} (h1 : plainL pre = true) (h2 : plainL post = true) (h : Rep F G (wrapD tup pre post o) u) : ∃ v, Rep F G o v ∧ ∀ G' o', Rep F G' o' v → Rep F G' (wrapD tup pre post o') u := by
  unfold wrapD at h ⊢
  cases tup
  · simp only [Bool.false_eq_true, if_false, Rep] at h ⊢
    obtain ⟨vs, rfl, hL⟩ := h
    obtain ⟨ua, v, ub, rfl, k1, k2, k3⟩ := RepL_split hL
    exact ⟨v, k2, fun G' o' ho => ⟨_, rfl, RepL_join ho (plain_repL _ _ h2 k3) (plain_repL _ _ h1 k1)⟩⟩
  · simp only [if_true, Rep] at h ⊢
    obtain ⟨vs, rfl, hL⟩ := h
    obtain ⟨ua, v, ub, rfl, k1, k2, k3⟩ := RepL_split hL
    exact ⟨v, k2, fun G' o' ho => ⟨_, rfl, RepL_join ho (plain_repL _ _ h2 k3) (plain_repL _ _ h1 k1)⟩⟩
section
variable {P : Program}
theorem PFreshX.intro {f : FuncId} {ds : List D} {ty : TypeId} {sz n : Nat} {cells : List D} {tup : Bool} {pre post : List D} (hc : plainL cells = true) (h1 : plainL pre = true) (h2 : plainL post = true)
    (h : ∀ t, ACall P f ds [] t fun d H' _ => ∃ b g, d = wrapD tup pre post (.own sz b g 0 n) ∧ H'[b]? = some (some ⟨ty, g, cells⟩)) : PFreshX P f ds ty sz n cells (wrapD tup pre post) := by
  refine fun F G w us hF hL => ?_
  obtain ⟨t, ht⟩ := top_of G
  have R : Rel w F G [] t w := ⟨Below.refl _ _, hF, Nat.zero_le _, ht, fun i bl h => by simp at h, fun i j bi bj p q r s t u _ h => by simp at h⟩
  refine (h t w F G w us R hL).mono fun e w' hx => ?_
  obtain ⟨F', G', u, d', H', t', rfl, onw, R', hd, b, g, rfl, hb⟩ := hx
  obtain ⟨v, hv, hw⟩ := wrap_split h1 h2 hd
  obtain ⟨p, hp, hg, hl⟩ := R'.own b _ hb
  refine ⟨F', u, v, p, rfl, onw.mem, fun b o hb => onw.old b o hb, R'.mem, R'.below, ⟨rfl, ?_⟩, ?_, hw⟩
  · cases hr : p.r with
    | none => rw [hr] at hl; exact hl
    | some rs =>
      obtain ⟨r, s⟩ := rs
      rw [hr] at hl
      obtain ⟨k1, k2, hl⟩ := hl
      refine ⟨k1, k2, ?_⟩
      cases hpm : p.m with
      | false =>
        rw [hpm] at hl
        obtain ⟨vs, junk, k3, k4, k5⟩ := hl
        exact ⟨vs, junk, k3, k4, plain_repL _ _ hc k5⟩
      | true => rw [hpm] at hl; exact hl
  · simp only [Rep] at hv ⊢
    obtain ⟨k1, p', hp', k2, k3⟩ := hv
    rw [hp] at hp'; cases hp'
    exact ⟨k1, p, rfl, Nat.le_refl _, fun _ => k3 hg⟩
theorem ACall.of_freshX {f : FuncId} {ds ds' : List D} {ty : TypeId} {sz n : Nat} {cells : List D} {wf : D → D} {H : Hp} {t : Nat} {K : D → Hp → Nat → Prop} (h : PFreshX P f ds' ty sz n cells wf) (hd : ds.map ufa = ds') (hk : K (wf (.own sz H.length (t + 1) 0 n)) (setH H H.length ⟨ty, t + 1, cells⟩) (t + 1)) : ACall P f ds H t K := by
  refine fun w0 F G w us R hL => ?_
  subst hd
  have hL' : RepL F G (ds.map ufa) us := RepL_map (fun d u _ hd => hd.ufa) hL
  have go : ∀ G1, Ghost.le G.length G G1 → G.length ≤ G1.length → Rel w0 F G1 H t w → H.length < G1.length → Runs P f us.toArray w fun e w' => ∃ F' G' u d H' t', e = .returned u ∧ Onw w0 F G F' G' ∧ Rel w0 F' G' H' t' w' ∧ Rep F' G' d u ∧ K d H' t' := fun G1 g1 g2 R1 hlt => by
    obtain ⟨p0, hp0⟩ : ∃ p, G1[H.length]? = some p := ⟨_, List.getElem?_eq_getElem hlt⟩
    have htop := R1.top _ _ hp0
    refine (h F G w us R.mem hL').mono fun e w' hx => ?_
    obtain ⟨F', u, v, p, rfl, h1, h2, h3, h4, h5, h6, h7⟩ := hx
    obtain ⟨k1, k2⟩ := R1.fresh (t' := t + 1) (sp := t + 1) (Nat.le_succ t) (Nat.le_refl _) (Nat.le_refl _) hp0 (by omega) h1 h2 h3 h4 h5 h6
    exact ⟨F', _, u, _, _, _, rfl, ⟨h1, fun b o hb => h2 b o (by have := R.below.size; omega), g1.trans ((Ghost.le_set hp0 (.inr (by simp only; omega)) _).less g2), by simpa using g2⟩, k1, h7 _ _ k2, hk⟩
  rcases Nat.lt_or_ge H.length G.length with hlt | hge
  · exact go G (.refl _ _) (Nat.le_refl _) R hlt
  · have heq : H.length = G.length := Nat.le_antisymm R.len hge
    exact go (G ++ [⟨none, 0, false⟩]) (fun i p hi hp => ⟨p, by rw [List.getElem?_append_left hi]; exact hp, .refl p⟩) (by simp) R.extend (by simp; omega)
end
end Go.Proofs.Ytjjpjgnoanfaoaa.T

namespace Go.Proofs.Ytjjpjgnoanfaoaa.T
open Go Go.RowKit Lin
set_option linter.unusedSimpArgs false

/-! Copies of a system whose blocks, or ropes, are the caller's own. -/
theorem cellsC_bk (l : List Bk) : (bkC l).all isCell = true := by
  induction l with
  | nil => rfl
  | cons x r ih => simp only [bkC, List.flatMap_cons, List.all_append, Bool.and_eq_true] at ih ⊢; exact ⟨rfl, ih⟩
theorem cellsC_hd (l : List Hd) : (hdC l).all isCell = true := by
  induction l with
  | nil => rfl
  | cons x r ih => simp only [hdC, List.flatMap_cons, List.all_append, Bool.and_eq_true] at ih ⊢; exact ⟨rfl, ih⟩
set_option maxHeartbeats 4000000 in
theorem copyB (s : Sy) (ok : OkS s) : PFreshX Try.prog 34 [syD s] 57 2 s.bs.length (bkC s.bs) (fun o => .agg [o, rps s.rs]) := by
  refine PFreshX.intro (tup := false) (pre := []) (post := [rps s.rs]) (plain_bk _) rfl (by simp only [plainL, plainD, plain_rp, Bool.and_self]) fun t => ACall.enter tab_ok Try.func34 rfl rfl Try.ntmps34 (by simp) ?_
  simp only [enterTM]
  have hdr := rpC_div s.rs
  have hdb := bkC_div s.bs
  have hlb := bkC_len s.bs
  have b1 := ok.b1
  have b6 := ok.b6
  have r6 := ok.r6
  have hcb := cellsC_bk s.bs
  have hnb : (bkC s.bs = []) = False := by
    simp only [eq_iff_iff, iff_false]
    intro e
    rw [e] at hlb
    simp at hlb
    omega
  ((refine wqa ?_))
  ((refine wqb (F := _∧_∧_) ⟨hcb, hnb, hdb⟩ ?_))
  have hfb : List.take (s.bs.length * 2) (bkC s.bs) = bkC s.bs := List.take_of_length_le (by omega)
  
  ((refine wqa ?_))
  refine AW.begin_cell 3 1 3 61 rfl rfl (by decide) ?_
  simp only [List.set_cons_succ, List.set_cons_zero, List.length_cons, List.length_nil, List.cons_append, List.nil_append, Nat.zero_add, Nat.reduceAdd]
  have hz1 : rpC [] = [] := rfl
  refine AW_mid (fun x : Nat × Nat => ⟨[(2, .ptr 1 (t + 1 + 1) 0), (3, .ptr 3 (t + 1 + 1 + 1 + 1) 0)], [none, some ⟨49, t + 1 + 1, [.sl 2 [] true, .sl 3 [] true]⟩, some ⟨57, t + 1 + 1 + 1, bkC s.bs⟩, some ⟨49, t + 1 + 1 + 1 + 1, [.own 2 2 (t + 1 + 1 + 1) 0 s.bs.length, .own 3 4 x.1 0 s.rs.length]⟩, some ⟨61, x.1, rpC s.rs⟩], x.2⟩) (fun _ => True) ?_ ?_
  · refine AW_block ?_
    refine AW_loop_w (fun x : Nat × Nat × Nat => ⟨[(1, .ptr 0 (t + 1) 0), (2, .ptr 1 (t + 1 + 1) 0), (3, .ptr 3 (t + 1 + 1 + 1 + 1) 0), (4, int x.1)], [some ⟨49, t + 1, [bks s.bs, rps s.rs]⟩, some ⟨49, t + 1 + 1, [.sl 2 [] true, .sl 3 [] true]⟩, some ⟨57, t + 1 + 1 + 1, bkC s.bs⟩, some ⟨49, t + 1 + 1 + 1 + 1, [.own 2 2 (t + 1 + 1 + 1) 0 s.bs.length, .own 3 4 x.2.1 0 x.1]⟩, some ⟨61, x.2.1, rpC (s.rs.take x.1)⟩], x.2.2⟩) (fun x => s.rs.length - x.1) (fun x => x.1 ≤ s.rs.length) (0, t + 1 + 1 + 1 + 1 + 1, t + 1 + 1 + 1 + 1 + 1) (Nat.zero_le _) (by (simp (disch := omega) only [StLe, tmLe, hpLe_refl, hpLe, bl, bb, bt, zDs, zD, eqCells, simprocAttr, List.take_zero, hz1])) ?_
    rintro ⟨k, g, tt⟩ hk
    simp only at hk
    by_cases hlt : k < s.rs.length
    · obtain ⟨r, hr⟩ : ∃ y, s.rs[k]? = some y := ⟨_, List.getElem?_eq_getElem hlt⟩
      have hra := rpC_read s.rs k r hr
      obtain ⟨ho1, ho2, _⟩ := ok.holds r (List.mem_of_getElem? hr)
      have hch := cellsC_hd r.hs
      have hlh := hdC_len r.hs
      have hdh := hdC_div r.hs
      have hnh : (hdC r.hs = []) = False := by
        simp only [eq_iff_iff, iff_false]
        intro e
        rw [e] at hlh
        simp at hlh
        omega
      have htk : s.rs.take (k + 1) = s.rs.take k ++ [r] := by rw [List.take_add_one, hr]; rfl
      have htl : (s.rs.take k).length = k := by simp; omega
      have hel := rpC_len (s.rs.take k)
      rw [htl] at hel
      have happ := rpC_app (s.rs.take k) r
      generalize s.rs.take k = E at *
      ((refine ggb0 (F := _∧_∧_) ⟨@Int.ofNat_lt, hlt, hdr⟩ ?_))
      ((repeat refine AW_seq ?_))
      refine AW_block ?_
      ((refine wqb (F := _∧_∧_) ⟨hlt, hdr, hra⟩ ?_))
      ((refine wqb (F := _∧_∧_) ⟨hch, hnh, hdh⟩ ?_))
      have hfh : List.take (r.hs.length * 4) (hdC r.hs) = hdC r.hs := List.take_of_length_le (by omega)
      ((refine AW.freeze (6) (by first | rfl | (simp only [setH, List.getElem?_cons_zero, List.getElem?_cons_succ, fz_bk, fz_rp, fz_hd, hfh, hlh, Nat.le_refl]; done)) ?_); simp (disch := omega) only [fzT, fz, fzL, fzL_ints, fzL_mat, fzH, fzB, eq_self, bb, bt, zDs, zD, eqCells, simprocAttr, fz_bk, fz_rp, fz_hd, hfh, hlh, Nat.le_refl])
      ((refine ggb0 hel ?_))
      refine ⟨(k + 1, tt + 1 + 1 + 1, tt + 1 + 1 + 1), hlt, by show s.rs.length - (k + 1) < s.rs.length - k; omega, ?_⟩
      simp only [htk, happ]
      (simp (disch := omega) only [StLe, tmLe, hpLe_refl, hpLe, bl, bb, bt, zDs, zD, eqCells, simprocAttr])
    · have hke : k = s.rs.length := by omega
      subst hke
      rw [List.take_length]
      ((refine wqb (F := _∧_) ⟨@Int.lt_irrefl, hdr⟩ ?_))
      ((refine wia ?_))
      ((refine wxa ?_))
      exact ⟨(g, tt), trivial, by (simp (disch := omega) only [StLe, tmLe, hpLe_refl, hpLe, bl, bb, bt, zDs, zD, eqCells, simprocAttr])⟩
  rintro ⟨g, tt⟩ -
  have hel := rpC_len s.rs
  have hfin : List.take (s.rs.length * 3) (rpC s.rs) = rpC s.rs := List.take_of_length_le (by omega)
  ((refine AW.freeze (4) (by first | rfl | (simp only [setH, List.getElem?_cons_zero, List.getElem?_cons_succ, fz_bk, fz_rp, hfin, hel, Nat.le_refl]; done)) ?_); simp (disch := omega) only [fzT, fz, fzL, fzL_ints, fzL_mat, fzH, fzB, eq_self, bb, bt, zDs, zD, eqCells, simprocAttr, fz_bk, fz_rp, hfin, hel, Nat.le_refl])
  ((refine gga0 ?_))
  ((repeat refine AW_seq ?_); (refine wta ?_); simp (disch := omega) only [retQ, resD, oneD, bb, bt, zDs, zD, eqCells, simprocAttr, Try.results34])
  exact ⟨2, t + 1 + 1 + 1, rfl, rfl⟩
set_option maxHeartbeats 4000000 in
theorem copyR (s : Sy) (ok : OkS s) : PFreshX Try.prog 34 [syD s] 61 3 s.rs.length (rpC s.rs) (fun o => .agg [bks s.bs, o]) := by
  refine PFreshX.intro (tup := false) (pre := [bks s.bs]) (post := []) (plain_rp _) (by simp only [plainL, plainD, plain_bk, Bool.and_self]) rfl fun t => ACall.enter tab_ok Try.func34 rfl rfl Try.ntmps34 (by simp) ?_
  simp only [enterTM]
  have hdr := rpC_div s.rs
  have hdb := bkC_div s.bs
  have hlb := bkC_len s.bs
  have b1 := ok.b1
  have b6 := ok.b6
  have r6 := ok.r6
  have hcb := cellsC_bk s.bs
  have hnb : (bkC s.bs = []) = False := by
    simp only [eq_iff_iff, iff_false]
    intro e
    rw [e] at hlb
    simp at hlb
    omega
  ((refine wqa ?_))
  ((refine wqb (F := _∧_∧_) ⟨hcb, hnb, hdb⟩ ?_))
  have hfb : List.take (s.bs.length * 2) (bkC s.bs) = bkC s.bs := List.take_of_length_le (by omega)
  ((refine AW.freeze (2) (by first | rfl | (simp only [setH, List.getElem?_cons_zero, List.getElem?_cons_succ, fz_bk, fz_rp, hfb, hlb, Nat.le_refl]; done)) ?_); simp (disch := omega) only [fzT, fz, fzL, fzL_ints, fzL_mat, fzH, fzB, eq_self, bb, bt, zDs, zD, eqCells, simprocAttr, fz_bk, fz_rp, hfb, hlb, Nat.le_refl])
  ((refine wqa ?_))
  refine AW.begin_cell 3 1 3 61 rfl rfl (by decide) ?_
  simp only [List.set_cons_succ, List.set_cons_zero, List.length_cons, List.length_nil, List.cons_append, List.nil_append, Nat.zero_add, Nat.reduceAdd]
  have hz1 : rpC [] = [] := rfl
  refine AW_mid (fun x : Nat × Nat => ⟨[(2, .ptr 1 (t + 1 + 1) 0), (3, .ptr 3 (t + 1 + 1 + 1 + 1) 0)], [none, some ⟨49, t + 1 + 1, [.sl 2 [] true, .sl 3 [] true]⟩, none, some ⟨49, t + 1 + 1 + 1 + 1, [bks s.bs, .own 3 4 x.1 0 s.rs.length]⟩, some ⟨61, x.1, rpC s.rs⟩], x.2⟩) (fun _ => True) ?_ ?_
  · refine AW_block ?_
    refine AW_loop_w (fun x : Nat × Nat × Nat => ⟨[(1, .ptr 0 (t + 1) 0), (2, .ptr 1 (t + 1 + 1) 0), (3, .ptr 3 (t + 1 + 1 + 1 + 1) 0), (4, int x.1)], [some ⟨49, t + 1, [bks s.bs, rps s.rs]⟩, some ⟨49, t + 1 + 1, [.sl 2 [] true, .sl 3 [] true]⟩, none, some ⟨49, t + 1 + 1 + 1 + 1, [bks s.bs, .own 3 4 x.2.1 0 x.1]⟩, some ⟨61, x.2.1, rpC (s.rs.take x.1)⟩], x.2.2⟩) (fun x => s.rs.length - x.1) (fun x => x.1 ≤ s.rs.length) (0, t + 1 + 1 + 1 + 1 + 1, t + 1 + 1 + 1 + 1 + 1) (Nat.zero_le _) (by (simp (disch := omega) only [StLe, tmLe, hpLe_refl, hpLe, bl, bb, bt, zDs, zD, eqCells, simprocAttr, List.take_zero, hz1])) ?_
    rintro ⟨k, g, tt⟩ hk
    simp only at hk
    by_cases hlt : k < s.rs.length
    · obtain ⟨r, hr⟩ : ∃ y, s.rs[k]? = some y := ⟨_, List.getElem?_eq_getElem hlt⟩
      have hra := rpC_read s.rs k r hr
      obtain ⟨ho1, ho2, _⟩ := ok.holds r (List.mem_of_getElem? hr)
      have hch := cellsC_hd r.hs
      have hlh := hdC_len r.hs
      have hdh := hdC_div r.hs
      have hnh : (hdC r.hs = []) = False := by
        simp only [eq_iff_iff, iff_false]
        intro e
        rw [e] at hlh
        simp at hlh
        omega
      have htk : s.rs.take (k + 1) = s.rs.take k ++ [r] := by rw [List.take_add_one, hr]; rfl
      have htl : (s.rs.take k).length = k := by simp; omega
      have hel := rpC_len (s.rs.take k)
      rw [htl] at hel
      have happ := rpC_app (s.rs.take k) r
      generalize s.rs.take k = E at *
      ((refine ggb0 (F := _∧_∧_) ⟨@Int.ofNat_lt, hlt, hdr⟩ ?_))
      ((repeat refine AW_seq ?_))
      refine AW_block ?_
      ((refine wqb (F := _∧_∧_) ⟨hlt, hdr, hra⟩ ?_))
      ((refine wqb (F := _∧_∧_) ⟨hch, hnh, hdh⟩ ?_))
      have hfh : List.take (r.hs.length * 4) (hdC r.hs) = hdC r.hs := List.take_of_length_le (by omega)
      ((refine AW.freeze (6) (by first | rfl | (simp only [setH, List.getElem?_cons_zero, List.getElem?_cons_succ, fz_bk, fz_rp, fz_hd, hfh, hlh, Nat.le_refl]; done)) ?_); simp (disch := omega) only [fzT, fz, fzL, fzL_ints, fzL_mat, fzH, fzB, eq_self, bb, bt, zDs, zD, eqCells, simprocAttr, fz_bk, fz_rp, fz_hd, hfh, hlh, Nat.le_refl])
      ((refine ggb0 hel ?_))
      refine ⟨(k + 1, tt + 1 + 1 + 1, tt + 1 + 1 + 1), hlt, by show s.rs.length - (k + 1) < s.rs.length - k; omega, ?_⟩
      simp only [htk, happ]
      (simp (disch := omega) only [StLe, tmLe, hpLe_refl, hpLe, bl, bb, bt, zDs, zD, eqCells, simprocAttr])
    · have hke : k = s.rs.length := by omega
      subst hke
      rw [List.take_length]
      ((refine wqb (F := _∧_) ⟨@Int.lt_irrefl, hdr⟩ ?_))
      ((refine wia ?_))
      ((refine wxa ?_))
      exact ⟨(g, tt), trivial, by (simp (disch := omega) only [StLe, tmLe, hpLe_refl, hpLe, bl, bb, bt, zDs, zD, eqCells, simprocAttr])⟩
  rintro ⟨g, tt⟩ -
  have hel := rpC_len s.rs
  have hfin : List.take (s.rs.length * 3) (rpC s.rs) = rpC s.rs := List.take_of_length_le (by omega)
  skip
  ((refine gga0 ?_))
  ((repeat refine AW_seq ?_); (refine wta ?_); simp (disch := omega) only [retQ, resD, oneD, bb, bt, zDs, zD, eqCells, simprocAttr, Try.results34])
  exact ⟨4, g, rfl, rfl⟩
/-! Weights changed one after the other. -/
def chW (f : Nat → Bk → Int) (l : List Bk) : Nat → List Bk
  | 0 => l
  | k + 1 => match l[k]? with
    | some b => (chW f l k).set k ⟨b.nm, f k b⟩
    | none => chW f l k
theorem chW_len (f : Nat → Bk → Int) (l : List Bk) : ∀ k, (chW f l k).length = l.length
  | 0 => rfl
  | k + 1 => by
    simp only [chW]
    split
    · rw [List.length_set, chW_len f l k]
    · exact chW_len f l k
theorem chW_get (f : Nat → Bk → Int) (l : List Bk) : ∀ (k i : Nat) (b : Bk), l[i]? = some b → (chW f l k)[i]? = some (if i < k then ⟨b.nm, f i b⟩ else b)
  | 0, i, b, h => by rw [if_neg (by omega)]; exact h
  | k + 1, i, b, h => by
    have ih := chW_get f l k i b h
    have hi := (List.getElem?_eq_some_iff.1 h).1
    simp only [chW]
    by_cases e : k = i
    · subst e
      rw [h]
      simp only
      rw [List.getElem?_set_self (by rw [chW_len]; exact hi), if_pos (by omega)]
    · have : (match l[k]? with | some b => (chW f l k).set k ⟨b.nm, f k b⟩ | none => chW f l k)[i]? = (chW f l k)[i]? := by
        split
        · rw [List.getElem?_set_ne e]
        · rfl
      rw [this, ih]
      by_cases e2 : i < k
      · rw [if_pos e2, if_pos (by omega)]
      · rw [if_neg e2, if_neg (by omega)]
theorem chW_set {f : Nat → Bk → Int} {l : List Bk} {k : Nat} {b : Bk} (h : l[k]? = some b) : chW f l (k + 1) = (chW f l k).set k ⟨b.nm, f k b⟩ := by simp only [chW, h]
theorem chW_at {f : Nat → Bk → Int} {l : List Bk} {k : Nat} {b : Bk} (h : l[k]? = some b) : (chW f l k)[k]? = some b := by
  rw [chW_get f l k k b h, if_neg (by omega)]
theorem chW_end (f : Nat → Bk → Int) (l : List Bk) : chW f l l.length = l.mapIdx fun i b => ⟨b.nm, f i b⟩ := by
  refine List.ext_getElem? fun i => ?_
  rw [List.getElem?_mapIdx]
  cases h : l[i]? with
  | none => rw [List.getElem?_eq_none (by rw [chW_len]; exact List.getElem?_eq_none_iff.1 h)]; rfl
  | some b => rw [chW_get f l _ i b h, if_pos (List.getElem?_eq_some_iff.1 h).1]; rfl
theorem bkC_wt {l : List Bk} {i : Nat} {b : Bk} (h : l[i]? = some b) (w : Int) : (bkC l).set (i * 2 + 1) (int w) = bkC (l.set i ⟨b.nm, w⟩) := by
  have h1 := bkC_set l i ⟨b.nm, w⟩ (List.getElem?_eq_some_iff.1 h).1
  have hl := bkC_len l
  have hi := (List.getElem?_eq_some_iff.1 h).1
  have h2 := bkC_read l i b h
  rw [← h1]
  have e : bkC l = (bkC l).take (i * 2) ++ ([str b.nm, int b.w] ++ (bkC l).drop (i * 2 + 2)) := by
    have : [str b.nm, int b.w] = ((bkC l).drop (i * 2)).take 2 := h2.symm
    rw [this, ← List.drop_drop, List.take_append_drop, List.take_append_drop]
  have hlt : ((bkC l).take (i * 2)).length = i * 2 := by simp; omega
  conv => lhs; rw [e]
  rw [List.set_append_right _ _ (by omega), hlt, show i * 2 + 1 - i * 2 = 1 by omega]
  simp
theorem bkC_nm {l : List Bk} {i : Nat} {b : Bk} (h : l[i]? = some b) : (bkC l)[i * 2]? = some (str b.nm) := bkC_name l i b h
theorem bkC_w {l : List Bk} {i : Nat} {b : Bk} (h : l[i]? = some b) : (bkC l)[i * 2 + 1]? = some (int b.w) := bkC_cell l i b h 1 (by decide)
end Go.Proofs.Ytjjpjgnoanfaoaa.T

namespace Go.Proofs.Ytjjpjgnoanfaoaa.T
open Go Go.RowKit Lin
theorem gdta4_AC {C1 C2 C3 C4 P Q : Prop} (c1 : C1) (c2 : C2) (c3 : C3) (c4 : C4) (q : Q) (h : C1 → C2 → C3 → C4 → Q → P := by
  intro cc1 cc2 cc3 cc4 hq
  (try with_reducible intro KR hKR)
  (repeat refine AW_seq ?_); (repeat refine AW_seq ?_); (refine AW_drawn_k tab_ok follows_mixed 2 fun KR hKR => ?_); simp only [List.replicate_succ, List.replicate_zero, List.append_nil, List.nil_append, List.cons_append, List.length_cons, List.length_nil, Nat.reduceAdd]; (repeat' ((first | refine awD_n rfl fun KK hKK => ?_ | refine awD_g rfl rfl fun KK hKK => ?_ | refine awD_gc rfl fun KK hKK => ?_ | refine awD_nc fun KK hKK => ?_); simp (disch := omega) only [bb, bt, zDs, zD, eqCells, simprocAttr, bne_self_eq_false, Int.reduceBNe, Int.reduceBEq, Bool.bne_false, Bool.bne_true, Bool.false_bne, Bool.true_bne, goCDS, callDS_fn, argsZ, argsD, ufa, uf]; (try ((first | with_reducible refine PGive.ret (cc1) ?_ | with_reducible refine PGive.ret (cc2) ?_ | with_reducible refine PGive.ret (cc3) ?_ | with_reducible refine PGive.ret (cc4) ?_); simp (disch := omega) only [bb, bt, zDs, zD, eqCells, simprocAttr, afterDS, bne_self_eq_false, Int.reduceBNe, Int.reduceBEq, Bool.bne_false, Bool.bne_true, Bool.false_bne, Bool.true_bne])); refine hKK _ _ _ ?_; clear hKK KK)); (refine awD_nil ?_); simp only [List.reverse_cons, List.reverse_nil, List.nil_append, List.cons_append]; (refine hKR _ _ (by first | rfl | kernel_rfl) ?_); (try clear hKR KR); (repeat (with_reducible first | refine q1 ?_ | refine q2 ?_ | refine q3 ?_ | refine q4 ?_ | refine q5 ?_ | refine q6 ?_ | (refine q7 ?_ ?_; (focus (with_unfolding_all rfl)))))
  (first | exact hq | (revert hKR; revert KR; exact hq))) : P := h c1 c2 c3 c4 q
set_option linter.unusedSimpArgs false

/-! Comparisons of fractions. -/
theorem cmp_signs {n u D V : Int} (hD : 0 < D) (hV : 0 < V) : ((n < 0 ∧ ¬ u < 0) → cmpV (n, D) (u, V) = -1) ∧ ((¬ n < 0 ∧ u < 0) → cmpV (n, D) (u, V) = 1) := by
  constructor
  · rintro ⟨h1, h2⟩
    have a := Int.mul_neg_of_neg_of_pos h1 hV
    have b := Int.mul_nonneg (show 0 ≤ u by omega) (show 0 ≤ D by omega)
    unfold cmpV
    rw [if_pos (by simp only; omega)]
  · rintro ⟨h1, h2⟩
    have a := Int.mul_neg_of_neg_of_pos h2 hD
    have b := Int.mul_nonneg (show 0 ≤ n by omega) (show 0 ≤ V by omega)
    unfold cmpV
    rw [if_neg (by simp only; omega), if_pos (by simp only; omega)]
theorem cmp_pos {n u : Int} {D V : Nat} (h1 : ¬ n < 0) (h2 : ¬ u < 0) : cmpV (n, (D : Int)) (u, (V : Int)) = if n.natAbs * V < u.natAbs * D then -1 else if u.natAbs * D < n.natAbs * V then 1 else 0 := by
  have e1 : n * (V : Int) = ((n.natAbs * V : Nat) : Int) := by rw [Int.natCast_mul, Int.natAbs_of_nonneg (by omega)]
  have e2 : u * (D : Int) = ((u.natAbs * D : Nat) : Int) := by rw [Int.natCast_mul, Int.natAbs_of_nonneg (by omega)]
  unfold cmpV
  simp only [e1, e2, Int.ofNat_lt]
theorem cmp_neg {n u : Int} {D V : Nat} (h1 : n < 0) (h2 : u < 0) : cmpV (n, (D : Int)) (u, (V : Int)) = if u.natAbs * D < n.natAbs * V then -1 else if n.natAbs * V < u.natAbs * D then 1 else 0 := by
  have e1 : n * (V : Int) = -((n.natAbs * V : Nat) : Int) := by
    rw [Int.natCast_mul, ← Int.neg_mul]
    congr 1
    omega
  have e2 : u * (D : Int) = -((u.natAbs * D : Nat) : Int) := by
    rw [Int.natCast_mul, ← Int.neg_mul]
    congr 1
    omega
  unfold cmpV
  simp only [e1, e2]
  generalize u.natAbs * D = A
  generalize n.natAbs * V = B
  by_cases h : A < B
  · rw [if_pos h, if_pos (by omega)]
  · rw [if_neg h, if_neg (by omega)]
    by_cases h' : B < A
    · rw [if_pos h', if_pos (by omega)]
    · rw [if_neg h', if_neg (by omega)]
set_option maxHeartbeats 2000000 in
theorem rCmp (a b : Int × Int) : PRet Try.prog 64 [frD a, frD b] (.tup [int (cmpP a b).1, int (cmpP a b).2]) := by
  obtain ⟨n, d⟩ := a
  obtain ⟨u, v⟩ := b
  have va := rValid n d
  have vb := rValid u v
  refine PRet.intro 2 fun t => ACall.enter tab_ok Try.func64 rfl rfl Try.ntmps64 (by simp) ?_
  simp only [enterTM]
  cases ha : vfrac n d
  · rw [ha] at va
    have e : cmpP (n, d) (u, v) = (0, 1) := by unfold cmpP; rw [if_neg (by simp [ha])]
    ((refine gga1 va ?_))
    ((repeat refine AW_seq ?_); (refine wta ?_); simp (disch := omega) only [retQ, resD, oneD, rsv, rs, rsL, rsL_eq_map, List.map_map, bb, bt, zDs, zD, eqCells, simprocAttr, Try.results64, e])
  rw [ha] at va
  cases hb : vfrac u v
  · rw [hb] at vb
    have e : cmpP (n, d) (u, v) = (0, 1) := by unfold cmpP; rw [if_neg (by simp [hb])]
    ((refine gga2 va vb ?_))
    ((repeat refine AW_seq ?_); (refine wta ?_); simp (disch := omega) only [retQ, resD, oneD, rsv, rs, rsL, rsL_eq_map, List.map_map, bb, bt, zDs, zD, eqCells, simprocAttr, Try.results64, e])
  rw [hb] at vb
  rw [cmpP_ok ha hb]
  obtain ⟨a1, a2, a3, a4, a5⟩ := fr_bounds ha
  obtain ⟨b1, b2, b3, b4, b5⟩ := fr_bounds hb
  obtain ⟨D, rfl⟩ : ∃ D : Nat, d = (D : Int) := ⟨d.toNat, by omega⟩
  obtain ⟨V, rfl⟩ : ∃ V : Nat, v = (V : Int) := ⟨v.toNat, by omega⟩
  obtain ⟨g1, g2⟩ := cmp_signs (n := n) (u := u) (D := (D : Int)) (V := (V : Int)) (by omega) (by omega)
  have hpos := fun h1 h2 => cmp_pos (n := n) (u := u) (D := D) (V := V) h1 h2
  have hneg := fun h1 h2 => cmp_neg (n := n) (u := u) (D := D) (V := V) h1 h2
  have s1 := rSize n (by omega)
  have s2 := rSize u (by omega)
  have p1 := wideProduct n.natAbs V (by omega) (by omega)
  have p2 := wideProduct u.natAbs D (by omega) (by omega)
  have c1 : n.natAbs * V ≤ 1152921504606846976 * 1152921504606846976 := Nat.mul_le_mul (by omega) (by omega)
  have c2 : u.natAbs * D ≤ 1152921504606846976 * 1152921504606846976 := Nat.mul_le_mul (by omega) (by omega)
  have l1 := wideLess (n.natAbs * V) (u.natAbs * D) (by omega) (by omega)
  have l2 := wideLess (u.natAbs * D) (n.natAbs * V) (by omega) (by omega)
  generalize cmpV (n, (D : Int)) (u, (V : Int)) = c at *
  generalize n.natAbs * V = x at *
  generalize u.natAbs * D = y at *
  ((refine gga2 va vb ?_))
  ((repeat refine AW_seq ?_); (refine gdta4_AC s1 s2 p1 p2 ?_))
  ((repeat refine AW_seq ?_))
  refine AW_block ?_
  by_cases hn : n < 0
  · by_cases hu : u < 0
    · rw [hneg hn hu]
      ((refine ggb0 (F := _∧_) ⟨hn, hu⟩ ?_))
      ((repeat refine AW_seq ?_))
      refine AW_block ?_
      by_cases hyx : y < x
      · rw [decide_eq_true hyx] at l2
        ((refine ggb2 (F := _∧_) ⟨hn, hu⟩ l1 l2 ?_))
        ((repeat refine AW_seq ?_); (refine wta ?_); simp (disch := omega) only [retQ, resD, oneD, rsv, rs, rsL, rsL_eq_map, List.map_map, bb, bt, zDs, zD, eqCells, simprocAttr, Try.results64, hyx])
      · rw [decide_eq_false hyx] at l2
        by_cases hxy : x < y
        · rw [decide_eq_true hxy] at l1
          ((refine ggb2 (F := _∧_) ⟨hn, hu⟩ l1 l2 ?_))
          ((repeat refine AW_seq ?_); (refine wta ?_); simp (disch := omega) only [retQ, resD, oneD, rsv, rs, rsL, rsL_eq_map, List.map_map, bb, bt, zDs, zD, eqCells, simprocAttr, Try.results64, hyx, hxy])
        · rw [decide_eq_false hxy] at l1
          ((refine ggb2 (F := _∧_) ⟨hn, hu⟩ l1 l2 ?_))
          ((repeat refine AW_seq ?_); (refine wta ?_); simp (disch := omega) only [retQ, resD, oneD, rsv, rs, rsL, rsL_eq_map, List.map_map, bb, bt, zDs, zD, eqCells, simprocAttr, Try.results64, hyx, hxy])
    · rw [g1 ⟨hn, hu⟩]
      ((refine ggb0 (F := _∧_) ⟨hn, hu⟩ ?_))
      ((repeat refine AW_seq ?_); (refine wta ?_); simp (disch := omega) only [retQ, resD, oneD, rsv, rs, rsL, rsL_eq_map, List.map_map, bb, bt, zDs, zD, eqCells, simprocAttr, Try.results64])
  · by_cases hu : u < 0
    · rw [g2 ⟨hn, hu⟩]
      ((refine ggb0 (F := _∧_) ⟨hn, hu⟩ ?_))
      ((repeat refine AW_seq ?_); (refine wta ?_); simp (disch := omega) only [retQ, resD, oneD, rsv, rs, rsL, rsL_eq_map, List.map_map, bb, bt, zDs, zD, eqCells, simprocAttr, Try.results64])
    · rw [hpos hn hu]
      ((refine ggb0 (F := _∧_) ⟨hn, hu⟩ ?_))
      ((repeat refine AW_seq ?_))
      refine AW_block ?_
      by_cases hxy : x < y
      · rw [decide_eq_true hxy] at l1
        ((refine ggb2 (F := _∧_) ⟨hn, hu⟩ l1 l2 ?_))
        ((repeat refine AW_seq ?_); (refine wta ?_); simp (disch := omega) only [retQ, resD, oneD, rsv, rs, rsL, rsL_eq_map, List.map_map, bb, bt, zDs, zD, eqCells, simprocAttr, Try.results64, hxy])
      · rw [decide_eq_false hxy] at l1
        by_cases hyx : y < x
        · rw [decide_eq_true hyx] at l2
          ((refine ggb2 (F := _∧_) ⟨hn, hu⟩ l1 l2 ?_))
          ((repeat refine AW_seq ?_); (refine wta ?_); simp (disch := omega) only [retQ, resD, oneD, rsv, rs, rsL, rsL_eq_map, List.map_map, bb, bt, zDs, zD, eqCells, simprocAttr, Try.results64, hxy, hyx])
        · rw [decide_eq_false hyx] at l2
          ((refine ggb2 (F := _∧_) ⟨hn, hu⟩ l1 l2 ?_))
          ((repeat refine AW_seq ?_); (refine wta ?_); simp (disch := omega) only [retQ, resD, oneD, rsv, rs, rsL, rsL_eq_map, List.map_map, bb, bt, zDs, zD, eqCells, simprocAttr, Try.results64, hxy, hyx])
end Go.Proofs.Ytjjpjgnoanfaoaa.T

