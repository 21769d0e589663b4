import Derived.Test.YtcppnmohgaobdaaGreatRSDE
set_option linter.all false
section
namespace Go.Proofs.YtcppnmohgaobdaaGreat.T
open Go Go.RowKit Lin
theorem contains_map {α : Type} (f : α → ByteArray) (l : List α) (a : ByteArray) : (l.map f).contains a = l.any fun x => decide (f x = a) := by
  rw [Bool.eq_iff_iff, List.contains_iff_mem, List.any_eq_true, List.mem_map]
  simp
theorem first_ne {α : Type} (p : α → Bool) {l : List α} {k : Nat} {x : α} (h : l[k]? = some x) (hp : p x = true) : (idx p l 0 != (k : Int)) = (l.take k).any p := by
  have h1 := idx_first p l 0 k x h hp
  rw [Nat.zero_add] at h1
  cases ha : (l.take k).any p
  · rw [(h1.1 ha)]; simp
  · have : ¬ idx p l 0 = (k : Int) := fun e => by rw [h1.2 e] at ha; cases ha
    simpa using this
theorem findB_ne {bs : List Bk} {k : Nat} {b : Bk} (h : bs[k]? = some b) : (findB bs b.nm != (k : Int)) = (bNames (bs.take k)).contains b.nm := by
  unfold findB bNames
  rw [contains_map]
  exact first_ne _ h (by simp)
theorem findR_ne {rs : List Rp} {k : Nat} {r : Rp} (h : rs[k]? = some r) : (findR rs r.nm != (k : Int)) = (rNames (rs.take k)).contains r.nm := by
  unfold findR rNames
  rw [contains_map]
  exact first_ne _ h (by simp)
theorem findB_ge (bs : List Bk) (nm : ByteArray) : decide (0 ≤ findB bs nm) = (bNames bs).contains nm := by
  unfold findB bNames
  rw [contains_map, idx_any]
set_option maxHeartbeats 4000000 in
theorem rope_ref (s : Sy) (r : Rp) (hl : s.bs.length ≤ 1000000) (hr : r.hs.length ≤ 1000000) : PRet Tryz.prog 35 [syD s, .agg (rp1 r)] (bool (okRope s.bs r)) := by
  refine PRet.intro 1 fun t => ACall.enter tab_ok Tryz.func35 rfl rfl Tryz.ntmps35 (by simp) ?_
  simp only [enterTM]
  have hla := hdC_len r.hs
  have ha2 := hdC_div r.hs
  by_cases a1 : (r.hs.length : Int) < 2
  · have ho : okRope s.bs r = false := by
      have : ¬ (2 ≤ r.hs.length ∧ r.hs.length ≤ 10) := by omega
      simp only [okRope, this, decide_false, Bool.false_and]
    ((refine ggb0 (F := _∧_) ⟨ha2, a1⟩ ?_))
    ((repeat refine AW_seq ?_); (refine wta ?_); simp (disch := omega) only [retQ, resD, oneD, rsv, rs, rsL, rsL_eq_map, List.map_map, bb, bt, zDs, zD, eqCells, simprocAttr, Tryz.results35, ho])
  by_cases a2 : 10 < (r.hs.length : Int)
  · have ho : okRope s.bs r = false := by
      have : ¬ (2 ≤ r.hs.length ∧ r.hs.length ≤ 10) := by omega
      simp only [okRope, this, decide_false, Bool.false_and]
    ((refine ggb0 (F := _∧_∧_) ⟨ha2, a1, a2⟩ ?_))
    ((repeat refine AW_seq ?_); (refine wta ?_); simp (disch := omega) only [retQ, resD, oneD, rsv, rs, rsL, rsL_eq_map, List.map_map, bb, bt, zDs, zD, eqCells, simprocAttr, Tryz.results35, ho])
  have hsz : 2 ≤ r.hs.length ∧ r.hs.length ≤ 10 := by omega
  ((refine ggb0 (F := _∧_∧_) ⟨ha2, a1, a2⟩ ?_))
  ((repeat refine AW_seq ?_))
  refine AW_block ?_
  refine AW_loop_w (fun x : Nat × Nat => ⟨[(2, .ptr 0 (t + 1) 0), (3, .ptr 1 (t + 1 + 1) 0), (5, int x.1)], [some ⟨25, t + 1, [bks s.bs, rps s.rs]⟩, some ⟨40, t + 1 + 1, rp1 r⟩], x.2⟩) (fun x => r.hs.length - x.1) (fun x => x.1 ≤ r.hs.length ∧ ∀ j h, j < x.1 → r.hs[j]? = some h → okHold s.bs h (endH r.hs.length j) = true) (0, t + 1 + 1) ⟨Nat.zero_le _, fun j h hj => absurd hj (Nat.not_lt_zero _)⟩ (by (simp (disch := omega) only [StLe, tmLe, hpLe_refl, hpLe, bl, bb, bt, zDs, zD, eqCells, simprocAttr])) ?_
  rintro ⟨k, tt⟩ ⟨hk, hin⟩
  simp only at hk hin
  by_cases hlt : k < r.hs.length
  · obtain ⟨h, hh⟩ : ∃ h, r.hs[k]? = some h := ⟨_, List.getElem?_eq_getElem hlt⟩
    have hra := hdC_read r.hs k h hh
    have hH := hold_ref s h (endH r.hs.length k) hl
    ((refine ggb0 (F := _∧_∧_) ⟨@Int.ofNat_lt, hlt, ha2⟩ ?_))
    ((repeat refine AW_seq ?_))
    refine AW_block ?_
    have e0 : ((k : Int) == 0) = (k == 0) := by rw [Bool.eq_iff_iff]; simp
    have e1 : ((k : Int) == (r.hs.length : Int) - 1) = (k + 1 == r.hs.length) := by rw [Bool.eq_iff_iff, beq_iff_eq, beq_iff_eq]; omega
    have hend : endH r.hs.length k = (k == 0 || k + 1 == r.hs.length) := rfl
    cases hok : okHold s.bs h (endH r.hs.length k)
    · have ho : okRope s.bs r = false := by simp only [okRope, okHolds_not hh hok, Bool.and_false, Bool.false_and]
      rw [hok] at hH
      cases h0 : (k == 0) <;> cases h1 : (k + 1 == r.hs.length) <;>
      · rw [hend, h0, h1] at hH
        simp only [Bool.or_self, Bool.or_true, Bool.true_or] at hH
        ((repeat refine AW_seq ?_); (refine gdzb1 (F := _∧_∧_∧_∧_∧_∧_) ⟨ha2, hlt, hra, e0, e1, h0, h1⟩ hH ?_))
        ((refine gga0 ?_))
        ((repeat refine AW_seq ?_); (refine wta ?_); simp (disch := omega) only [retQ, resD, oneD, rsv, rs, rsL, rsL_eq_map, List.map_map, bb, bt, zDs, zD, eqCells, simprocAttr, Tryz.results35, ho])
    · rw [hok] at hH
      cases h0 : (k == 0) <;> cases h1 : (k + 1 == r.hs.length) <;>
      · rw [hend, h0, h1] at hH
        simp only [Bool.or_self, Bool.or_true, Bool.true_or] at hH
        ((repeat refine AW_seq ?_); (refine gdzb1 (F := _∧_∧_∧_∧_∧_∧_) ⟨ha2, hlt, hra, e0, e1, h0, h1⟩ hH ?_))
        ((refine gga0 ?_))
        refine ⟨(k + 1, tt + 1), ⟨hlt, fun j x hj hx => ?_⟩, by show r.hs.length - (k + 1) < r.hs.length - k; omega, ?_⟩
        · by_cases e : j = k
          · subst e; rw [hh] at hx; cases hx; exact hok
          · exact hin j x (by omega) hx
        (simp (disch := omega) only [StLe, tmLe, hpLe_refl, hpLe, bl, bb, bt, zDs, zD, eqCells, simprocAttr])
  · have hke : k = r.hs.length := by omega
    subst hke
    have hall : okHolds s.bs r.hs = true := okHolds_all fun j x hx => hin j x (List.getElem?_eq_some_iff.1 hx).1 hx
    obtain ⟨m, hm⟩ : ∃ m, r.hs.length = m + 1 := ⟨r.hs.length - 1, by omega⟩
    obtain ⟨h, hh⟩ : ∃ h, r.hs[m]? = some h := ⟨_, List.getElem?_eq_getElem (by omega)⟩
    have hlast : r.hs.getLast? = some h := by rw [List.getLast?_eq_getElem?, show r.hs.length - 1 = m by omega]; exact hh
    have ho : okRope s.bs r = (!r.hl || decide (h.b = ⟨#[]⟩)) := by
      simp only [okRope, hall, hsz, hlast, and_self, decide_true, Bool.true_and]
    have em : (r.hs.length : Int) - 1 = (m : Int) := by omega
    have hnm := hdC_name r.hs m h hh
    have hmlt : m < r.hs.length := by omega
    cases hhl : r.hl
    · rw [hhl] at ho
      ((refine ggb0 (F := _∧_∧_) ⟨@Int.lt_irrefl, hhl, ha2⟩ ?_))
      ((repeat refine AW_seq ?_); (refine wta ?_); simp (disch := omega) only [retQ, resD, oneD, rsv, rs, rsL, rsL_eq_map, List.map_map, bb, bt, zDs, zD, eqCells, simprocAttr, Tryz.results35, ho, Bool.true_or])
    · rw [hhl] at ho
      ((refine ggb0 (F := _∧_∧_∧_∧_∧_) ⟨@Int.lt_irrefl, hhl, em, hmlt, hnm, ha2⟩ ?_))
      ((repeat refine AW_seq ?_); (refine wta ?_); simp (disch := omega) only [retQ, resD, oneD, rsv, rs, rsL, rsL_eq_map, List.map_map, bb, bt, zDs, zD, eqCells, simprocAttr, Tryz.results35, ho, Bool.false_or])
end Go.Proofs.YtcppnmohgaobdaaGreat.T
end
section
namespace Go.Proofs.YtcppnmohgaobdaaGreat.T
open Go Go.RowKit Lin
set_option maxHeartbeats 4000000 in
theorem valid_ref (s : Sy) (hf : Fits s) : PRet Tryz.prog 18 [syD s] (bool (validS s)) := by
  refine PRet.intro 1 fun t => ACall.enter tab_ok Tryz.func18 rfl rfl Tryz.ntmps18 (by simp) ?_
  simp only [enterTM]
  obtain ⟨nb, nr, sb, sr⟩ := hf
  have hlb := bkC_len s.bs
  have hlr := rpC_len s.rs
  have hdb := bkC_div s.bs
  have hdr := rpC_div s.rs
  by_cases a1 : (s.bs.length : Int) < 1
  · have ho : validS s = false := validS_size (by simp [okSize]; omega)
    ((refine ggb0 (F := _∧_∧_) ⟨hdb, hdr, a1⟩ ?_))
    ((repeat refine AW_seq ?_); (refine wta ?_); simp (disch := omega) only [retQ, resD, oneD, rsv, rs, rsL, rsL_eq_map, List.map_map, bb, bt, zDs, zD, eqCells, simprocAttr, Tryz.results18, ho])
  by_cases a2 : 6 < (s.bs.length : Int)
  · have ho : validS s = false := validS_size (by simp [okSize]; omega)
    ((refine ggb0 (F := _∧_∧_∧_) ⟨hdb, hdr, a1, a2⟩ ?_))
    ((repeat refine AW_seq ?_); (refine wta ?_); simp (disch := omega) only [retQ, resD, oneD, rsv, rs, rsL, rsL_eq_map, List.map_map, bb, bt, zDs, zD, eqCells, simprocAttr, Tryz.results18, ho])
  by_cases a3 : (s.rs.length : Int) < 1
  · have ho : validS s = false := validS_size (by simp [okSize]; omega)
    ((refine ggb0 (F := _∧_∧_∧_∧_) ⟨hdb, hdr, a1, a2, a3⟩ ?_))
    ((repeat refine AW_seq ?_); (refine wta ?_); simp (disch := omega) only [retQ, resD, oneD, rsv, rs, rsL, rsL_eq_map, List.map_map, bb, bt, zDs, zD, eqCells, simprocAttr, Tryz.results18, ho])
  by_cases a4 : 6 < (s.rs.length : Int)
  · have ho : validS s = false := validS_size (by simp [okSize]; omega)
    ((refine ggb0 (F := _∧_∧_∧_∧_∧_) ⟨hdb, hdr, a1, a2, a3, a4⟩ ?_))
    ((repeat refine AW_seq ?_); (refine wta ?_); simp (disch := omega) only [retQ, resD, oneD, rsv, rs, rsL, rsL_eq_map, List.map_map, bb, bt, zDs, zD, eqCells, simprocAttr, Tryz.results18, ho])
  have hsz : okSize s = true := by simp [okSize]; omega
  ((refine ggb0 (F := _∧_∧_∧_∧_∧_) ⟨hdb, hdr, a1, a2, a3, a4⟩ ?_))
  clear a1 a2 a3 a4
  ((repeat refine AW_seq ?_))
  refine AW_mid (fun x : Nat => ⟨[(1, .ptr 0 (t + 1) 0)], [some ⟨25, t + 1, [bks s.bs, rps s.rs]⟩], x⟩) (fun _ => ∀ j, j < s.bs.length → okB s.bs j = true) ?_ ?_
  · refine AW_block ?_
    refine AW_loop_w (fun x : Nat × Nat => ⟨[(1, .ptr 0 (t + 1) 0), (3, int x.1)], [some ⟨25, t + 1, [bks s.bs, rps s.rs]⟩], x.2⟩) (fun x => s.bs.length - x.1) (fun x => x.1 ≤ s.bs.length ∧ ∀ j, j < x.1 → okB s.bs j = true) (0, t + 1) ⟨Nat.zero_le _, fun j hj => absurd hj (Nat.not_lt_zero _)⟩ (by (simp (disch := omega) only [StLe, tmLe, hpLe_refl, hpLe, bl, bb, bt, zDs, zD, eqCells, simprocAttr])) ?_
    rintro ⟨k, tt⟩ ⟨hk, hin⟩
    simp only at hk hin
    by_cases hlt : k < s.bs.length
    · obtain ⟨b, hb⟩ : ∃ y, s.bs[k]? = some y := ⟨_, List.getElem?_eq_getElem hlt⟩
      have hra := bkC_read s.bs k b hb
      have hat := okB_at hb
      have hN := isName_ref b.nm (sb b (List.mem_of_getElem? hb))
      have hF := refFindBlock s b.nm nb
      have hne := findB_ne hb
      ((refine ggb0 (F := _∧_∧_) ⟨@Int.ofNat_lt, hlt, hdb⟩ ?_))
      ((repeat refine AW_seq ?_))
      refine AW_block ?_
      cases hnm : isNm b.nm
      · have ho : validS s = false := validS_b hlt (by rw [hat, hnm, Bool.false_and, Bool.false_and])
        rw [hnm] at hN
        ((refine ggb1 (F := _∧_∧_) ⟨hdb, hlt, hra⟩ hN ?_))
        ((repeat refine AW_seq ?_); (refine wta ?_); simp (disch := omega) only [retQ, resD, oneD, rsv, rs, rsL, rsL_eq_map, List.map_map, bb, bt, zDs, zD, eqCells, simprocAttr, Tryz.results18, ho])
      rw [hnm] at hN
      cases hc : (bNames (s.bs.take k)).contains b.nm
      rotate_left 1
      · have ho : validS s = false := validS_b hlt (by rw [hat, hnm, hc]; rfl)
        rw [hc] at hne
        ((refine ggb2 (F := _∧_∧_∧_) ⟨hdb, hlt, hra, hne⟩ hN hF ?_))
        ((repeat refine AW_seq ?_); (refine wta ?_); simp (disch := omega) only [retQ, resD, oneD, rsv, rs, rsL, rsL_eq_map, List.map_map, bb, bt, zDs, zD, eqCells, simprocAttr, Tryz.results18, ho])
      rw [hc] at hne
      by_cases w1 : b.w < 0
      · have ho : validS s = false := validS_b hlt (by rw [hat, hnm, hc]; simp; omega)
        ((refine ggb2 (F := _∧_∧_∧_∧_) ⟨hdb, hlt, hra, hne, w1⟩ hN hF ?_))
        ((repeat refine AW_seq ?_); (refine wta ?_); simp (disch := omega) only [retQ, resD, oneD, rsv, rs, rsL, rsL_eq_map, List.map_map, bb, bt, zDs, zD, eqCells, simprocAttr, Tryz.results18, ho])
      by_cases w2 : 16777216 < b.w
      · have ho : validS s = false := validS_b hlt (by rw [hat, hnm, hc]; simp; omega)
        ((refine ggb2 (F := _∧_∧_∧_∧_∧_) ⟨hdb, hlt, hra, hne, w1, w2⟩ hN hF ?_))
        ((repeat refine AW_seq ?_); (refine wta ?_); simp (disch := omega) only [retQ, resD, oneD, rsv, rs, rsL, rsL_eq_map, List.map_map, bb, bt, zDs, zD, eqCells, simprocAttr, Tryz.results18, ho])
      ((refine ggb2 (F := _∧_∧_∧_∧_∧_) ⟨hdb, hlt, hra, hne, w1, w2⟩ hN hF ?_))
      refine ⟨(k + 1, tt + 1), ⟨hlt, fun j hj => ?_⟩, by show s.bs.length - (k + 1) < s.bs.length - k; omega, ?_⟩
      · by_cases e : j = k
        · subst e; rw [hat, hnm, hc]; simp; omega
        · exact hin j (by omega)
      (simp (disch := omega) only [StLe, tmLe, hpLe_refl, hpLe, bl, bb, bt, zDs, zD, eqCells, simprocAttr])
    · have hke : k = s.bs.length := by omega
      subst hke
      ((refine ggb0 (F := _∧_) ⟨@Int.lt_irrefl, hdb⟩ ?_))
      exact ⟨tt, hin, by (simp (disch := omega) only [StLe, tmLe, hpLe_refl, hpLe, bl, bb, bt, zDs, zD, eqCells, simprocAttr])⟩
  rintro t2 hbs
  ((refine ggb0 hdr ?_))
  ((repeat refine AW_seq ?_))
  refine AW_mid (fun x : Nat => ⟨[(5, int (hauls s.rs))], [], x⟩) (fun _ => ∀ j, j < s.rs.length → okR s j = true) ?_ ?_
  · refine AW_block ?_
    refine AW_loop_w (fun x : Nat × Nat => ⟨[(1, .ptr 0 (t + 1) 0), (5, int (hauls (s.rs.take x.1))), (6, int x.1)], [some ⟨25, t + 1, [bks s.bs, rps s.rs]⟩], x.2⟩) (fun x => s.rs.length - x.1) (fun x => x.1 ≤ s.rs.length ∧ ∀ j, j < x.1 → okR s j = true) (0, t2) ⟨Nat.zero_le _, fun j hj => absurd hj (Nat.not_lt_zero _)⟩ (by (simp (disch := omega) only [StLe, tmLe, hpLe_refl, hpLe, bl, bb, bt, zDs, zD, eqCells, simprocAttr, hauls, List.filter_nil])) ?_
    rintro ⟨k, tt⟩ ⟨hk, hin⟩
    simp only at hk hin
    by_cases hlt : k < s.rs.length
    · obtain ⟨r, hr⟩ : ∃ y, s.rs[k]? = some y := ⟨_, List.getElem?_eq_getElem hlt⟩
      have hra := rpC_read s.rs k r hr
      have hat := okR_at hr
      have hsh := hauls_step hr
      have hhl := hauls_le (s.rs.take k)
      rw [List.length_take] at hhl
      obtain ⟨sr1, sr2⟩ := sr r (List.mem_of_getElem? hr)
      have hrp := rope_ref s r nb sr2
      have hN := isName_ref r.nm sr1
      have hF := refFindRope s r.nm nr
      have hB := refFindBlock s r.nm nb
      have hne := findR_ne hr
      have hge := findB_ge s.bs r.nm
      have hcon : (bNames s.bs ++ rNames (s.rs.take k)).contains r.nm = ((bNames s.bs).contains r.nm || (rNames (s.rs.take k)).contains r.nm) := List.contains_append
      ((refine ggb0 (F := _∧_∧_) ⟨@Int.ofNat_lt, hlt, hdr⟩ ?_))
      ((repeat refine AW_seq ?_))
      refine AW_block ?_
      cases hnm : isNm r.nm
      · have ho : validS s = false := validS_r hlt (by rw [hat, hnm, Bool.false_and, Bool.false_and])
        rw [hnm] at hN
        ((refine ggb1 (F := _∧_∧_) ⟨hdr, hlt, hra⟩ hN ?_))
        ((repeat refine AW_seq ?_); (refine wta ?_); simp (disch := omega) only [retQ, resD, oneD, rsv, rs, rsL, rsL_eq_map, List.map_map, bb, bt, zDs, zD, eqCells, simprocAttr, Tryz.results18, ho])
      rw [hnm] at hN
      cases hc : (rNames (s.rs.take k)).contains r.nm
      rotate_left 1
      · have ho : validS s = false := validS_r hlt (by rw [hat, hnm, hcon, hc, Bool.or_true]; rfl)
        rw [hc] at hne
        ((refine ggb2 (F := _∧_∧_∧_) ⟨hdr, hlt, hra, hne⟩ hN hF ?_))
        ((repeat refine AW_seq ?_); (refine wta ?_); simp (disch := omega) only [retQ, resD, oneD, rsv, rs, rsL, rsL_eq_map, List.map_map, bb, bt, zDs, zD, eqCells, simprocAttr, Tryz.results18, ho])
      rw [hc] at hne
      cases hd : (bNames s.bs).contains r.nm
      rotate_left 1
      · have ho : validS s = false := validS_r hlt (by rw [hat, hnm, hcon, hd, Bool.true_or]; rfl)
        rw [hd] at hge
        ((refine ggb3 (F := _∧_∧_∧_∧_) ⟨hdr, hlt, hra, hne, hge⟩ hN hF hB ?_))
        ((repeat refine AW_seq ?_); (refine wta ?_); simp (disch := omega) only [retQ, resD, oneD, rsv, rs, rsL, rsL_eq_map, List.map_map, bb, bt, zDs, zD, eqCells, simprocAttr, Tryz.results18, ho])
      rw [hd] at hge
      cases hw : okRope s.bs r
      · have ho : validS s = false := validS_r hlt (by rw [hat, hw, Bool.and_false])
        rw [hw] at hrp
        ((refine ggb4 (F := _∧_∧_∧_∧_) ⟨hdr, hlt, hra, hne, hge⟩ hN hF hB hrp ?_))
        ((repeat refine AW_seq ?_); (refine wta ?_); simp (disch := omega) only [retQ, resD, oneD, rsv, rs, rsL, rsL_eq_map, List.map_map, bb, bt, zDs, zD, eqCells, simprocAttr, Tryz.results18, ho])
      rw [hw] at hrp
      have hok : okR s k = true := by rw [hat, hnm, hcon, hc, hd, hw]; rfl
      ((refine ggb4 (F := _∧_∧_∧_∧_) ⟨hdr, hlt, hra, hne, hge⟩ hN hF hB hrp ?_))
      cases hh : r.hl
      · rw [hh] at hsh
        simp only [Bool.false_eq_true, if_false, Nat.add_zero] at hsh
        ((refine gga0 ?_))
        refine ⟨(k + 1, tt + 1), ⟨hlt, fun j hj => ?_⟩, by show s.rs.length - (k + 1) < s.rs.length - k; omega, ?_⟩
        · by_cases e : j = k
          · subst e; exact hok
          · exact hin j (by omega)
        simp only [hsh]
        (simp (disch := omega) only [StLe, tmLe, hpLe_refl, hpLe, bl, bb, bt, zDs, zD, eqCells, simprocAttr])
      · rw [hh] at hsh
        simp only [if_true] at hsh
        ((refine gga0 ?_))
        refine ⟨(k + 1, tt + 1), ⟨hlt, fun j hj => ?_⟩, by show s.rs.length - (k + 1) < s.rs.length - k; omega, ?_⟩
        · by_cases e : j = k
          · subst e; exact hok
          · exact hin j (by omega)
        simp only [hsh]
        (simp (disch := omega) only [StLe, tmLe, hpLe_refl, hpLe, bl, bb, bt, zDs, zD, eqCells, simprocAttr])
    · have hke : k = s.rs.length := by omega
      subst hke
      rw [List.take_length]
      ((refine ggb0 (F := _∧_) ⟨@Int.lt_irrefl, hdr⟩ ?_))
      exact ⟨tt, hin, by (simp (disch := omega) only [StLe, tmLe, hpLe_refl, hpLe, bl, bb, bt, zDs, zD, eqCells, simprocAttr])⟩
  rintro t3 hrs
  have ho := validS_end hsz hbs hrs
  have he : decide ((hauls s.rs : Int) ≤ 1) = decide (hauls s.rs ≤ 1) := by rw [decide_eq_decide]; omega
  ((refine ggb0 he ?_))
  ((repeat refine AW_seq ?_); (refine wta ?_); simp (disch := omega) only [retQ, resD, oneD, rsv, rs, rsL, rsL_eq_map, List.map_map, bb, bt, zDs, zD, eqCells, simprocAttr, Tryz.results18, ho])
end Go.Proofs.YtcppnmohgaobdaaGreat.T
end

