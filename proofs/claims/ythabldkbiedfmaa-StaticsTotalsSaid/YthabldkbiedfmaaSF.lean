import Derived.Test.YthabldkbiedfmaaSFR
set_option linter.all false
namespace Go.Proofs.Ythabldkbiedfmaa.T
open Go Go.RowKit Lin
set_option linter.unusedSimpArgs false

/-! Valid systems, by the reference. -/
set_option maxHeartbeats 4000000 in
theorem valid_ref (s : Sy) (hf : Fits s) : PRet Try.prog 60 [syD s] (bool (validS s)) := by
  refine PRet.intro 1 fun t => ACall.enter tab_ok Try.func60 rfl rfl Try.ntmps60 (by simp) ?_
  simp only [enterTM]
  obtain ⟨nb, nr, sb, sr⟩ := hf
  have hlb := bkC_len s.bs
  have hlr := rpC_len s.rs
  have hdb := bkC_div s.bs
  have hdr := rpC_div s.rs
  by_cases a1 : (s.bs.length : Int) < 1
  · have ho : validS s = false := validS_size (by simp [okSize]; omega)
    ((refine ggb0 (F := _∧_∧_) ⟨hdb, hdr, a1⟩ ?_))
    ((repeat refine AW_seq ?_); (refine wta ?_); simp (disch := omega) only [retQ, resD, oneD, rsv, rs, rsL, rsL_eq_map, List.map_map, bb, bt, zDs, zD, eqCells, simprocAttr, Try.results60, ho])
  by_cases a2 : 6 < (s.bs.length : Int)
  · have ho : validS s = false := validS_size (by simp [okSize]; omega)
    ((refine ggb0 (F := _∧_∧_∧_) ⟨hdb, hdr, a1, a2⟩ ?_))
    ((repeat refine AW_seq ?_); (refine wta ?_); simp (disch := omega) only [retQ, resD, oneD, rsv, rs, rsL, rsL_eq_map, List.map_map, bb, bt, zDs, zD, eqCells, simprocAttr, Try.results60, ho])
  by_cases a3 : (s.rs.length : Int) < 1
  · have ho : validS s = false := validS_size (by simp [okSize]; omega)
    ((refine ggb0 (F := _∧_∧_∧_∧_) ⟨hdb, hdr, a1, a2, a3⟩ ?_))
    ((repeat refine AW_seq ?_); (refine wta ?_); simp (disch := omega) only [retQ, resD, oneD, rsv, rs, rsL, rsL_eq_map, List.map_map, bb, bt, zDs, zD, eqCells, simprocAttr, Try.results60, ho])
  by_cases a4 : 6 < (s.rs.length : Int)
  · have ho : validS s = false := validS_size (by simp [okSize]; omega)
    ((refine ggb0 (F := _∧_∧_∧_∧_∧_) ⟨hdb, hdr, a1, a2, a3, a4⟩ ?_))
    ((repeat refine AW_seq ?_); (refine wta ?_); simp (disch := omega) only [retQ, resD, oneD, rsv, rs, rsL, rsL_eq_map, List.map_map, bb, bt, zDs, zD, eqCells, simprocAttr, Try.results60, ho])
  have hsz : okSize s = true := by simp [okSize]; omega
  ((refine ggb0 (F := _∧_∧_∧_∧_∧_) ⟨hdb, hdr, a1, a2, a3, a4⟩ ?_))
  clear a1 a2 a3 a4
  ((repeat refine AW_seq ?_))
  refine AW_mid (fun x : Nat => ⟨[(1, .ptr 0 (t + 1) 0)], [some ⟨25, t + 1, [bks s.bs, rps s.rs]⟩], x⟩) (fun _ => ∀ j, j < s.bs.length → okB s.bs j = true) ?_ ?_
  · refine AW_block ?_
    refine AW_loop_w (fun x : Nat × Nat => ⟨[(1, .ptr 0 (t + 1) 0), (3, int x.1)], [some ⟨25, t + 1, [bks s.bs, rps s.rs]⟩], x.2⟩) (fun x => s.bs.length - x.1) (fun x => x.1 ≤ s.bs.length ∧ ∀ j, j < x.1 → okB s.bs j = true) (0, t + 1) ⟨Nat.zero_le _, fun j hj => absurd hj (Nat.not_lt_zero _)⟩ (by (simp (disch := omega) only [StLe, tmLe, hpLe_refl, hpLe, bl, bb, bt, zDs, zD, eqCells, simprocAttr])) ?_
    rintro ⟨k, tt⟩ ⟨hk, hin⟩
    simp only at hk hin
    by_cases hlt : k < s.bs.length
    · obtain ⟨b, hb⟩ : ∃ y, s.bs[k]? = some y := ⟨_, List.getElem?_eq_getElem hlt⟩
      have hra := bkC_read s.bs k b hb
      have hat := okB_at hb
      have hN := isName_ref b.nm (sb b (List.mem_of_getElem? hb))
      have hF := refFindBlock s b.nm nb
      have hne := findB_ne hb
      ((refine ggb0 (F := _∧_∧_) ⟨@Int.ofNat_lt, hlt, hdb⟩ ?_))
      ((repeat refine AW_seq ?_))
      refine AW_block ?_
      cases hnm : isNm b.nm
      · have ho : validS s = false := validS_b hlt (by rw [hat, hnm, Bool.false_and, Bool.false_and])
        rw [hnm] at hN
        ((refine ggb1 (F := _∧_∧_) ⟨hdb, hlt, hra⟩ hN ?_))
        ((repeat refine AW_seq ?_); (refine wta ?_); simp (disch := omega) only [retQ, resD, oneD, rsv, rs, rsL, rsL_eq_map, List.map_map, bb, bt, zDs, zD, eqCells, simprocAttr, Try.results60, ho])
      rw [hnm] at hN
      cases hc : (bNames (s.bs.take k)).contains b.nm
      rotate_left 1
      · have ho : validS s = false := validS_b hlt (by rw [hat, hnm, hc]; rfl)
        rw [hc] at hne
        ((refine ggb2 (F := _∧_∧_∧_) ⟨hdb, hlt, hra, hne⟩ hN hF ?_))
        ((repeat refine AW_seq ?_); (refine wta ?_); simp (disch := omega) only [retQ, resD, oneD, rsv, rs, rsL, rsL_eq_map, List.map_map, bb, bt, zDs, zD, eqCells, simprocAttr, Try.results60, ho])
      rw [hc] at hne
      by_cases w1 : b.w < 0
      · have ho : validS s = false := validS_b hlt (by rw [hat, hnm, hc]; simp; omega)
        ((refine ggb2 (F := _∧_∧_∧_∧_) ⟨hdb, hlt, hra, hne, w1⟩ hN hF ?_))
        ((repeat refine AW_seq ?_); (refine wta ?_); simp (disch := omega) only [retQ, resD, oneD, rsv, rs, rsL, rsL_eq_map, List.map_map, bb, bt, zDs, zD, eqCells, simprocAttr, Try.results60, ho])
      by_cases w2 : 16777216 < b.w
      · have ho : validS s = false := validS_b hlt (by rw [hat, hnm, hc]; simp; omega)
        ((refine ggb2 (F := _∧_∧_∧_∧_∧_) ⟨hdb, hlt, hra, hne, w1, w2⟩ hN hF ?_))
        ((repeat refine AW_seq ?_); (refine wta ?_); simp (disch := omega) only [retQ, resD, oneD, rsv, rs, rsL, rsL_eq_map, List.map_map, bb, bt, zDs, zD, eqCells, simprocAttr, Try.results60, ho])
      ((refine ggb2 (F := _∧_∧_∧_∧_∧_) ⟨hdb, hlt, hra, hne, w1, w2⟩ hN hF ?_))
      refine ⟨(k + 1, tt + 1), ⟨hlt, fun j hj => ?_⟩, by show s.bs.length - (k + 1) < s.bs.length - k; omega, ?_⟩
      · by_cases e : j = k
        · subst e; rw [hat, hnm, hc]; simp; omega
        · exact hin j (by omega)
      (simp (disch := omega) only [StLe, tmLe, hpLe_refl, hpLe, bl, bb, bt, zDs, zD, eqCells, simprocAttr])
    · have hke : k = s.bs.length := by omega
      subst hke
      ((refine ggb0 (F := _∧_) ⟨@Int.lt_irrefl, hdb⟩ ?_))
      exact ⟨tt, hin, by (simp (disch := omega) only [StLe, tmLe, hpLe_refl, hpLe, bl, bb, bt, zDs, zD, eqCells, simprocAttr])⟩
  rintro t2 hbs
  ((refine ggb0 hdr ?_))
  ((repeat refine AW_seq ?_))
  refine AW_mid (fun x : Nat => ⟨[(5, int (hauls s.rs))], [], x⟩) (fun _ => ∀ j, j < s.rs.length → okR s j = true) ?_ ?_
  · refine AW_block ?_
    refine AW_loop_w (fun x : Nat × Nat => ⟨[(1, .ptr 0 (t + 1) 0), (5, int (hauls (s.rs.take x.1))), (6, int x.1)], [some ⟨25, t + 1, [bks s.bs, rps s.rs]⟩], x.2⟩) (fun x => s.rs.length - x.1) (fun x => x.1 ≤ s.rs.length ∧ ∀ j, j < x.1 → okR s j = true) (0, t2) ⟨Nat.zero_le _, fun j hj => absurd hj (Nat.not_lt_zero _)⟩ (by (simp (disch := omega) only [StLe, tmLe, hpLe_refl, hpLe, bl, bb, bt, zDs, zD, eqCells, simprocAttr, hauls, List.filter_nil])) ?_
    rintro ⟨k, tt⟩ ⟨hk, hin⟩
    simp only at hk hin
    by_cases hlt : k < s.rs.length
    · obtain ⟨r, hr⟩ : ∃ y, s.rs[k]? = some y := ⟨_, List.getElem?_eq_getElem hlt⟩
      have hra := rpC_read s.rs k r hr
      have hat := okR_at hr
      have hsh := hauls_step hr
      have hhl := hauls_le (s.rs.take k)
      rw [List.length_take] at hhl
      obtain ⟨sr1, sr2⟩ := sr r (List.mem_of_getElem? hr)
      have hrp := rope_ref s r nb sr2
      have hN := isName_ref r.nm sr1
      have hF := refFindRope s r.nm nr
      have hB := refFindBlock s r.nm nb
      have hne := findR_ne hr
      have hge := findB_ge s.bs r.nm
      have hcon : (bNames s.bs ++ rNames (s.rs.take k)).contains r.nm = ((bNames s.bs).contains r.nm || (rNames (s.rs.take k)).contains r.nm) := List.contains_append
      ((refine ggb0 (F := _∧_∧_) ⟨@Int.ofNat_lt, hlt, hdr⟩ ?_))
      ((repeat refine AW_seq ?_))
      refine AW_block ?_
      cases hnm : isNm r.nm
      · have ho : validS s = false := validS_r hlt (by rw [hat, hnm, Bool.false_and, Bool.false_and])
        rw [hnm] at hN
        ((refine ggb1 (F := _∧_∧_) ⟨hdr, hlt, hra⟩ hN ?_))
        ((repeat refine AW_seq ?_); (refine wta ?_); simp (disch := omega) only [retQ, resD, oneD, rsv, rs, rsL, rsL_eq_map, List.map_map, bb, bt, zDs, zD, eqCells, simprocAttr, Try.results60, ho])
      rw [hnm] at hN
      cases hc : (rNames (s.rs.take k)).contains r.nm
      rotate_left 1
      · have ho : validS s = false := validS_r hlt (by rw [hat, hnm, hcon, hc, Bool.or_true]; rfl)
        rw [hc] at hne
        ((refine ggb2 (F := _∧_∧_∧_) ⟨hdr, hlt, hra, hne⟩ hN hF ?_))
        ((repeat refine AW_seq ?_); (refine wta ?_); simp (disch := omega) only [retQ, resD, oneD, rsv, rs, rsL, rsL_eq_map, List.map_map, bb, bt, zDs, zD, eqCells, simprocAttr, Try.results60, ho])
      rw [hc] at hne
      cases hd : (bNames s.bs).contains r.nm
      rotate_left 1
      · have ho : validS s = false := validS_r hlt (by rw [hat, hnm, hcon, hd, Bool.true_or]; rfl)
        rw [hd] at hge
        ((refine ggb3 (F := _∧_∧_∧_∧_) ⟨hdr, hlt, hra, hne, hge⟩ hN hF hB ?_))
        ((repeat refine AW_seq ?_); (refine wta ?_); simp (disch := omega) only [retQ, resD, oneD, rsv, rs, rsL, rsL_eq_map, List.map_map, bb, bt, zDs, zD, eqCells, simprocAttr, Try.results60, ho])
      rw [hd] at hge
      cases hw : okRope s.bs r
      · have ho : validS s = false := validS_r hlt (by rw [hat, hw, Bool.and_false])
        rw [hw] at hrp
        ((refine ggb4 (F := _∧_∧_∧_∧_) ⟨hdr, hlt, hra, hne, hge⟩ hN hF hB hrp ?_))
        ((repeat refine AW_seq ?_); (refine wta ?_); simp (disch := omega) only [retQ, resD, oneD, rsv, rs, rsL, rsL_eq_map, List.map_map, bb, bt, zDs, zD, eqCells, simprocAttr, Try.results60, ho])
      rw [hw] at hrp
      have hok : okR s k = true := by rw [hat, hnm, hcon, hc, hd, hw]; rfl
      ((refine ggb4 (F := _∧_∧_∧_∧_) ⟨hdr, hlt, hra, hne, hge⟩ hN hF hB hrp ?_))
      cases hh : r.hl
      · rw [hh] at hsh
        simp only [Bool.false_eq_true, if_false, Nat.add_zero] at hsh
        ((refine gga0 ?_))
        refine ⟨(k + 1, tt + 1), ⟨hlt, fun j hj => ?_⟩, by show s.rs.length - (k + 1) < s.rs.length - k; omega, ?_⟩
        · by_cases e : j = k
          · subst e; exact hok
          · exact hin j (by omega)
        simp only [hsh]
        (simp (disch := omega) only [StLe, tmLe, hpLe_refl, hpLe, bl, bb, bt, zDs, zD, eqCells, simprocAttr])
      · rw [hh] at hsh
        simp only [if_true] at hsh
        ((refine gga0 ?_))
        refine ⟨(k + 1, tt + 1), ⟨hlt, fun j hj => ?_⟩, by show s.rs.length - (k + 1) < s.rs.length - k; omega, ?_⟩
        · by_cases e : j = k
          · subst e; exact hok
          · exact hin j (by omega)
        simp only [hsh]
        (simp (disch := omega) only [StLe, tmLe, hpLe_refl, hpLe, bl, bb, bt, zDs, zD, eqCells, simprocAttr])
    · have hke : k = s.rs.length := by omega
      subst hke
      rw [List.take_length]
      ((refine ggb0 (F := _∧_) ⟨@Int.lt_irrefl, hdr⟩ ?_))
      exact ⟨tt, hin, by (simp (disch := omega) only [StLe, tmLe, hpLe_refl, hpLe, bl, bb, bt, zDs, zD, eqCells, simprocAttr])⟩
  rintro t3 hrs
  have ho := validS_end hsz hbs hrs
  have he : decide ((hauls s.rs : Int) ≤ 1) = decide (hauls s.rs ≤ 1) := by rw [decide_eq_decide]; omega
  ((refine ggb0 he ?_))
  ((repeat refine AW_seq ?_); (refine wta ?_); simp (disch := omega) only [retQ, resD, oneD, rsv, rs, rsL, rsL_eq_map, List.map_map, bb, bt, zDs, zD, eqCells, simprocAttr, Try.results60, ho])
end Go.Proofs.Ythabldkbiedfmaa.T
