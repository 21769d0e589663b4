import Derived.Test.YtcppnmohgaobdaaGreatRSBC
import Derived.Test.YtcppnmohgaobdaaGreatRWJK
set_option linter.all false
section
namespace Go.Proofs.YtcppnmohgaobdaaGreat.T
open Go Go.RowKit Lin
theorem within_ (n lo hi : Int) : PRet Tryz.prog 74 [int n, int lo, int hi] (bool (decide (lo ≤ n) && decide (n ≤ hi))) := by
  refine PRet.intro 1 fun t => ACall.enter tab_ok Tryz.func74 rfl rfl Tryz.ntmps74 (by simp) ?_
  simp only [enterTM]
  by_cases h1 : lo ≤ n <;> by_cases h2 : n ≤ hi <;>
  · ((refine ggb0 (F := _∧_) ⟨h1, h2⟩ ?_))
    ((repeat refine AW_seq ?_); (refine wta ?_); simp (disch := omega) only [retQ, resD, oneD, rsv, rs, rsL, rsL_eq_map, List.map_map, bb, bt, zDs, zD, eqCells, simprocAttr, Tryz.results74, h1, h2])
theorem lossy_prog (n d : Int) : PRet Tryz.prog 103 [frD (n, d)] (bool (lossy n d)) := by
  refine PRet.intro 1 fun t => ACall.enter tab_ok Tryz.func103 rfl rfl Tryz.ntmps103 (by simp) ?_
  simp only [enterTM]
  have hc := rValid n d
  cases hv : vfrac n d
  · rw [hv] at hc
    ((refine gga1 hc ?_))
    ((repeat refine AW_seq ?_); (refine wta ?_); simp (disch := omega) only [retQ, resD, oneD, rsv, rs, rsL, rsL_eq_map, List.map_map, bb, bt, zDs, zD, eqCells, simprocAttr, Tryz.results103, lossy, hv])
  · rw [hv] at hc
    by_cases h1 : d ≤ n <;> by_cases h2 : n ≤ 100 <;>
    · ((refine ggb1 (F := _∧_) ⟨h1, h2⟩ hc ?_))
      ((repeat refine AW_seq ?_); (refine wta ?_); simp (disch := omega) only [retQ, resD, oneD, rsv, rs, rsL, rsL_eq_map, List.map_map, bb, bt, zDs, zD, eqCells, simprocAttr, Tryz.results103, lossy, hv, h1, h2])
theorem lossy_ref (n d : Int) : PRet Tryz.prog 14 [frD (n, d)] (bool (lossy n d)) := by
  refine PRet.intro 1 fun t => ACall.enter tab_ok Tryz.func14 rfl rfl Tryz.ntmps14 (by simp) ?_
  simp only [enterTM]
  have hc := refFValid n d
  cases hv : vfrac n d
  · rw [hv] at hc
    ((refine gga1 hc ?_))
    ((repeat refine AW_seq ?_); (refine wta ?_); simp (disch := omega) only [retQ, resD, oneD, rsv, rs, rsL, rsL_eq_map, List.map_map, bb, bt, zDs, zD, eqCells, simprocAttr, Tryz.results14, lossy, hv])
  · rw [hv] at hc
    by_cases h1 : d ≤ n <;> by_cases h2 : n ≤ 100 <;>
    · ((refine ggb1 (F := _∧_) ⟨h1, h2⟩ hc ?_))
      ((repeat refine AW_seq ?_); (refine wta ?_); simp (disch := omega) only [retQ, resD, oneD, rsv, rs, rsL, rsL_eq_map, List.map_map, bb, bt, zDs, zD, eqCells, simprocAttr, Tryz.results14, lossy, hv, h1, h2])
set_option maxHeartbeats 2000000 in
theorem hold_prog (s : Sy) (h : Hd) (e : Bool) (hl : s.bs.length ≤ 1000000) : PRet Tryz.prog 89 [syD s, .agg (hd1 h), bool e] (bool (okHold s.bs h e)) := by
  refine PRet.intro 1 fun t => ACall.enter tab_ok Tryz.func89 rfl rfl Tryz.ntmps89 (by simp) ?_
  simp only [enterTM]
  have hF := find_ s h.b hl
  have hL := lossy_prog h.n h.d
  cases e
  · cases hlo : lossy h.n h.d
    · rw [hlo] at hL
      have ho : okHold s.bs h false = false := by simp [okHold, hlo]
      ((refine gga1 hL ?_))
      ((repeat refine AW_seq ?_); (refine wta ?_); simp (disch := omega) only [retQ, resD, oneD, rsv, rs, rsL, rsL_eq_map, List.map_map, bb, bt, zDs, zD, eqCells, simprocAttr, Tryz.results89, ho])
    rw [hlo] at hL
    by_cases hb : h.b = ⟨#[]⟩
    · have ho : okHold s.bs h false = (h.p == 0) := by simp [okHold, hlo, hb]
      ((refine ggb1 hb hL ?_))
      ((repeat refine AW_seq ?_))
      refine AW_block ?_
      ((refine ggb0 hb ?_))
      ((repeat refine AW_seq ?_); (refine wta ?_); simp (disch := omega) only [retQ, resD, oneD, rsv, rs, rsL, rsL_eq_map, List.map_map, bb, bt, zDs, zD, eqCells, simprocAttr, Tryz.results89, ho])
    by_cases hf : findB s.bs h.b < 0
    · have hf' : ¬ 0 ≤ findB s.bs h.b := by omega
      have ho : okHold s.bs h false = false := by simp [okHold, hb, hf']
      ((refine ggb1 hb hL ?_))
      ((repeat refine AW_seq ?_))
      refine AW_block ?_
      ((refine ggb1 (F := _∧_) ⟨hb, hf⟩ hF ?_))
      ((repeat refine AW_seq ?_); (refine wta ?_); simp (disch := omega) only [retQ, resD, oneD, rsv, rs, rsL, rsL_eq_map, List.map_map, bb, bt, zDs, zD, eqCells, simprocAttr, Tryz.results89, ho])
    have hf' : 0 ≤ findB s.bs h.b := by omega
    have ho : okHold s.bs h false = (h.p == 2 || h.p == 0 || h.p == -2) := by simp [okHold, hb, hf', hlo]
    ((refine ggb1 hb hL ?_))
    ((repeat refine AW_seq ?_))
    refine AW_block ?_
    ((refine ggb1 (F := _∧_) ⟨hb, hf⟩ hF ?_))
    cases h1 : (h.p == 2) <;> cases h2 : (h.p == 0) <;>
    · ((refine ggb0 (F := _∧_) ⟨h1, h2⟩ ?_))
      ((repeat refine AW_seq ?_); (refine wta ?_); simp (disch := omega) only [retQ, resD, oneD, rsv, rs, rsL, rsL_eq_map, List.map_map, bb, bt, zDs, zD, eqCells, simprocAttr, Tryz.results89, ho, h1, h2, Bool.or_self, Bool.or_false, Bool.false_or, Bool.true_or, Bool.or_true])
  · cases hn : (h.n == 1) <;> cases hd : (h.d == 1)
    rotate_left 3
    · by_cases hb : h.b = ⟨#[]⟩
      · have ho : okHold s.bs h true = (h.p == 0) := by simp [okHold, hn, hd, hb]
        ((refine ggb0 (F := _∧_) ⟨hn, hd⟩ ?_))
        ((repeat refine AW_seq ?_))
        refine AW_block ?_
        ((refine ggb0 hb ?_))
        ((repeat refine AW_seq ?_); (refine wta ?_); simp (disch := omega) only [retQ, resD, oneD, rsv, rs, rsL, rsL_eq_map, List.map_map, bb, bt, zDs, zD, eqCells, simprocAttr, Tryz.results89, ho])
      by_cases hf : findB s.bs h.b < 0
      · have hf' : ¬ 0 ≤ findB s.bs h.b := by omega
        have ho : okHold s.bs h true = false := by simp [okHold, hb, hf']
        ((refine ggb0 (F := _∧_) ⟨hn, hd⟩ ?_))
        ((repeat refine AW_seq ?_))
        refine AW_block ?_
        ((refine ggb1 (F := _∧_) ⟨hb, hf⟩ hF ?_))
        ((repeat refine AW_seq ?_); (refine wta ?_); simp (disch := omega) only [retQ, resD, oneD, rsv, rs, rsL, rsL_eq_map, List.map_map, bb, bt, zDs, zD, eqCells, simprocAttr, Tryz.results89, ho])
      have hf' : 0 ≤ findB s.bs h.b := by omega
      have ho : okHold s.bs h true = (h.p == 1 || h.p == -1) := by simp [okHold, hb, hf', hn, hd]
      ((refine ggb0 (F := _∧_) ⟨hn, hd⟩ ?_))
      ((repeat refine AW_seq ?_))
      refine AW_block ?_
      ((refine ggb1 (F := _∧_) ⟨hb, hf⟩ hF ?_))
      cases h1 : (h.p == 1) <;>
      · ((refine ggb0 h1 ?_))
        ((repeat refine AW_seq ?_); (refine wta ?_); simp (disch := omega) only [retQ, resD, oneD, rsv, rs, rsL, rsL_eq_map, List.map_map, bb, bt, zDs, zD, eqCells, simprocAttr, Tryz.results89, ho, h1, Bool.or_self, Bool.or_false, Bool.false_or, Bool.true_or, Bool.or_true])
    all_goals
      have ho : okHold s.bs h true = false := by simp [okHold, hn, hd]
      ((refine ggb0 (F := _∧_) ⟨hn, hd⟩ ?_))
      ((repeat refine AW_seq ?_); (refine wta ?_); simp (disch := omega) only [retQ, resD, oneD, rsv, rs, rsL, rsL_eq_map, List.map_map, bb, bt, zDs, zD, eqCells, simprocAttr, Tryz.results89, ho])
set_option maxHeartbeats 2000000 in
theorem hold_ref (s : Sy) (h : Hd) (e : Bool) (hl : s.bs.length ≤ 1000000) : PRet Tryz.prog 48 [syD s, .agg (hd1 h), bool e] (bool (okHold s.bs h e)) := by
  refine PRet.intro 1 fun t => ACall.enter tab_ok Tryz.func48 rfl rfl Tryz.ntmps48 (by simp) ?_
  simp only [enterTM]
  have hF := refFindBlock s h.b hl
  have hL := lossy_ref h.n h.d
  have hO := refOf 1
  cases e
  · cases hlo : lossy h.n h.d
    · rw [hlo] at hL
      have ho : okHold s.bs h false = false := by simp [okHold, hlo]
      ((refine gga0 ?_))
      ((repeat refine AW_seq ?_); (refine gdza2 hL hO ?_))
      ((refine gga0 ?_))
      ((repeat refine AW_seq ?_); (refine wta ?_); simp (disch := omega) only [retQ, resD, oneD, rsv, rs, rsL, rsL_eq_map, List.map_map, bb, bt, zDs, zD, eqCells, simprocAttr, Tryz.results48, ho])
    rw [hlo] at hL
    ((refine gga0 ?_))
    ((repeat refine AW_seq ?_); (refine gdza2 hL hO ?_))
    by_cases hb : h.b = ⟨#[]⟩
    · have ho : okHold s.bs h false = (h.p == 0) := by simp [okHold, hlo, hb]
      ((refine ggb0 hb ?_))
      ((repeat refine AW_seq ?_); (refine wta ?_); simp (disch := omega) only [retQ, resD, oneD, rsv, rs, rsL, rsL_eq_map, List.map_map, bb, bt, zDs, zD, eqCells, simprocAttr, Tryz.results48, ho])
    by_cases hf : findB s.bs h.b < 0
    · have hf' : ¬ 0 ≤ findB s.bs h.b := by omega
      have ho : okHold s.bs h false = false := by simp [okHold, hb, hf']
      ((refine ggb1 (F := _∧_) ⟨hb, hf⟩ hF ?_))
      ((repeat refine AW_seq ?_); (refine wta ?_); simp (disch := omega) only [retQ, resD, oneD, rsv, rs, rsL, rsL_eq_map, List.map_map, bb, bt, zDs, zD, eqCells, simprocAttr, Tryz.results48, ho])
    have hf' : 0 ≤ findB s.bs h.b := by omega
    have ho : okHold s.bs h false = (h.p == 2 || h.p == 0 || h.p == -2) := by simp [okHold, hb, hf', hlo]
    ((refine ggb1 (F := _∧_) ⟨hb, hf⟩ hF ?_))
    cases h1 : (h.p == 2) <;> cases h2 : (h.p == 0) <;>
    · ((refine ggb0 (F := _∧_) ⟨h1, h2⟩ ?_))
      ((repeat refine AW_seq ?_); (refine wta ?_); simp (disch := omega) only [retQ, resD, oneD, rsv, rs, rsL, rsL_eq_map, List.map_map, bb, bt, zDs, zD, eqCells, simprocAttr, Tryz.results48, ho, h1, h2, Bool.or_self, Bool.or_false, Bool.false_or, Bool.true_or, Bool.or_true])
  · cases hn : (h.n == 1) <;> cases hd : (h.d == 1)
    rotate_left 3
    · have hlo : lossy h.n h.d = true := by
        rw [show h.n = 1 by simpa using hn, show h.d = 1 by simpa using hd]; decide
      rw [hlo] at hL
      ((refine gga0 ?_))
      ((repeat refine AW_seq ?_); (refine gdzb2 (F := _∧_) ⟨hn, hd⟩ hL hO ?_))
      by_cases hb : h.b = ⟨#[]⟩
      · have ho : okHold s.bs h true = (h.p == 0) := by simp [okHold, hn, hd, hb]
        ((refine ggb0 hb ?_))
        ((repeat refine AW_seq ?_); (refine wta ?_); simp (disch := omega) only [retQ, resD, oneD, rsv, rs, rsL, rsL_eq_map, List.map_map, bb, bt, zDs, zD, eqCells, simprocAttr, Tryz.results48, ho])
      by_cases hf : findB s.bs h.b < 0
      · have hf' : ¬ 0 ≤ findB s.bs h.b := by omega
        have ho : okHold s.bs h true = false := by simp [okHold, hb, hf']
        ((refine ggb1 (F := _∧_) ⟨hb, hf⟩ hF ?_))
        ((repeat refine AW_seq ?_); (refine wta ?_); simp (disch := omega) only [retQ, resD, oneD, rsv, rs, rsL, rsL_eq_map, List.map_map, bb, bt, zDs, zD, eqCells, simprocAttr, Tryz.results48, ho])
      have hf' : 0 ≤ findB s.bs h.b := by omega
      have ho : okHold s.bs h true = (h.p == 1 || h.p == -1) := by simp [okHold, hb, hf', hn, hd]
      ((refine ggb1 (F := _∧_) ⟨hb, hf⟩ hF ?_))
      cases h1 : (h.p == 1) <;>
      · ((refine ggb0 h1 ?_))
        ((repeat refine AW_seq ?_); (refine wta ?_); simp (disch := omega) only [retQ, resD, oneD, rsv, rs, rsL, rsL_eq_map, List.map_map, bb, bt, zDs, zD, eqCells, simprocAttr, Tryz.results48, ho, h1, Bool.or_self, Bool.or_false, Bool.false_or, Bool.true_or, Bool.or_true])
    all_goals
      have ho : okHold s.bs h true = false := by simp [okHold, hn, hd]
      ((refine gga0 ?_))
      ((repeat refine AW_seq ?_); (refine gdzb2 (F := _∧_) ⟨hn, hd⟩ hL hO ?_))
      ((refine gga0 ?_))
      ((repeat refine AW_seq ?_); (refine wta ?_); simp (disch := omega) only [retQ, resD, oneD, rsv, rs, rsL, rsL_eq_map, List.map_map, bb, bt, zDs, zD, eqCells, simprocAttr, Tryz.results48, ho])
theorem okHolds_all {bs : List Bk} {hs : List Hd} (h : ∀ j x, hs[j]? = some x → okHold bs x (endH hs.length j) = true) : okHolds bs hs = true := by
  refine upto_all fun k hk => ?_
  rw [List.getElem?_eq_getElem hk]
  exact h k _ (List.getElem?_eq_getElem hk)
theorem okHolds_not {bs : List Bk} {hs : List Hd} {j : Nat} {x : Hd} (hj : hs[j]? = some x) (h : okHold bs x (endH hs.length j) = false) : okHolds bs hs = false := by
  refine upto_not (k := j) (List.getElem?_eq_some_iff.1 hj).1 ?_
  rw [hj]; exact h
set_option maxHeartbeats 2000000 in
theorem rope_prog (s : Sy) (r : Rp) (hl : s.bs.length ≤ 1000000) (hr : r.hs.length ≤ 1000000) : PRet Tryz.prog 77 [syD s, .agg (rp1 r)] (bool (okRope s.bs r)) := by
  refine PRet.intro 1 fun t => ACall.enter tab_ok Tryz.func77 rfl rfl Tryz.ntmps77 (by simp) ?_
  simp only [enterTM]
  have hla := hdC_len r.hs
  have ha2 := hdC_div r.hs
  have hW := within_ r.hs.length 2 10
  by_cases hsz : 2 ≤ r.hs.length ∧ r.hs.length ≤ 10
  rotate_left 1
  · have ho : okRope s.bs r = false := by simp only [okRope, hsz, decide_false, Bool.false_and]
    have hw : (decide ((2 : Int) ≤ r.hs.length) && decide ((r.hs.length : Int) ≤ 10)) = false := by
      rw [← Bool.not_eq_true, Bool.and_eq_true, decide_eq_true_eq, decide_eq_true_eq]; omega
    rw [hw] at hW
    ((refine ggb1 ha2 hW ?_))
    ((repeat refine AW_seq ?_); (refine wta ?_); simp (disch := omega) only [retQ, resD, oneD, rsv, rs, rsL, rsL_eq_map, List.map_map, bb, bt, zDs, zD, eqCells, simprocAttr, Tryz.results77, ho])
  have hw : (decide ((2 : Int) ≤ r.hs.length) && decide ((r.hs.length : Int) ≤ 10)) = true := by
    rw [Bool.and_eq_true, decide_eq_true_eq, decide_eq_true_eq]; omega
  rw [hw] at hW
  ((refine ggb1 ha2 hW ?_))
  ((repeat refine AW_seq ?_))
  refine AW_block ?_
  refine AW_loop_w (fun x : Nat × Nat => ⟨[(2, .ptr 0 (t + 1) 0), (3, .ptr 1 (t + 1 + 1) 0), (5, int r.hs.length), (15, hds r.hs), (16, int r.hs.length), (17, int x.1)], [some ⟨25, t + 1, [bks s.bs, rps s.rs]⟩, some ⟨40, t + 1 + 1, rp1 r⟩], x.2⟩) (fun x => r.hs.length - x.1) (fun x => x.1 ≤ r.hs.length ∧ ∀ j h, j < x.1 → r.hs[j]? = some h → okHold s.bs h (endH r.hs.length j) = true) (0, t + 1 + 1) ⟨Nat.zero_le _, fun j h hj => absurd hj (Nat.not_lt_zero _)⟩ (by (simp (disch := omega) only [StLe, tmLe, hpLe_refl, hpLe, bl, bb, bt, zDs, zD, eqCells, simprocAttr])) ?_
  rintro ⟨k, tt⟩ ⟨hk, hin⟩
  simp only at hk hin
  by_cases hlt : k < r.hs.length
  · obtain ⟨h, hh⟩ : ∃ h, r.hs[k]? = some h := ⟨_, List.getElem?_eq_getElem hlt⟩
    have hra := hdC_read r.hs k h hh
    have hH := hold_prog s h (endH r.hs.length k) hl
    ((refine ggb0 (F := _∧_) ⟨@Int.ofNat_lt, hlt⟩ ?_))
    ((repeat refine AW_seq ?_))
    refine AW_block ?_
    have e0 : ((k : Int) == 0) = (k == 0) := by rw [Bool.eq_iff_iff]; simp
    have e1 : ((k : Int) == (r.hs.length : Int) - 1) = (k + 1 == r.hs.length) := by rw [Bool.eq_iff_iff, beq_iff_eq, beq_iff_eq]; omega
    have hend : endH r.hs.length k = (k == 0 || k + 1 == r.hs.length) := rfl
    cases hok : okHold s.bs h (endH r.hs.length k)
    · have ho : okRope s.bs r = false := by simp only [okRope, okHolds_not hh hok, Bool.and_false, Bool.false_and]
      rw [hok] at hH
      cases h0 : (k == 0) <;> cases h1 : (k + 1 == r.hs.length) <;>
      · rw [hend, h0, h1] at hH
        simp only [Bool.or_self, Bool.or_true, Bool.true_or] at hH
        ((refine ggb1 (F := _∧_∧_∧_∧_∧_) ⟨hlt, hra, e0, e1, h0, h1⟩ hH ?_))
        ((repeat refine AW_seq ?_); (refine wta ?_); simp (disch := omega) only [retQ, resD, oneD, rsv, rs, rsL, rsL_eq_map, List.map_map, bb, bt, zDs, zD, eqCells, simprocAttr, Tryz.results77, ho])
    · rw [hok] at hH
      cases h0 : (k == 0) <;> cases h1 : (k + 1 == r.hs.length) <;>
      · rw [hend, h0, h1] at hH
        simp only [Bool.or_self, Bool.or_true, Bool.true_or] at hH
        ((refine ggb1 (F := _∧_∧_∧_∧_∧_) ⟨hlt, hra, e0, e1, h0, h1⟩ hH ?_))
        refine ⟨(k + 1, tt + 1), ⟨hlt, fun j x hj hx => ?_⟩, by show r.hs.length - (k + 1) < r.hs.length - k; omega, ?_⟩
        · by_cases e : j = k
          · subst e; rw [hh] at hx; cases hx; exact hok
          · exact hin j x (by omega) hx
        (simp (disch := omega) only [StLe, tmLe, hpLe_refl, hpLe, bl, bb, bt, zDs, zD, eqCells, simprocAttr])
  · have hke : k = r.hs.length := by omega
    subst hke
    have hall : okHolds s.bs r.hs = true := okHolds_all fun j x hx => hin j x (List.getElem?_eq_some_iff.1 hx).1 hx
    obtain ⟨m, hm⟩ : ∃ m, r.hs.length = m + 1 := ⟨r.hs.length - 1, by omega⟩
    obtain ⟨h, hh⟩ : ∃ h, r.hs[m]? = some h := ⟨_, List.getElem?_eq_getElem (by omega)⟩
    have hlast : r.hs.getLast? = some h := by rw [List.getLast?_eq_getElem?, show r.hs.length - 1 = m by omega]; exact hh
    have ho : okRope s.bs r = (!r.hl || decide (h.b = ⟨#[]⟩)) := by
      simp only [okRope, hall, hsz, hlast, and_self, decide_true, Bool.true_and]
    have em : (r.hs.length : Int) - 1 = (m : Int) := by omega
    have hnm := hdC_name r.hs m h hh
    have hmlt : m < r.hs.length := by omega
    cases hhl : r.hl
    · rw [hhl] at ho
      ((refine ggb0 (F := _∧_) ⟨@Int.lt_irrefl, hhl⟩ ?_))
      ((repeat refine AW_seq ?_); (refine wta ?_); simp (disch := omega) only [retQ, resD, oneD, rsv, rs, rsL, rsL_eq_map, List.map_map, bb, bt, zDs, zD, eqCells, simprocAttr, Tryz.results77, ho, Bool.true_or])
    · rw [hhl] at ho
      ((refine ggb0 (F := _∧_∧_∧_∧_) ⟨@Int.lt_irrefl, hhl, em, hmlt, hnm⟩ ?_))
      ((repeat refine AW_seq ?_); (refine wta ?_); simp (disch := omega) only [retQ, resD, oneD, rsv, rs, rsL, rsL_eq_map, List.map_map, bb, bt, zDs, zD, eqCells, simprocAttr, Tryz.results77, ho, Bool.false_or])
end Go.Proofs.YtcppnmohgaobdaaGreat.T
end
section
namespace Go.Proofs.YtcppnmohgaobdaaGreat.T
open Go Go.RowKit Lin
def strs (l : List ByteArray) : List D := l.flatMap fun s => [str s, bool true]
def addN (l : List ByteArray) (s : ByteArray) : List ByteArray := if l.contains s = true then l else l ++ [s]
theorem mfind_strs (k : ByteArray) : ∀ l : List ByteArray, mfind (.string k) (strs l) = some (if l.contains k = true then some (.bool true) else none)
  | [] => by simp [strs, mfind]
  | s :: l => by
    have ih := mfind_strs k l
    simp only [strs, List.flatMap_cons, List.cons_append, List.nil_append, mfind, keyEq] at ih ⊢
    by_cases h : k = s
    · simp [h]
    · have h' : (k == s) = false := by simpa using h
      simp only [h, decide_false, List.contains_cons, h', Bool.false_or]
      exact ih
theorem mput_strs (k : ByteArray) : ∀ l : List ByteArray, mput (.string k) (.bool true) (strs l) = strs (addN l k)
  | [] => by simp [strs, mput, addN]
  | s :: l => by
    have ih := mput_strs k l
    simp only [strs, addN, List.flatMap_cons, List.cons_append, List.nil_append, mput, keyEq] at ih ⊢
    by_cases h : k = s
    · subst h; simp
    · have h' : (k == s) = false := by simpa using h
      simp only [h, decide_false, List.contains_cons, h', Bool.false_or, Option.some.injEq, Bool.false_eq_true, if_false, ih]
      split <;> simp
theorem add_call {H : Hp} {b g c gc t : Nat} {nm : ByteArray} {names : List ByteArray} {K : D → Hp → Nat → Prop} (hs : nm.size ≤ 1000000) (hb : H[b]? = some (some ⟨106, g, [.mp c gc]⟩)) (hc : H[c]? = some (some ⟨106, gc, strs names⟩))
    (hK : K (bool (isNm nm && !names.contains nm)) (H.set c (some ⟨106, gc, strs (addN names nm)⟩)) t) : ACall Tryz.prog 75 [str nm, .ptr b g 0] H t K := by
  refine ACall.enter tab_ok Tryz.func75 rfl rfl Tryz.ntmps75 (by simp) ?_
  simp only [enterTM]
  have hN := isName_dec nm hs
  have h1 := mfind_strs nm names
  have h2 := mput_strs nm names
  have hcl : c < H.length := (List.getElem?_eq_some_iff.1 hc).1
  cases hn : isNm nm
  · rw [hn] at hN
    rw [hn] at hK
    ((refine ggb1 (F := _∧_∧_∧_) ⟨hb, hc, h1, h2⟩ hN ?_))
    ((repeat refine AW_seq ?_); (refine wta ?_); simp (disch := omega) only [retQ, resD, oneD, bb, bt, zDs, zD, eqCells, simprocAttr, Tryz.results75])
    exact hK
  · rw [hn] at hN
    rw [hn] at hK
    cases hin : names.contains nm
    · rw [hin] at h1 hK
      simp only [Bool.false_eq_true, if_false] at h1
      ((refine ggb1 (F := _∧_∧_∧_∧_) ⟨hb, hc, h1, h2, @Option.isSome_none.{0}⟩ hN ?_))
      ((repeat refine AW_seq ?_); (refine wta ?_); simp (disch := omega) only [retQ, resD, oneD, bb, bt, zDs, zD, eqCells, simprocAttr, Tryz.results75])
      exact hK
    · rw [hin] at h1 hK
      simp only [if_true] at h1
      ((refine ggb1 (F := _∧_∧_∧_∧_) ⟨hb, hc, h1, h2, @Option.isSome_some.{0}⟩ hN ?_))
      ((repeat refine AW_seq ?_); (refine wta ?_); simp (disch := omega) only [retQ, resD, oneD, bb, bt, zDs, zD, eqCells, simprocAttr, Tryz.results75])
      exact hK
structure Fits (s : Sy) : Prop where
  nb : s.bs.length ≤ 1000000
  nr : s.rs.length ≤ 1000000
  sb : ∀ b ∈ s.bs, b.nm.size ≤ 1000000
  sr : ∀ r ∈ s.rs, r.nm.size ≤ 1000000 ∧ r.hs.length ≤ 1000000
theorem okB_at {bs : List Bk} {k : Nat} {b : Bk} (h : bs[k]? = some b) : okB bs k = (isNm b.nm && !(bNames (bs.take k)).contains b.nm && decide (0 ≤ b.w ∧ b.w ≤ 16777216)) := by unfold okB; rw [h]
theorem okR_at {s : Sy} {k : Nat} {r : Rp} (h : s.rs[k]? = some r) : okR s k = (isNm r.nm && !(bNames s.bs ++ rNames (s.rs.take k)).contains r.nm && okRope s.bs r) := by unfold okR; rw [h]
theorem bNames_step {bs : List Bk} {k : Nat} {b : Bk} (h : bs[k]? = some b) : bNames (bs.take (k + 1)) = bNames (bs.take k) ++ [b.nm] := by
  unfold bNames; rw [List.take_add_one, h]; simp
theorem rNames_step {rs : List Rp} {k : Nat} {r : Rp} (h : rs[k]? = some r) : rNames (rs.take (k + 1)) = rNames (rs.take k) ++ [r.nm] := by
  unfold rNames; rw [List.take_add_one, h]; simp
theorem hauls_step {rs : List Rp} {k : Nat} {r : Rp} (h : rs[k]? = some r) : hauls (rs.take (k + 1)) = hauls (rs.take k) + (if r.hl = true then 1 else 0) := by
  unfold hauls; rw [List.take_add_one, h, List.filter_append, List.length_append]
  cases hh : r.hl <;> simp [hh]
theorem hauls_le (rs : List Rp) : hauls rs ≤ rs.length := List.length_filter_le _ _
theorem validS_size {s : Sy} (h : okSize s = false) : validS s = false := by simp [validS, h]
theorem validS_b {s : Sy} {k : Nat} (hk : k < s.bs.length) (h : okB s.bs k = false) : validS s = false := by simp [validS, upto_not hk h]
theorem validS_r {s : Sy} {k : Nat} (hk : k < s.rs.length) (h : okR s k = false) : validS s = false := by simp [validS, upto_not hk h]
theorem validS_end {s : Sy} (h : okSize s = true) (hb : ∀ j, j < s.bs.length → okB s.bs j = true) (hr : ∀ j, j < s.rs.length → okR s j = true) : validS s = decide (hauls s.rs ≤ 1) := by
  simp [validS, h, upto_all hb, upto_all hr]
set_option maxHeartbeats 4000000 in
theorem valid_prog (s : Sy) (hf : Fits s) : PRet Tryz.prog 63 [syD s] (bool (validS s)) := by
  refine PRet.intro 1 fun t => ACall.enter tab_ok Tryz.func63 rfl rfl Tryz.ntmps63 (by simp) ?_
  simp only [enterTM]
  obtain ⟨nb, nr, sb, sr⟩ := hf
  have hlb := bkC_len s.bs
  have hlr := rpC_len s.rs
  have hdb := bkC_div s.bs
  have hdr := rpC_div s.rs
  have hw1 := within_ s.bs.length 1 6
  have hw2 := within_ s.rs.length 1 6
  by_cases c1 : 1 ≤ s.bs.length ∧ s.bs.length ≤ 6
  rotate_left 1
  · have ho : validS s = false := validS_size (by simp [okSize, c1])
    have hw : (decide ((1 : Int) ≤ s.bs.length) && decide ((s.bs.length : Int) ≤ 6)) = false := by
      rw [← Bool.not_eq_true, Bool.and_eq_true, decide_eq_true_eq, decide_eq_true_eq]; omega
    rw [hw] at hw1
    ((refine ggb1 (F := _∧_) ⟨hdb, hdr⟩ hw1 ?_))
    ((repeat refine AW_seq ?_); (refine wta ?_); simp (disch := omega) only [retQ, resD, oneD, rsv, rs, rsL, rsL_eq_map, List.map_map, bb, bt, zDs, zD, eqCells, simprocAttr, Tryz.results63, ho])
  have hwa : (decide ((1 : Int) ≤ s.bs.length) && decide ((s.bs.length : Int) ≤ 6)) = true := by
    rw [Bool.and_eq_true, decide_eq_true_eq, decide_eq_true_eq]; omega
  rw [hwa] at hw1
  by_cases c2 : 1 ≤ s.rs.length ∧ s.rs.length ≤ 6
  rotate_left 1
  · have ho : validS s = false := validS_size (by simp [okSize, c2])
    have hw : (decide ((1 : Int) ≤ s.rs.length) && decide ((s.rs.length : Int) ≤ 6)) = false := by
      rw [← Bool.not_eq_true, Bool.and_eq_true, decide_eq_true_eq, decide_eq_true_eq]; omega
    rw [hw] at hw2
    ((refine ggb2 (F := _∧_) ⟨hdb, hdr⟩ hw1 hw2 ?_))
    ((repeat refine AW_seq ?_); (refine wta ?_); simp (disch := omega) only [retQ, resD, oneD, rsv, rs, rsL, rsL_eq_map, List.map_map, bb, bt, zDs, zD, eqCells, simprocAttr, Tryz.results63, ho])
  have hwb : (decide ((1 : Int) ≤ s.rs.length) && decide ((s.rs.length : Int) ≤ 6)) = true := by
    rw [Bool.and_eq_true, decide_eq_true_eq, decide_eq_true_eq]; omega
  rw [hwb] at hw2
  have hsz : okSize s = true := by simp [okSize, c1, c2]
  ((refine ggb2 (F := _∧_) ⟨hdb, hdr⟩ hw1 hw2 ?_))
  clear hw1 hw2
  ((repeat refine AW_seq ?_))
  refine AW_mid (fun x : Nat => ⟨[(1, .ptr 0 (t + 1) 0), (4, .fn 75 [.ptr 2 (t + 1 + 1 + 1) 0])], [some ⟨25, t + 1, [bks s.bs, rps s.rs]⟩, some ⟨106, t + 1 + 1, strs (bNames s.bs)⟩, some ⟨106, t + 1 + 1 + 1, [.mp 1 (t + 1 + 1)]⟩], x⟩) (fun _ => ∀ j, j < s.bs.length → okB s.bs j = true) ?_ ?_
  · refine AW_block ?_
    refine AW_loop_w (fun x : Nat × Nat => ⟨[(1, .ptr 0 (t + 1) 0), (4, .fn 75 [.ptr 2 (t + 1 + 1 + 1) 0]), (25, bks s.bs), (26, int s.bs.length), (27, int x.1)], [some ⟨25, t + 1, [bks s.bs, rps s.rs]⟩, some ⟨106, t + 1 + 1, strs (bNames (s.bs.take x.1))⟩, some ⟨106, t + 1 + 1 + 1, [.mp 1 (t + 1 + 1)]⟩], x.2⟩) (fun x => s.bs.length - x.1) (fun x => x.1 ≤ s.bs.length ∧ ∀ j, j < x.1 → okB s.bs j = true) (0, t + 1 + 1 + 1) ⟨Nat.zero_le _, fun j hj => absurd hj (Nat.not_lt_zero _)⟩ (by (simp (disch := omega) only [StLe, tmLe, hpLe_refl, hpLe, bl, bb, bt, zDs, zD, eqCells, simprocAttr, strs, bNames])) ?_
    rintro ⟨k, tt⟩ ⟨hk, hin⟩
    simp only at hk hin
    by_cases hlt : k < s.bs.length
    · obtain ⟨b, hb⟩ : ∃ y, s.bs[k]? = some y := ⟨_, List.getElem?_eq_getElem hlt⟩
      have hra := bkC_read s.bs k b hb
      have hat := okB_at hb
      have hst := bNames_step hb
      have hwt := within_ b.w 0 16777216
      have hdw : decide (0 ≤ b.w ∧ b.w ≤ 16777216) = (decide (0 ≤ b.w) && decide (b.w ≤ 16777216)) := by rw [Bool.eq_iff_iff]; simp
      ((refine ggb0 (F := _∧_) ⟨@Int.ofNat_lt, hlt⟩ ?_))
      ((repeat refine AW_seq ?_))
      refine AW_block ?_
      ((refine ggb0 (F := _∧_) ⟨hlt, hra⟩ ?_))
      ((try with_reducible intro KR hKR); (first | refine awOps_nc fun KK hKK => ?_ | refine awOps_gc rfl fun KK hKK => ?_); simp (disch := omega) only [bb, bt, zDs, zD, eqCells, simprocAttr, goC, callO_fn, argsD, and_self])
      refine add_call (names := bNames (s.bs.take k)) (sb b (List.mem_of_getElem? hb)) rfl rfl ?_
      cases hnm : (isNm b.nm && !(bNames (s.bs.take k)).contains b.nm)
      · have ho : validS s = false := validS_b hlt (by rw [hat, hnm, Bool.false_and])
        (simp (disch := omega) only [bb, bt, zDs, zD, eqCells, simprocAttr, afterC]; refine hKK _ ?_; clear hKK KK)
        ((refine gga0 ?_))
        ((repeat refine AW_seq ?_); (refine wta ?_); simp (disch := omega) only [retQ, resD, oneD, rsv, rs, rsL, rsL_eq_map, List.map_map, bb, bt, zDs, zD, eqCells, simprocAttr, Tryz.results63, ho])
      · cases hw : (decide (0 ≤ b.w) && decide (b.w ≤ 16777216))
        · have ho : validS s = false := validS_b hlt (by rw [hat, hnm, hdw, hw]; rfl)
          rw [hw] at hwt
          (simp (disch := omega) only [bb, bt, zDs, zD, eqCells, simprocAttr, afterC]; refine hKK _ ?_; clear hKK KK)
          ((refine gga1 hwt ?_))
          ((repeat refine AW_seq ?_); (refine wta ?_); simp (disch := omega) only [retQ, resD, oneD, rsv, rs, rsL, rsL_eq_map, List.map_map, bb, bt, zDs, zD, eqCells, simprocAttr, Tryz.results63, ho])
        · rw [hw] at hwt
          have hcon : (bNames (s.bs.take k)).contains b.nm = false := by
            rw [Bool.and_eq_true, Bool.not_eq_true'] at hnm; exact hnm.2
          have hadd : addN (bNames (s.bs.take k)) b.nm = bNames (s.bs.take (k + 1)) := by
            unfold addN; rw [hcon, hst]; simp
          (simp (disch := omega) only [bb, bt, zDs, zD, eqCells, simprocAttr, afterC]; refine hKK _ ?_; clear hKK KK)
          ((refine ggb1 hadd hwt ?_))
          refine ⟨(k + 1, tt + 1), ⟨hlt, fun j hj => ?_⟩, by show s.bs.length - (k + 1) < s.bs.length - k; omega, ?_⟩
          · by_cases e : j = k
            · subst e; rw [hat, hnm, hdw, hw]; rfl
            · exact hin j (by omega)
          simp only [hadd]
          (simp (disch := omega) only [StLe, tmLe, hpLe_refl, hpLe, bl, bb, bt, zDs, zD, eqCells, simprocAttr])
    · have hke : k = s.bs.length := by omega
      subst hke
      rw [List.take_length]
      ((refine ggb0 @Int.lt_irrefl ?_))
      exact ⟨tt, hin, by (simp (disch := omega) only [StLe, tmLe, hpLe_refl, hpLe, bl, bb, bt, zDs, zD, eqCells, simprocAttr])⟩
  rintro t2 hbs
  ((refine ggb0 hdr ?_))
  ((repeat refine AW_seq ?_))
  refine AW_mid (fun x : Nat => ⟨[(7, int (hauls s.rs))], [], x⟩) (fun _ => ∀ j, j < s.rs.length → okR s j = true) ?_ ?_
  · refine AW_block ?_
    refine AW_loop_w (fun x : Nat × Nat => ⟨[(1, .ptr 0 (t + 1) 0), (4, .fn 75 [.ptr 2 (t + 1 + 1 + 1) 0]), (7, int (hauls (s.rs.take x.1))), (44, rps s.rs), (45, int s.rs.length), (46, int x.1)], [some ⟨25, t + 1, [bks s.bs, rps s.rs]⟩, some ⟨106, t + 1 + 1, strs (bNames s.bs ++ rNames (s.rs.take x.1))⟩, some ⟨106, t + 1 + 1 + 1, [.mp 1 (t + 1 + 1)]⟩], x.2⟩) (fun x => s.rs.length - x.1) (fun x => x.1 ≤ s.rs.length ∧ ∀ j, j < x.1 → okR s j = true) (0, t2) ⟨Nat.zero_le _, fun j hj => absurd hj (Nat.not_lt_zero _)⟩ (by (simp (disch := omega) only [StLe, tmLe, hpLe_refl, hpLe, bl, bb, bt, zDs, zD, eqCells, simprocAttr, rNames, List.append_nil, hauls, List.filter_nil])) ?_
    rintro ⟨k, tt⟩ ⟨hk, hin⟩
    simp only at hk hin
    by_cases hlt : k < s.rs.length
    · obtain ⟨r, hr⟩ : ∃ y, s.rs[k]? = some y := ⟨_, List.getElem?_eq_getElem hlt⟩
      have hra := rpC_read s.rs k r hr
      have hat := okR_at hr
      have hst := rNames_step hr
      have hsh := hauls_step hr
      have hhl := hauls_le (s.rs.take k)
      rw [List.length_take] at hhl
      obtain ⟨sr1, sr2⟩ := sr r (List.mem_of_getElem? hr)
      have hrp := rope_prog s r nb sr2
      ((refine ggb0 (F := _∧_) ⟨@Int.ofNat_lt, hlt⟩ ?_))
      ((repeat refine AW_seq ?_))
      refine AW_block ?_
      ((refine ggb0 (F := _∧_) ⟨hlt, hra⟩ ?_))
      ((try with_reducible intro KR hKR); (first | refine awOps_nc fun KK hKK => ?_ | refine awOps_gc rfl fun KK hKK => ?_); simp (disch := omega) only [bb, bt, zDs, zD, eqCells, simprocAttr, goC, callO_fn, argsD, and_self])
      refine add_call (names := bNames s.bs ++ rNames (s.rs.take k)) sr1 rfl rfl ?_
      cases hnm : (isNm r.nm && !(bNames s.bs ++ rNames (s.rs.take k)).contains r.nm)
      · have ho : validS s = false := validS_r hlt (by rw [hat, hnm, Bool.false_and])
        (simp (disch := omega) only [bb, bt, zDs, zD, eqCells, simprocAttr, afterC]; refine hKK _ ?_; clear hKK KK)
        ((refine gga0 ?_))
        ((repeat refine AW_seq ?_); (refine wta ?_); simp (disch := omega) only [retQ, resD, oneD, rsv, rs, rsL, rsL_eq_map, List.map_map, bb, bt, zDs, zD, eqCells, simprocAttr, Tryz.results63, ho])
      · cases hw : okRope s.bs r
        · have ho : validS s = false := validS_r hlt (by rw [hat, hnm, hw]; rfl)
          rw [hw] at hrp
          (simp (disch := omega) only [bb, bt, zDs, zD, eqCells, simprocAttr, afterC]; refine hKK _ ?_; clear hKK KK)
          ((refine gga1 hrp ?_))
          ((repeat refine AW_seq ?_); (refine wta ?_); simp (disch := omega) only [retQ, resD, oneD, rsv, rs, rsL, rsL_eq_map, List.map_map, bb, bt, zDs, zD, eqCells, simprocAttr, Tryz.results63, ho])
        · rw [hw] at hrp
          have hcon : (bNames s.bs ++ rNames (s.rs.take k)).contains r.nm = false := by
            rw [Bool.and_eq_true, Bool.not_eq_true'] at hnm; exact hnm.2
          have hadd : addN (bNames s.bs ++ rNames (s.rs.take k)) r.nm = bNames s.bs ++ rNames (s.rs.take (k + 1)) := by
            unfold addN; rw [hcon, hst]; simp
          (simp (disch := omega) only [bb, bt, zDs, zD, eqCells, simprocAttr, afterC]; refine hKK _ ?_; clear hKK KK)
          ((refine ggb1 hadd hrp ?_))
          cases hh : r.hl
          · rw [hh] at hsh
            simp only [Bool.false_eq_true, if_false, Nat.add_zero] at hsh
            ((refine gga0 ?_))
            refine ⟨(k + 1, tt + 1), ⟨hlt, fun j hj => ?_⟩, by show s.rs.length - (k + 1) < s.rs.length - k; omega, ?_⟩
            · by_cases e : j = k
              · subst e; rw [hat, hnm, hw]; rfl
              · exact hin j (by omega)
            simp only [hadd, hsh]
            (simp (disch := omega) only [StLe, tmLe, hpLe_refl, hpLe, bl, bb, bt, zDs, zD, eqCells, simprocAttr])
          · rw [hh] at hsh
            simp only [if_true] at hsh
            ((refine gga0 ?_))
            refine ⟨(k + 1, tt + 1), ⟨hlt, fun j hj => ?_⟩, by show s.rs.length - (k + 1) < s.rs.length - k; omega, ?_⟩
            · by_cases e : j = k
              · subst e; rw [hat, hnm, hw]; rfl
              · exact hin j (by omega)
            simp only [hadd, hsh]
            (simp (disch := omega) only [StLe, tmLe, hpLe_refl, hpLe, bl, bb, bt, zDs, zD, eqCells, simprocAttr])
    · have hke : k = s.rs.length := by omega
      subst hke
      rw [List.take_length]
      ((refine ggb0 @Int.lt_irrefl ?_))
      exact ⟨tt, hin, by (simp (disch := omega) only [StLe, tmLe, hpLe_refl, hpLe, bl, bb, bt, zDs, zD, eqCells, simprocAttr])⟩
  rintro t3 hrs
  have ho := validS_end hsz hbs hrs
  have he : decide ((hauls s.rs : Int) ≤ 1) = decide (hauls s.rs ≤ 1) := by rw [decide_eq_decide]; omega
  ((refine ggb0 he ?_))
  ((repeat refine AW_seq ?_); (refine wta ?_); simp (disch := omega) only [retQ, resD, oneD, rsv, rs, rsL, rsL_eq_map, List.map_map, bb, bt, zDs, zD, eqCells, simprocAttr, Tryz.results63, ho])
end Go.Proofs.YtcppnmohgaobdaaGreat.T
end

