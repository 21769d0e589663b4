import Derived.Test.YthabldkbiedfmaaSC
import Derived.Test.YthabldkbiedfmaaWJ
import Derived.Test.YthabldkbiedfmaaWK
set_option linter.all false
namespace Go.Proofs.Ythabldkbiedfmaa.T
open Go Go.RowKit Lin
set_option linter.unusedSimpArgs false

/-! Holds and ropes: the walks. -/
theorem within_ (n lo hi : Int) : PRet Try.prog 172 [int n, int lo, int hi] (bool (decide (lo ≤ n) && decide (n ≤ hi))) := by
  refine PRet.intro 1 fun t => ACall.enter tab_ok Try.func172 rfl rfl Try.ntmps172 (by simp) ?_
  simp only [enterTM]
  by_cases h1 : lo ≤ n <;> by_cases h2 : n ≤ hi <;>
  · ((refine ggb0 (F := _∧_) ⟨h1, h2⟩ ?_))
    ((repeat refine AW_seq ?_); (refine wta ?_); simp (disch := omega) only [retQ, resD, oneD, rsv, rs, rsL, rsL_eq_map, List.map_map, bb, bt, zDs, zD, eqCells, simprocAttr, Try.results172, h1, h2])
theorem lossy_prog (n d : Int) : PRet Try.prog 239 [frD (n, d)] (bool (lossy n d)) := by
  refine PRet.intro 1 fun t => ACall.enter tab_ok Try.func239 rfl rfl Try.ntmps239 (by simp) ?_
  simp only [enterTM]
  have hc := rValid n d
  cases hv : vfrac n d
  · rw [hv] at hc
    ((refine gga1 hc ?_))
    ((repeat refine AW_seq ?_); (refine wta ?_); simp (disch := omega) only [retQ, resD, oneD, rsv, rs, rsL, rsL_eq_map, List.map_map, bb, bt, zDs, zD, eqCells, simprocAttr, Try.results239, lossy, hv])
  · rw [hv] at hc
    by_cases h1 : d ≤ n <;> by_cases h2 : n ≤ 100 <;>
    · ((refine ggb1 (F := _∧_) ⟨h1, h2⟩ hc ?_))
      ((repeat refine AW_seq ?_); (refine wta ?_); simp (disch := omega) only [retQ, resD, oneD, rsv, rs, rsL, rsL_eq_map, List.map_map, bb, bt, zDs, zD, eqCells, simprocAttr, Try.results239, lossy, hv, h1, h2])
theorem lossy_ref (n d : Int) : PRet Try.prog 194 [frD (n, d)] (bool (lossy n d)) := by
  refine PRet.intro 1 fun t => ACall.enter tab_ok Try.func194 rfl rfl Try.ntmps194 (by simp) ?_
  simp only [enterTM]
  have hc := refFValid n d
  cases hv : vfrac n d
  · rw [hv] at hc
    ((refine gga1 hc ?_))
    ((repeat refine AW_seq ?_); (refine wta ?_); simp (disch := omega) only [retQ, resD, oneD, rsv, rs, rsL, rsL_eq_map, List.map_map, bb, bt, zDs, zD, eqCells, simprocAttr, Try.results194, lossy, hv])
  · rw [hv] at hc
    by_cases h1 : d ≤ n <;> by_cases h2 : n ≤ 100 <;>
    · ((refine ggb1 (F := _∧_) ⟨h1, h2⟩ hc ?_))
      ((repeat refine AW_seq ?_); (refine wta ?_); simp (disch := omega) only [retQ, resD, oneD, rsv, rs, rsL, rsL_eq_map, List.map_map, bb, bt, zDs, zD, eqCells, simprocAttr, Try.results194, lossy, hv, h1, h2])
set_option maxHeartbeats 2000000 in
theorem hold_prog (s : Sy) (h : Hd) (e : Bool) (hl : s.bs.length ≤ 1000000) : PRet Try.prog 226 [syD s, .agg (hd1 h), bool e] (bool (okHold s.bs h e)) := by
  refine PRet.intro 1 fun t => ACall.enter tab_ok Try.func226 rfl rfl Try.ntmps226 (by simp) ?_
  simp only [enterTM]
  have hF := find_ s h.b hl
  have hL := lossy_prog h.n h.d
  cases e
  · cases hlo : lossy h.n h.d
    · rw [hlo] at hL
      have ho : okHold s.bs h false = false := by simp [okHold, hlo]
      ((refine gga1 hL ?_))
      ((repeat refine AW_seq ?_); (refine wta ?_); simp (disch := omega) only [retQ, resD, oneD, rsv, rs, rsL, rsL_eq_map, List.map_map, bb, bt, zDs, zD, eqCells, simprocAttr, Try.results226, ho])
    rw [hlo] at hL
    by_cases hb : h.b = ⟨#[]⟩
    · have ho : okHold s.bs h false = (h.p == 0) := by simp [okHold, hlo, hb]
      ((refine ggb1 hb hL ?_))
      ((repeat refine AW_seq ?_))
      refine AW_block ?_
      ((refine ggb0 hb ?_))
      ((repeat refine AW_seq ?_); (refine wta ?_); simp (disch := omega) only [retQ, resD, oneD, rsv, rs, rsL, rsL_eq_map, List.map_map, bb, bt, zDs, zD, eqCells, simprocAttr, Try.results226, ho])
    by_cases hf : findB s.bs h.b < 0
    · have hf' : ¬ 0 ≤ findB s.bs h.b := by omega
      have ho : okHold s.bs h false = false := by simp [okHold, hb, hf']
      ((refine ggb1 hb hL ?_))
      ((repeat refine AW_seq ?_))
      refine AW_block ?_
      ((refine ggb1 (F := _∧_) ⟨hb, hf⟩ hF ?_))
      ((repeat refine AW_seq ?_); (refine wta ?_); simp (disch := omega) only [retQ, resD, oneD, rsv, rs, rsL, rsL_eq_map, List.map_map, bb, bt, zDs, zD, eqCells, simprocAttr, Try.results226, ho])
    have hf' : 0 ≤ findB s.bs h.b := by omega
    have ho : okHold s.bs h false = (h.p == 2 || h.p == 0 || h.p == -2) := by simp [okHold, hb, hf', hlo]
    ((refine ggb1 hb hL ?_))
    ((repeat refine AW_seq ?_))
    refine AW_block ?_
    ((refine ggb1 (F := _∧_) ⟨hb, hf⟩ hF ?_))
    cases h1 : (h.p == 2) <;> cases h2 : (h.p == 0) <;>
    · ((refine ggb0 (F := _∧_) ⟨h1, h2⟩ ?_))
      ((repeat refine AW_seq ?_); (refine wta ?_); simp (disch := omega) only [retQ, resD, oneD, rsv, rs, rsL, rsL_eq_map, List.map_map, bb, bt, zDs, zD, eqCells, simprocAttr, Try.results226, ho, h1, h2, Bool.or_self, Bool.or_false, Bool.false_or, Bool.true_or, Bool.or_true])
  · cases hn : (h.n == 1) <;> cases hd : (h.d == 1)
    rotate_left 3
    · by_cases hb : h.b = ⟨#[]⟩
      · have ho : okHold s.bs h true = (h.p == 0) := by simp [okHold, hn, hd, hb]
        ((refine ggb0 (F := _∧_) ⟨hn, hd⟩ ?_))
        ((repeat refine AW_seq ?_))
        refine AW_block ?_
        ((refine ggb0 hb ?_))
        ((repeat refine AW_seq ?_); (refine wta ?_); simp (disch := omega) only [retQ, resD, oneD, rsv, rs, rsL, rsL_eq_map, List.map_map, bb, bt, zDs, zD, eqCells, simprocAttr, Try.results226, ho])
      by_cases hf : findB s.bs h.b < 0
      · have hf' : ¬ 0 ≤ findB s.bs h.b := by omega
        have ho : okHold s.bs h true = false := by simp [okHold, hb, hf']
        ((refine ggb0 (F := _∧_) ⟨hn, hd⟩ ?_))
        ((repeat refine AW_seq ?_))
        refine AW_block ?_
        ((refine ggb1 (F := _∧_) ⟨hb, hf⟩ hF ?_))
        ((repeat refine AW_seq ?_); (refine wta ?_); simp (disch := omega) only [retQ, resD, oneD, rsv, rs, rsL, rsL_eq_map, List.map_map, bb, bt, zDs, zD, eqCells, simprocAttr, Try.results226, ho])
      have hf' : 0 ≤ findB s.bs h.b := by omega
      have ho : okHold s.bs h true = (h.p == 1 || h.p == -1) := by simp [okHold, hb, hf', hn, hd]
      ((refine ggb0 (F := _∧_) ⟨hn, hd⟩ ?_))
      ((repeat refine AW_seq ?_))
      refine AW_block ?_
      ((refine ggb1 (F := _∧_) ⟨hb, hf⟩ hF ?_))
      cases h1 : (h.p == 1) <;>
      · ((refine ggb0 h1 ?_))
        ((repeat refine AW_seq ?_); (refine wta ?_); simp (disch := omega) only [retQ, resD, oneD, rsv, rs, rsL, rsL_eq_map, List.map_map, bb, bt, zDs, zD, eqCells, simprocAttr, Try.results226, ho, h1, Bool.or_self, Bool.or_false, Bool.false_or, Bool.true_or, Bool.or_true])
    all_goals
      have ho : okHold s.bs h true = false := by simp [okHold, hn, hd]
      ((refine ggb0 (F := _∧_) ⟨hn, hd⟩ ?_))
      ((repeat refine AW_seq ?_); (refine wta ?_); simp (disch := omega) only [retQ, resD, oneD, rsv, rs, rsL, rsL_eq_map, List.map_map, bb, bt, zDs, zD, eqCells, simprocAttr, Try.results226, ho])
set_option maxHeartbeats 2000000 in
theorem hold_ref (s : Sy) (h : Hd) (e : Bool) (hl : s.bs.length ≤ 1000000) : PRet Try.prog 212 [syD s, .agg (hd1 h), bool e] (bool (okHold s.bs h e)) := by
  refine PRet.intro 1 fun t => ACall.enter tab_ok Try.func212 rfl rfl Try.ntmps212 (by simp) ?_
  simp only [enterTM]
  have hF := refFindBlock s h.b hl
  have hL := lossy_ref h.n h.d
  have hO := refOf 1
  cases e
  · cases hlo : lossy h.n h.d
    · rw [hlo] at hL
      have ho : okHold s.bs h false = false := by simp [okHold, hlo]
      ((refine gga0 ?_))
      ((repeat refine AW_seq ?_); (refine gdza2 hL hO ?_))
      ((refine gga0 ?_))
      ((repeat refine AW_seq ?_); (refine wta ?_); simp (disch := omega) only [retQ, resD, oneD, rsv, rs, rsL, rsL_eq_map, List.map_map, bb, bt, zDs, zD, eqCells, simprocAttr, Try.results212, ho])
    rw [hlo] at hL
    ((refine gga0 ?_))
    ((repeat refine AW_seq ?_); (refine gdza2 hL hO ?_))
    by_cases hb : h.b = ⟨#[]⟩
    · have ho : okHold s.bs h false = (h.p == 0) := by simp [okHold, hlo, hb]
      ((refine ggb0 hb ?_))
      ((repeat refine AW_seq ?_); (refine wta ?_); simp (disch := omega) only [retQ, resD, oneD, rsv, rs, rsL, rsL_eq_map, List.map_map, bb, bt, zDs, zD, eqCells, simprocAttr, Try.results212, ho])
    by_cases hf : findB s.bs h.b < 0
    · have hf' : ¬ 0 ≤ findB s.bs h.b := by omega
      have ho : okHold s.bs h false = false := by simp [okHold, hb, hf']
      ((refine ggb1 (F := _∧_) ⟨hb, hf⟩ hF ?_))
      ((repeat refine AW_seq ?_); (refine wta ?_); simp (disch := omega) only [retQ, resD, oneD, rsv, rs, rsL, rsL_eq_map, List.map_map, bb, bt, zDs, zD, eqCells, simprocAttr, Try.results212, ho])
    have hf' : 0 ≤ findB s.bs h.b := by omega
    have ho : okHold s.bs h false = (h.p == 2 || h.p == 0 || h.p == -2) := by simp [okHold, hb, hf', hlo]
    ((refine ggb1 (F := _∧_) ⟨hb, hf⟩ hF ?_))
    cases h1 : (h.p == 2) <;> cases h2 : (h.p == 0) <;>
    · ((refine ggb0 (F := _∧_) ⟨h1, h2⟩ ?_))
      ((repeat refine AW_seq ?_); (refine wta ?_); simp (disch := omega) only [retQ, resD, oneD, rsv, rs, rsL, rsL_eq_map, List.map_map, bb, bt, zDs, zD, eqCells, simprocAttr, Try.results212, ho, h1, h2, Bool.or_self, Bool.or_false, Bool.false_or, Bool.true_or, Bool.or_true])
  · cases hn : (h.n == 1) <;> cases hd : (h.d == 1)
    rotate_left 3
    · have hlo : lossy h.n h.d = true := by
        rw [show h.n = 1 by simpa using hn, show h.d = 1 by simpa using hd]; decide
      rw [hlo] at hL
      ((refine gga0 ?_))
      ((repeat refine AW_seq ?_); (refine gdzb2 (F := _∧_) ⟨hn, hd⟩ hL hO ?_))
      by_cases hb : h.b = ⟨#[]⟩
      · have ho : okHold s.bs h true = (h.p == 0) := by simp [okHold, hn, hd, hb]
        ((refine ggb0 hb ?_))
        ((repeat refine AW_seq ?_); (refine wta ?_); simp (disch := omega) only [retQ, resD, oneD, rsv, rs, rsL, rsL_eq_map, List.map_map, bb, bt, zDs, zD, eqCells, simprocAttr, Try.results212, ho])
      by_cases hf : findB s.bs h.b < 0
      · have hf' : ¬ 0 ≤ findB s.bs h.b := by omega
        have ho : okHold s.bs h true = false := by simp [okHold, hb, hf']
        ((refine ggb1 (F := _∧_) ⟨hb, hf⟩ hF ?_))
        ((repeat refine AW_seq ?_); (refine wta ?_); simp (disch := omega) only [retQ, resD, oneD, rsv, rs, rsL, rsL_eq_map, List.map_map, bb, bt, zDs, zD, eqCells, simprocAttr, Try.results212, ho])
      have hf' : 0 ≤ findB s.bs h.b := by omega
      have ho : okHold s.bs h true = (h.p == 1 || h.p == -1) := by simp [okHold, hb, hf', hn, hd]
      ((refine ggb1 (F := _∧_) ⟨hb, hf⟩ hF ?_))
      cases h1 : (h.p == 1) <;>
      · ((refine ggb0 h1 ?_))
        ((repeat refine AW_seq ?_); (refine wta ?_); simp (disch := omega) only [retQ, resD, oneD, rsv, rs, rsL, rsL_eq_map, List.map_map, bb, bt, zDs, zD, eqCells, simprocAttr, Try.results212, ho, h1, Bool.or_self, Bool.or_false, Bool.false_or, Bool.true_or, Bool.or_true])
    all_goals
      have ho : okHold s.bs h true = false := by simp [okHold, hn, hd]
      ((refine gga0 ?_))
      ((repeat refine AW_seq ?_); (refine gdzb2 (F := _∧_) ⟨hn, hd⟩ hL hO ?_))
      ((refine gga0 ?_))
      ((repeat refine AW_seq ?_); (refine wta ?_); simp (disch := omega) only [retQ, resD, oneD, rsv, rs, rsL, rsL_eq_map, List.map_map, bb, bt, zDs, zD, eqCells, simprocAttr, Try.results212, ho])
theorem okHolds_all {bs : List Bk} {hs : List Hd} (h : ∀ j x, hs[j]? = some x → okHold bs x (endH hs.length j) = true) : okHolds bs hs = true := by
  refine upto_all fun k hk => ?_
  rw [List.getElem?_eq_getElem hk]
  exact h k _ (List.getElem?_eq_getElem hk)
theorem okHolds_not {bs : List Bk} {hs : List Hd} {j : Nat} {x : Hd} (hj : hs[j]? = some x) (h : okHold bs x (endH hs.length j) = false) : okHolds bs hs = false := by
  refine upto_not (k := j) (List.getElem?_eq_some_iff.1 hj).1 ?_
  rw [hj]; exact h
set_option maxHeartbeats 2000000 in
theorem rope_prog (s : Sy) (r : Rp) (hl : s.bs.length ≤ 1000000) (hr : r.hs.length ≤ 1000000) : PRet Try.prog 175 [syD s, .agg (rp1 r)] (bool (okRope s.bs r)) := by
  refine PRet.intro 1 fun t => ACall.enter tab_ok Try.func175 rfl rfl Try.ntmps175 (by simp) ?_
  simp only [enterTM]
  have hla := hdC_len r.hs
  have ha2 := hdC_div r.hs
  have hW := within_ r.hs.length 2 10
  by_cases hsz : 2 ≤ r.hs.length ∧ r.hs.length ≤ 10
  rotate_left 1
  · have ho : okRope s.bs r = false := by simp only [okRope, hsz, decide_false, Bool.false_and]
    have hw : (decide ((2 : Int) ≤ r.hs.length) && decide ((r.hs.length : Int) ≤ 10)) = false := by
      rw [← Bool.not_eq_true, Bool.and_eq_true, decide_eq_true_eq, decide_eq_true_eq]; omega
    rw [hw] at hW
    ((refine ggb1 ha2 hW ?_))
    ((repeat refine AW_seq ?_); (refine wta ?_); simp (disch := omega) only [retQ, resD, oneD, rsv, rs, rsL, rsL_eq_map, List.map_map, bb, bt, zDs, zD, eqCells, simprocAttr, Try.results175, ho])
  have hw : (decide ((2 : Int) ≤ r.hs.length) && decide ((r.hs.length : Int) ≤ 10)) = true := by
    rw [Bool.and_eq_true, decide_eq_true_eq, decide_eq_true_eq]; omega
  rw [hw] at hW
  ((refine ggb1 ha2 hW ?_))
  ((repeat refine AW_seq ?_))
  refine AW_block ?_
  refine AW_loop_w (fun x : Nat × Nat => ⟨[(2, .ptr 0 (t + 1) 0), (3, .ptr 1 (t + 1 + 1) 0), (5, int r.hs.length), (15, hds r.hs), (16, int r.hs.length), (17, int x.1)], [some ⟨25, t + 1, [bks s.bs, rps s.rs]⟩, some ⟨49, t + 1 + 1, rp1 r⟩], x.2⟩) (fun x => r.hs.length - x.1) (fun x => x.1 ≤ r.hs.length ∧ ∀ j h, j < x.1 → r.hs[j]? = some h → okHold s.bs h (endH r.hs.length j) = true) (0, t + 1 + 1) ⟨Nat.zero_le _, fun j h hj => absurd hj (Nat.not_lt_zero _)⟩ (by (simp (disch := omega) only [StLe, tmLe, hpLe_refl, hpLe, bl, bb, bt, zDs, zD, eqCells, simprocAttr])) ?_
  rintro ⟨k, tt⟩ ⟨hk, hin⟩
  simp only at hk hin
  by_cases hlt : k < r.hs.length
  · obtain ⟨h, hh⟩ : ∃ h, r.hs[k]? = some h := ⟨_, List.getElem?_eq_getElem hlt⟩
    have hra := hdC_read r.hs k h hh
    have hH := hold_prog s h (endH r.hs.length k) hl
    ((refine ggb0 (F := _∧_) ⟨@Int.ofNat_lt, hlt⟩ ?_))
    ((repeat refine AW_seq ?_))
    refine AW_block ?_
    have e0 : ((k : Int) == 0) = (k == 0) := by rw [Bool.eq_iff_iff]; simp
    have e1 : ((k : Int) == (r.hs.length : Int) - 1) = (k + 1 == r.hs.length) := by rw [Bool.eq_iff_iff, beq_iff_eq, beq_iff_eq]; omega
    have hend : endH r.hs.length k = (k == 0 || k + 1 == r.hs.length) := rfl
    cases hok : okHold s.bs h (endH r.hs.length k)
    · have ho : okRope s.bs r = false := by simp only [okRope, okHolds_not hh hok, Bool.and_false, Bool.false_and]
      rw [hok] at hH
      cases h0 : (k == 0) <;> cases h1 : (k + 1 == r.hs.length) <;>
      · rw [hend, h0, h1] at hH
        simp only [Bool.or_self, Bool.or_true, Bool.true_or] at hH
        ((refine ggb1 (F := _∧_∧_∧_∧_∧_) ⟨hlt, hra, e0, e1, h0, h1⟩ hH ?_))
        ((repeat refine AW_seq ?_); (refine wta ?_); simp (disch := omega) only [retQ, resD, oneD, rsv, rs, rsL, rsL_eq_map, List.map_map, bb, bt, zDs, zD, eqCells, simprocAttr, Try.results175, ho])
    · rw [hok] at hH
      cases h0 : (k == 0) <;> cases h1 : (k + 1 == r.hs.length) <;>
      · rw [hend, h0, h1] at hH
        simp only [Bool.or_self, Bool.or_true, Bool.true_or] at hH
        ((refine ggb1 (F := _∧_∧_∧_∧_∧_) ⟨hlt, hra, e0, e1, h0, h1⟩ hH ?_))
        refine ⟨(k + 1, tt + 1), ⟨hlt, fun j x hj hx => ?_⟩, by show r.hs.length - (k + 1) < r.hs.length - k; omega, ?_⟩
        · by_cases e : j = k
          · subst e; rw [hh] at hx; cases hx; exact hok
          · exact hin j x (by omega) hx
        (simp (disch := omega) only [StLe, tmLe, hpLe_refl, hpLe, bl, bb, bt, zDs, zD, eqCells, simprocAttr])
  · have hke : k = r.hs.length := by omega
    subst hke
    have hall : okHolds s.bs r.hs = true := okHolds_all fun j x hx => hin j x (List.getElem?_eq_some_iff.1 hx).1 hx
    obtain ⟨m, hm⟩ : ∃ m, r.hs.length = m + 1 := ⟨r.hs.length - 1, by omega⟩
    obtain ⟨h, hh⟩ : ∃ h, r.hs[m]? = some h := ⟨_, List.getElem?_eq_getElem (by omega)⟩
    have hlast : r.hs.getLast? = some h := by rw [List.getLast?_eq_getElem?, show r.hs.length - 1 = m by omega]; exact hh
    have ho : okRope s.bs r = (!r.hl || decide (h.b = ⟨#[]⟩)) := by
      simp only [okRope, hall, hsz, hlast, and_self, decide_true, Bool.true_and]
    have em : (r.hs.length : Int) - 1 = (m : Int) := by omega
    have hnm := hdC_name r.hs m h hh
    have hmlt : m < r.hs.length := by omega
    cases hhl : r.hl
    · rw [hhl] at ho
      ((refine ggb0 (F := _∧_) ⟨@Int.lt_irrefl, hhl⟩ ?_))
      ((repeat refine AW_seq ?_); (refine wta ?_); simp (disch := omega) only [retQ, resD, oneD, rsv, rs, rsL, rsL_eq_map, List.map_map, bb, bt, zDs, zD, eqCells, simprocAttr, Try.results175, ho, Bool.true_or])
    · rw [hhl] at ho
      ((refine ggb0 (F := _∧_∧_∧_∧_) ⟨@Int.lt_irrefl, hhl, em, hmlt, hnm⟩ ?_))
      ((repeat refine AW_seq ?_); (refine wta ?_); simp (disch := omega) only [retQ, resD, oneD, rsv, rs, rsL, rsL_eq_map, List.map_map, bb, bt, zDs, zD, eqCells, simprocAttr, Try.results175, ho, Bool.false_or])
end Go.Proofs.Ythabldkbiedfmaa.T
