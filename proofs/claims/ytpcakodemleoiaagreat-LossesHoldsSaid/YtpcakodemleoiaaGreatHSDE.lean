import Derived.Test.YtpcakodemleoiaaGreatHSBC
import Derived.Test.YtpcakodemleoiaaGreatHWJK
set_option linter.all false
section
namespace Go.Proofs.YtpcakodemleoiaaGreat.T
open Go Go.RowKit Lin
theorem Ya3 (n lo hi : Int) : PRet Tryz.prog 125 [int n, int lo, int hi] (bool (decide (lo ≤ n) && decide (n ≤ hi))) := by
  refine PRet.intro 1 fun t => ACall.enter tab_ok Tryz.func125 rfl rfl Tryz.ntmps125 (by simp) ?_
  simp only [Y06]
  by_cases h1 : lo ≤ n <;> by_cases h2 : n ≤ hi <;>
  · ((refine ggb0 (F := _∧_) ⟨h1, h2⟩ ?_))
    ((repeat refine Y01 ?_); (refine wta ?_); simp (disch := omega) only [retQ, resD, oneD, rsv, rs, rsL, Y02, List.map_map, bb, bt, zDs, zD, Y00, simprocAttr, Tryz.results125, h1, h2])
theorem lossy_prog (n d : Int) : PRet Tryz.prog 152 [frD (n, d)] (bool (lossy n d)) := by
  refine PRet.intro 1 fun t => ACall.enter tab_ok Tryz.func152 rfl rfl Tryz.ntmps152 (by simp) ?_
  simp only [Y06]
  have hc := Y3y n d
  cases hv : vfrac n d
  · rw [hv] at hc
    ((refine gga1 hc ?_))
    ((repeat refine Y01 ?_); (refine wta ?_); simp (disch := omega) only [retQ, resD, oneD, rsv, rs, rsL, Y02, List.map_map, bb, bt, zDs, zD, Y00, simprocAttr, Tryz.results152, lossy, hv])
  · rw [hv] at hc
    by_cases h1 : d ≤ n <;> by_cases h2 : n ≤ 100 <;>
    · ((refine ggb1 (F := _∧_) ⟨h1, h2⟩ hc ?_))
      ((repeat refine Y01 ?_); (refine wta ?_); simp (disch := omega) only [retQ, resD, oneD, rsv, rs, rsL, Y02, List.map_map, bb, bt, zDs, zD, Y00, simprocAttr, Tryz.results152, lossy, hv, h1, h2])
theorem lossy_ref (n d : Int) : PRet Tryz.prog 30 [frD (n, d)] (bool (lossy n d)) := by
  refine PRet.intro 1 fun t => ACall.enter tab_ok Tryz.func30 rfl rfl Tryz.ntmps30 (by simp) ?_
  simp only [Y06]
  have hc := Ybm n d
  cases hv : vfrac n d
  · rw [hv] at hc
    ((refine gga1 hc ?_))
    ((repeat refine Y01 ?_); (refine wta ?_); simp (disch := omega) only [retQ, resD, oneD, rsv, rs, rsL, Y02, List.map_map, bb, bt, zDs, zD, Y00, simprocAttr, Tryz.results30, lossy, hv])
  · rw [hv] at hc
    by_cases h1 : d ≤ n <;> by_cases h2 : n ≤ 100 <;>
    · ((refine ggb1 (F := _∧_) ⟨h1, h2⟩ hc ?_))
      ((repeat refine Y01 ?_); (refine wta ?_); simp (disch := omega) only [retQ, resD, oneD, rsv, rs, rsL, Y02, List.map_map, bb, bt, zDs, zD, Y00, simprocAttr, Tryz.results30, lossy, hv, h1, h2])
set_option maxHeartbeats 2000000 in
theorem hold_prog (s : Sy) (h : Hd) (e : Bool) (hl : s.bs.length ≤ 1000000) : PRet Tryz.prog 143 [syD s, .agg (hd1 h), bool e] (bool (Y0l s.bs h e)) := by
  refine PRet.intro 1 fun t => ACall.enter tab_ok Tryz.func143 rfl rfl Tryz.ntmps143 (by simp) ?_
  simp only [Y06]
  have hF := find_ s h.b hl
  have hL := lossy_prog h.n h.d
  cases e
  · cases hlo : lossy h.n h.d
    · rw [hlo] at hL
      have ho : Y0l s.bs h false = false := by simp [Y0l, hlo]
      ((refine gga1 hL ?_))
      ((repeat refine Y01 ?_); (refine wta ?_); simp (disch := omega) only [retQ, resD, oneD, rsv, rs, rsL, Y02, List.map_map, bb, bt, zDs, zD, Y00, simprocAttr, Tryz.results143, ho])
    rw [hlo] at hL
    by_cases hb : h.b = ⟨#[]⟩
    · have ho : Y0l s.bs h false = (h.p == 0) := by simp [Y0l, hlo, hb]
      ((refine ggb1 hb hL ?_))
      ((repeat refine Y01 ?_))
      refine Y04 ?_
      ((refine ggb0 hb ?_))
      ((repeat refine Y01 ?_); (refine wta ?_); simp (disch := omega) only [retQ, resD, oneD, rsv, rs, rsL, Y02, List.map_map, bb, bt, zDs, zD, Y00, simprocAttr, Tryz.results143, ho])
    by_cases hf : findB s.bs h.b < 0
    · have hf' : ¬ 0 ≤ findB s.bs h.b := by omega
      have ho : Y0l s.bs h false = false := by simp [Y0l, hb, hf']
      ((refine ggb1 hb hL ?_))
      ((repeat refine Y01 ?_))
      refine Y04 ?_
      ((refine ggb1 (F := _∧_) ⟨hb, hf⟩ hF ?_))
      ((repeat refine Y01 ?_); (refine wta ?_); simp (disch := omega) only [retQ, resD, oneD, rsv, rs, rsL, Y02, List.map_map, bb, bt, zDs, zD, Y00, simprocAttr, Tryz.results143, ho])
    have hf' : 0 ≤ findB s.bs h.b := by omega
    have ho : Y0l s.bs h false = (h.p == 2 || h.p == 0 || h.p == -2) := by simp [Y0l, hb, hf', hlo]
    ((refine ggb1 hb hL ?_))
    ((repeat refine Y01 ?_))
    refine Y04 ?_
    ((refine ggb1 (F := _∧_) ⟨hb, hf⟩ hF ?_))
    cases h1 : (h.p == 2) <;> cases h2 : (h.p == 0) <;>
    · ((refine ggb0 (F := _∧_) ⟨h1, h2⟩ ?_))
      ((repeat refine Y01 ?_); (refine wta ?_); simp (disch := omega) only [retQ, resD, oneD, rsv, rs, rsL, Y02, List.map_map, bb, bt, zDs, zD, Y00, simprocAttr, Tryz.results143, ho, h1, h2, Bool.or_self, Bool.or_false, Bool.false_or, Bool.true_or, Bool.or_true])
  · cases hn : (h.n == 1) <;> cases hd : (h.d == 1)
    rotate_left 3
    · by_cases hb : h.b = ⟨#[]⟩
      · have ho : Y0l s.bs h true = (h.p == 0) := by simp [Y0l, hn, hd, hb]
        ((refine ggb0 (F := _∧_) ⟨hn, hd⟩ ?_))
        ((repeat refine Y01 ?_))
        refine Y04 ?_
        ((refine ggb0 hb ?_))
        ((repeat refine Y01 ?_); (refine wta ?_); simp (disch := omega) only [retQ, resD, oneD, rsv, rs, rsL, Y02, List.map_map, bb, bt, zDs, zD, Y00, simprocAttr, Tryz.results143, ho])
      by_cases hf : findB s.bs h.b < 0
      · have hf' : ¬ 0 ≤ findB s.bs h.b := by omega
        have ho : Y0l s.bs h true = false := by simp [Y0l, hb, hf']
        ((refine ggb0 (F := _∧_) ⟨hn, hd⟩ ?_))
        ((repeat refine Y01 ?_))
        refine Y04 ?_
        ((refine ggb1 (F := _∧_) ⟨hb, hf⟩ hF ?_))
        ((repeat refine Y01 ?_); (refine wta ?_); simp (disch := omega) only [retQ, resD, oneD, rsv, rs, rsL, Y02, List.map_map, bb, bt, zDs, zD, Y00, simprocAttr, Tryz.results143, ho])
      have hf' : 0 ≤ findB s.bs h.b := by omega
      have ho : Y0l s.bs h true = (h.p == 1 || h.p == -1) := by simp [Y0l, hb, hf', hn, hd]
      ((refine ggb0 (F := _∧_) ⟨hn, hd⟩ ?_))
      ((repeat refine Y01 ?_))
      refine Y04 ?_
      ((refine ggb1 (F := _∧_) ⟨hb, hf⟩ hF ?_))
      cases h1 : (h.p == 1) <;>
      · ((refine ggb0 h1 ?_))
        ((repeat refine Y01 ?_); (refine wta ?_); simp (disch := omega) only [retQ, resD, oneD, rsv, rs, rsL, Y02, List.map_map, bb, bt, zDs, zD, Y00, simprocAttr, Tryz.results143, ho, h1, Bool.or_self, Bool.or_false, Bool.false_or, Bool.true_or, Bool.or_true])
    all_goals
      have ho : Y0l s.bs h true = false := by simp [Y0l, hn, hd]
      ((refine ggb0 (F := _∧_) ⟨hn, hd⟩ ?_))
      ((repeat refine Y01 ?_); (refine wta ?_); simp (disch := omega) only [retQ, resD, oneD, rsv, rs, rsL, Y02, List.map_map, bb, bt, zDs, zD, Y00, simprocAttr, Tryz.results143, ho])
set_option maxHeartbeats 2000000 in
theorem hold_ref (s : Sy) (h : Hd) (e : Bool) (hl : s.bs.length ≤ 1000000) : PRet Tryz.prog 104 [syD s, .agg (hd1 h), bool e] (bool (Y0l s.bs h e)) := by
  refine PRet.intro 1 fun t => ACall.enter tab_ok Tryz.func104 rfl rfl Tryz.ntmps104 (by simp) ?_
  simp only [Y06]
  have hF := Y3x s h.b hl
  have hL := lossy_ref h.n h.d
  have hO := refOf 1
  cases e
  · cases hlo : lossy h.n h.d
    · rw [hlo] at hL
      have ho : Y0l s.bs h false = false := by simp [Y0l, hlo]
      ((refine gga0 ?_))
      ((repeat refine Y01 ?_); (refine gdza2 hL hO ?_))
      ((refine gga0 ?_))
      ((repeat refine Y01 ?_); (refine wta ?_); simp (disch := omega) only [retQ, resD, oneD, rsv, rs, rsL, Y02, List.map_map, bb, bt, zDs, zD, Y00, simprocAttr, Tryz.results104, ho])
    rw [hlo] at hL
    ((refine gga0 ?_))
    ((repeat refine Y01 ?_); (refine gdza2 hL hO ?_))
    by_cases hb : h.b = ⟨#[]⟩
    · have ho : Y0l s.bs h false = (h.p == 0) := by simp [Y0l, hlo, hb]
      ((refine ggb0 hb ?_))
      ((repeat refine Y01 ?_); (refine wta ?_); simp (disch := omega) only [retQ, resD, oneD, rsv, rs, rsL, Y02, List.map_map, bb, bt, zDs, zD, Y00, simprocAttr, Tryz.results104, ho])
    by_cases hf : findB s.bs h.b < 0
    · have hf' : ¬ 0 ≤ findB s.bs h.b := by omega
      have ho : Y0l s.bs h false = false := by simp [Y0l, hb, hf']
      ((refine ggb1 (F := _∧_) ⟨hb, hf⟩ hF ?_))
      ((repeat refine Y01 ?_); (refine wta ?_); simp (disch := omega) only [retQ, resD, oneD, rsv, rs, rsL, Y02, List.map_map, bb, bt, zDs, zD, Y00, simprocAttr, Tryz.results104, ho])
    have hf' : 0 ≤ findB s.bs h.b := by omega
    have ho : Y0l s.bs h false = (h.p == 2 || h.p == 0 || h.p == -2) := by simp [Y0l, hb, hf', hlo]
    ((refine ggb1 (F := _∧_) ⟨hb, hf⟩ hF ?_))
    cases h1 : (h.p == 2) <;> cases h2 : (h.p == 0) <;>
    · ((refine ggb0 (F := _∧_) ⟨h1, h2⟩ ?_))
      ((repeat refine Y01 ?_); (refine wta ?_); simp (disch := omega) only [retQ, resD, oneD, rsv, rs, rsL, Y02, List.map_map, bb, bt, zDs, zD, Y00, simprocAttr, Tryz.results104, ho, h1, h2, Bool.or_self, Bool.or_false, Bool.false_or, Bool.true_or, Bool.or_true])
  · cases hn : (h.n == 1) <;> cases hd : (h.d == 1)
    rotate_left 3
    · have hlo : lossy h.n h.d = true := by
        rw [show h.n = 1 by simpa using hn, show h.d = 1 by simpa using hd]; decide
      rw [hlo] at hL
      ((refine gga0 ?_))
      ((repeat refine Y01 ?_); (refine gdzb2 (F := _∧_) ⟨hn, hd⟩ hL hO ?_))
      by_cases hb : h.b = ⟨#[]⟩
      · have ho : Y0l s.bs h true = (h.p == 0) := by simp [Y0l, hn, hd, hb]
        ((refine ggb0 hb ?_))
        ((repeat refine Y01 ?_); (refine wta ?_); simp (disch := omega) only [retQ, resD, oneD, rsv, rs, rsL, Y02, List.map_map, bb, bt, zDs, zD, Y00, simprocAttr, Tryz.results104, ho])
      by_cases hf : findB s.bs h.b < 0
      · have hf' : ¬ 0 ≤ findB s.bs h.b := by omega
        have ho : Y0l s.bs h true = false := by simp [Y0l, hb, hf']
        ((refine ggb1 (F := _∧_) ⟨hb, hf⟩ hF ?_))
        ((repeat refine Y01 ?_); (refine wta ?_); simp (disch := omega) only [retQ, resD, oneD, rsv, rs, rsL, Y02, List.map_map, bb, bt, zDs, zD, Y00, simprocAttr, Tryz.results104, ho])
      have hf' : 0 ≤ findB s.bs h.b := by omega
      have ho : Y0l s.bs h true = (h.p == 1 || h.p == -1) := by simp [Y0l, hb, hf', hn, hd]
      ((refine ggb1 (F := _∧_) ⟨hb, hf⟩ hF ?_))
      cases h1 : (h.p == 1) <;>
      · ((refine ggb0 h1 ?_))
        ((repeat refine Y01 ?_); (refine wta ?_); simp (disch := omega) only [retQ, resD, oneD, rsv, rs, rsL, Y02, List.map_map, bb, bt, zDs, zD, Y00, simprocAttr, Tryz.results104, ho, h1, Bool.or_self, Bool.or_false, Bool.false_or, Bool.true_or, Bool.or_true])
    all_goals
      have ho : Y0l s.bs h true = false := by simp [Y0l, hn, hd]
      ((refine gga0 ?_))
      ((repeat refine Y01 ?_); (refine gdzb2 (F := _∧_) ⟨hn, hd⟩ hL hO ?_))
      ((refine gga0 ?_))
      ((repeat refine Y01 ?_); (refine wta ?_); simp (disch := omega) only [retQ, resD, oneD, rsv, rs, rsL, Y02, List.map_map, bb, bt, zDs, zD, Y00, simprocAttr, Tryz.results104, ho])
theorem Y7s {bs : List Bk} {hs : List Hd} (h : ∀ j x, hs[j]? = some x → Y0l bs x (endH hs.length j) = true) : Y2i bs hs = true := by
  refine Ya8 fun k hk => ?_
  rw [List.getElem?_eq_getElem hk]
  exact h k _ (List.getElem?_eq_getElem hk)
theorem Y7r {bs : List Bk} {hs : List Hd} {j : Nat} {x : Hd} (hj : hs[j]? = some x) (h : Y0l bs x (endH hs.length j) = false) : Y2i bs hs = false := by
  refine Ya7 (k := j) (List.getElem?_eq_some_iff.1 hj).1 ?_
  rw [hj]; exact h
set_option maxHeartbeats 2000000 in
theorem rope_prog (s : Sy) (r : Rp) (hl : s.bs.length ≤ 1000000) (hr : r.hs.length ≤ 1000000) : PRet Tryz.prog 128 [syD s, .agg (rp1 r)] (bool (Y1f s.bs r)) := by
  refine PRet.intro 1 fun t => ACall.enter tab_ok Tryz.func128 rfl rfl Tryz.ntmps128 (by simp) ?_
  simp only [Y06]
  have hla := Y29 r.hs
  have ha2 := Y2a r.hs
  have hW := Ya3 r.hs.length 2 10
  by_cases hsz : 2 ≤ r.hs.length ∧ r.hs.length ≤ 10
  rotate_left 1
  · have ho : Y1f s.bs r = false := by simp only [Y1f, hsz, decide_false, Bool.false_and]
    have hw : (decide ((2 : Int) ≤ r.hs.length) && decide ((r.hs.length : Int) ≤ 10)) = false := by
      rw [← Bool.not_eq_true, Bool.and_eq_true, decide_eq_true_eq, decide_eq_true_eq]; omega
    rw [hw] at hW
    ((refine ggb1 ha2 hW ?_))
    ((repeat refine Y01 ?_); (refine wta ?_); simp (disch := omega) only [retQ, resD, oneD, rsv, rs, rsL, Y02, List.map_map, bb, bt, zDs, zD, Y00, simprocAttr, Tryz.results128, ho])
  have hw : (decide ((2 : Int) ≤ r.hs.length) && decide ((r.hs.length : Int) ≤ 10)) = true := by
    rw [Bool.and_eq_true, decide_eq_true_eq, decide_eq_true_eq]; omega
  rw [hw] at hW
  ((refine ggb1 ha2 hW ?_))
  ((repeat refine Y01 ?_))
  refine Y04 ?_
  refine Y07 (fun x : Nat × Nat => ⟨[(2, .ptr 0 (t + 1) 0), (3, .ptr 1 (t + 1 + 1) 0), (5, int r.hs.length), (15, hds r.hs), (16, int r.hs.length), (17, int x.1)], [some ⟨25, t + 1, [bks s.bs, rps s.rs]⟩, some ⟨39, t + 1 + 1, rp1 r⟩], x.2⟩) (fun x => r.hs.length - x.1) (fun x => x.1 ≤ r.hs.length ∧ ∀ j h, j < x.1 → r.hs[j]? = some h → Y0l s.bs h (endH r.hs.length j) = true) (0, t + 1 + 1) ⟨Nat.zero_le _, fun j h hj => absurd hj (Nat.not_lt_zero _)⟩ (by (simp (disch := omega) only [StLe, tmLe, Y03, hpLe, bl, bb, bt, zDs, zD, Y00, simprocAttr])) ?_
  rintro ⟨k, tt⟩ ⟨hk, hin⟩
  simp only at hk hin
  by_cases hlt : k < r.hs.length
  · obtain ⟨h, hh⟩ : ∃ h, r.hs[k]? = some h := ⟨_, List.getElem?_eq_getElem hlt⟩
    have hra := Y28 r.hs k h hh
    have hH := hold_prog s h (endH r.hs.length k) hl
    ((refine ggb0 (F := _∧_) ⟨@Int.ofNat_lt, hlt⟩ ?_))
    ((repeat refine Y01 ?_))
    refine Y04 ?_
    have e0 : ((k : Int) == 0) = (k == 0) := by rw [Bool.eq_iff_iff]; simp
    have e1 : ((k : Int) == (r.hs.length : Int) - 1) = (k + 1 == r.hs.length) := by rw [Bool.eq_iff_iff, beq_iff_eq, beq_iff_eq]; omega
    have hend : endH r.hs.length k = (k == 0 || k + 1 == r.hs.length) := rfl
    cases hok : Y0l s.bs h (endH r.hs.length k)
    · have ho : Y1f s.bs r = false := by simp only [Y1f, Y7r hh hok, Bool.and_false, Bool.false_and]
      rw [hok] at hH
      cases h0 : (k == 0) <;> cases h1 : (k + 1 == r.hs.length) <;>
      · rw [hend, h0, h1] at hH
        simp only [Bool.or_self, Bool.or_true, Bool.true_or] at hH
        ((refine ggb1 (F := _∧_∧_∧_∧_∧_) ⟨hlt, hra, e0, e1, h0, h1⟩ hH ?_))
        ((repeat refine Y01 ?_); (refine wta ?_); simp (disch := omega) only [retQ, resD, oneD, rsv, rs, rsL, Y02, List.map_map, bb, bt, zDs, zD, Y00, simprocAttr, Tryz.results128, ho])
    · rw [hok] at hH
      cases h0 : (k == 0) <;> cases h1 : (k + 1 == r.hs.length) <;>
      · rw [hend, h0, h1] at hH
        simp only [Bool.or_self, Bool.or_true, Bool.true_or] at hH
        ((refine ggb1 (F := _∧_∧_∧_∧_∧_) ⟨hlt, hra, e0, e1, h0, h1⟩ hH ?_))
        refine ⟨(k + 1, tt + 1), ⟨hlt, fun j x hj hx => ?_⟩, by show r.hs.length - (k + 1) < r.hs.length - k; omega, ?_⟩
        · by_cases e : j = k
          · subst e; rw [hh] at hx; cases hx; exact hok
          · exact hin j x (by omega) hx
        (simp (disch := omega) only [StLe, tmLe, Y03, hpLe, bl, bb, bt, zDs, zD, Y00, simprocAttr])
  · have hke : k = r.hs.length := by omega
    subst hke
    have hall : Y2i s.bs r.hs = true := Y7s fun j x hx => hin j x (List.getElem?_eq_some_iff.1 hx).1 hx
    obtain ⟨m, hm⟩ : ∃ m, r.hs.length = m + 1 := ⟨r.hs.length - 1, by omega⟩
    obtain ⟨h, hh⟩ : ∃ h, r.hs[m]? = some h := ⟨_, List.getElem?_eq_getElem (by omega)⟩
    have hlast : r.hs.getLast? = some h := by rw [List.getLast?_eq_getElem?, show r.hs.length - 1 = m by omega]; exact hh
    have ho : Y1f s.bs r = (!r.hl || decide (h.b = ⟨#[]⟩)) := by
      simp only [Y1f, hall, hsz, hlast, and_self, decide_true, Bool.true_and]
    have em : (r.hs.length : Int) - 1 = (m : Int) := by omega
    have hnm := Y70 r.hs m h hh
    have hmlt : m < r.hs.length := by omega
    cases hhl : r.hl
    · rw [hhl] at ho
      ((refine ggb0 (F := _∧_) ⟨@Int.lt_irrefl, hhl⟩ ?_))
      ((repeat refine Y01 ?_); (refine wta ?_); simp (disch := omega) only [retQ, resD, oneD, rsv, rs, rsL, Y02, List.map_map, bb, bt, zDs, zD, Y00, simprocAttr, Tryz.results128, ho, Bool.true_or])
    · rw [hhl] at ho
      ((refine ggb0 (F := _∧_∧_∧_∧_) ⟨@Int.lt_irrefl, hhl, em, hmlt, hnm⟩ ?_))
      ((repeat refine Y01 ?_); (refine wta ?_); simp (disch := omega) only [retQ, resD, oneD, rsv, rs, rsL, Y02, List.map_map, bb, bt, zDs, zD, Y00, simprocAttr, Tryz.results128, ho, Bool.false_or])
end Go.Proofs.YtpcakodemleoiaaGreat.T
end
section
namespace Go.Proofs.YtpcakodemleoiaaGreat.T
open Go Go.RowKit Lin
def strs (l : List ByteArray) : List D := l.flatMap fun s => [str s, bool true]
def addN (l : List ByteArray) (s : ByteArray) : List ByteArray := if l.contains s = true then l else l ++ [s]
theorem Y9e (k : ByteArray) : ∀ l : List ByteArray, mfind (.string k) (strs l) = some (if l.contains k = true then some (.bool true) else none)
  | [] => by simp [strs, mfind]
  | s :: l => by
    have ih := Y9e k l
    simp only [strs, List.flatMap_cons, List.cons_append, List.nil_append, mfind, keyEq] at ih ⊢
    by_cases h : k = s
    · simp [h]
    · have h' : (k == s) = false := by simpa using h
      simp only [h, decide_false, List.contains_cons, h', Bool.false_or]
      exact ih
theorem Ybw (k : ByteArray) : ∀ l : List ByteArray, mput (.string k) (.bool true) (strs l) = strs (addN l k)
  | [] => by simp [strs, mput, addN]
  | s :: l => by
    have ih := Ybw k l
    simp only [strs, addN, List.flatMap_cons, List.cons_append, List.nil_append, mput, keyEq] at ih ⊢
    by_cases h : k = s
    · subst h; simp
    · have h' : (k == s) = false := by simpa using h
      simp only [h, decide_false, List.contains_cons, h', Bool.false_or, Option.some.injEq, Bool.false_eq_true, if_false, ih]
      split <;> simp
theorem Yep {H : Hp} {b g c gc t : Nat} {nm : ByteArray} {names : List ByteArray} {K : D → Hp → Nat → Prop} (hs : nm.size ≤ 1000000) (hb : H[b]? = some (some ⟨151, g, [.mp c gc]⟩)) (hc : H[c]? = some (some ⟨151, gc, strs names⟩))
    (hK : K (bool (isNm nm && !names.contains nm)) (H.set c (some ⟨151, gc, strs (addN names nm)⟩)) t) : ACall Tryz.prog 126 [str nm, .ptr b g 0] H t K := by
  refine ACall.enter tab_ok Tryz.func126 rfl rfl Tryz.ntmps126 (by simp) ?_
  simp only [Y06]
  have hN := isName_dec nm hs
  have h1 := Y9e nm names
  have h2 := Ybw nm names
  have hcl : c < H.length := (List.getElem?_eq_some_iff.1 hc).1
  cases hn : isNm nm
  · rw [hn] at hN
    rw [hn] at hK
    ((refine ggb1 (F := _∧_∧_∧_) ⟨hb, hc, h1, h2⟩ hN ?_))
    ((repeat refine Y01 ?_); (refine wta ?_); simp (disch := omega) only [retQ, resD, oneD, bb, bt, zDs, zD, Y00, simprocAttr, Tryz.results126])
    exact hK
  · rw [hn] at hN
    rw [hn] at hK
    cases hin : names.contains nm
    · rw [hin] at h1 hK
      simp only [Bool.false_eq_true, if_false] at h1
      ((refine ggb1 (F := _∧_∧_∧_∧_) ⟨hb, hc, h1, h2, @Option.isSome_none.{0}⟩ hN ?_))
      ((repeat refine Y01 ?_); (refine wta ?_); simp (disch := omega) only [retQ, resD, oneD, bb, bt, zDs, zD, Y00, simprocAttr, Tryz.results126])
      exact hK
    · rw [hin] at h1 hK
      simp only [if_true] at h1
      ((refine ggb1 (F := _∧_∧_∧_∧_) ⟨hb, hc, h1, h2, @Option.isSome_some.{0}⟩ hN ?_))
      ((repeat refine Y01 ?_); (refine wta ?_); simp (disch := omega) only [retQ, resD, oneD, bb, bt, zDs, zD, Y00, simprocAttr, Tryz.results126])
      exact hK
structure Fits (s : Sy) : Prop where
  nb : s.bs.length ≤ 1000000
  nr : s.rs.length ≤ 1000000
  sb : ∀ b ∈ s.bs, b.nm.size ≤ 1000000
  sr : ∀ r ∈ s.rs, r.nm.size ≤ 1000000 ∧ r.hs.length ≤ 1000000
theorem Yfg {bs : List Bk} {k : Nat} {b : Bk} (h : bs[k]? = some b) : okB bs k = (isNm b.nm && !(Y0k (bs.take k)).contains b.nm && decide (0 ≤ b.w ∧ b.w ≤ 16777216)) := by unfold okB; rw [h]
theorem Yff {s : Sy} {k : Nat} {r : Rp} (h : s.rs[k]? = some r) : okR s k = (isNm r.nm && !(Y0k s.bs ++ Y24 (s.rs.take k)).contains r.nm && Y1f s.bs r) := by unfold okR; rw [h]
theorem bNames_step {bs : List Bk} {k : Nat} {b : Bk} (h : bs[k]? = some b) : Y0k (bs.take (k + 1)) = Y0k (bs.take k) ++ [b.nm] := by
  unfold Y0k; rw [List.take_add_one, h]; simp
theorem rNames_step {rs : List Rp} {k : Nat} {r : Rp} (h : rs[k]? = some r) : Y24 (rs.take (k + 1)) = Y24 (rs.take k) ++ [r.nm] := by
  unfold Y24; rw [List.take_add_one, h]; simp
theorem Y9k {rs : List Rp} {k : Nat} {r : Rp} (h : rs[k]? = some r) : hauls (rs.take (k + 1)) = hauls (rs.take k) + (if r.hl = true then 1 else 0) := by
  unfold hauls; rw [List.take_add_one, h, List.filter_append, List.length_append]
  cases hh : r.hl <;> simp [hh]
theorem Ye2 (rs : List Rp) : hauls rs ≤ rs.length := List.length_filter_le _ _
theorem Y2h {s : Sy} (h : Y30 s = false) : Y0f s = false := by simp [Y0f, h]
theorem Y4a {s : Sy} {k : Nat} (hk : k < s.bs.length) (h : okB s.bs k = false) : Y0f s = false := by simp [Y0f, Ya7 hk h]
theorem Y49 {s : Sy} {k : Nat} (hk : k < s.rs.length) (h : okR s k = false) : Y0f s = false := by simp [Y0f, Ya7 hk h]
theorem Y8w {s : Sy} (h : Y30 s = true) (hb : ∀ j, j < s.bs.length → okB s.bs j = true) (hr : ∀ j, j < s.rs.length → okR s j = true) : Y0f s = decide (hauls s.rs ≤ 1) := by
  simp [Y0f, h, Ya8 hb, Ya8 hr]
set_option maxHeartbeats 4000000 in
theorem Y8v (s : Sy) (hf : Fits s) : PRet Tryz.prog 105 [syD s] (bool (Y0f s)) := by
  refine PRet.intro 1 fun t => ACall.enter tab_ok Tryz.func105 rfl rfl Tryz.ntmps105 (by simp) ?_
  simp only [Y06]
  obtain ⟨nb, nr, sb, sr⟩ := hf
  have hlb := Y2w s.bs
  have hlr := Y23 s.rs
  have hdb := Y2k s.bs
  have hdr := Y1l s.rs
  have hw1 := Ya3 s.bs.length 1 6
  have hw2 := Ya3 s.rs.length 1 6
  by_cases c1 : 1 ≤ s.bs.length ∧ s.bs.length ≤ 6
  rotate_left 1
  · have ho : Y0f s = false := Y2h (by simp [Y30, c1])
    have hw : (decide ((1 : Int) ≤ s.bs.length) && decide ((s.bs.length : Int) ≤ 6)) = false := by
      rw [← Bool.not_eq_true, Bool.and_eq_true, decide_eq_true_eq, decide_eq_true_eq]; omega
    rw [hw] at hw1
    ((refine ggb1 (F := _∧_) ⟨hdb, hdr⟩ hw1 ?_))
    ((repeat refine Y01 ?_); (refine wta ?_); simp (disch := omega) only [retQ, resD, oneD, rsv, rs, rsL, Y02, List.map_map, bb, bt, zDs, zD, Y00, simprocAttr, Tryz.results105, ho])
  have hwa : (decide ((1 : Int) ≤ s.bs.length) && decide ((s.bs.length : Int) ≤ 6)) = true := by
    rw [Bool.and_eq_true, decide_eq_true_eq, decide_eq_true_eq]; omega
  rw [hwa] at hw1
  by_cases c2 : 1 ≤ s.rs.length ∧ s.rs.length ≤ 6
  rotate_left 1
  · have ho : Y0f s = false := Y2h (by simp [Y30, c2])
    have hw : (decide ((1 : Int) ≤ s.rs.length) && decide ((s.rs.length : Int) ≤ 6)) = false := by
      rw [← Bool.not_eq_true, Bool.and_eq_true, decide_eq_true_eq, decide_eq_true_eq]; omega
    rw [hw] at hw2
    ((refine ggb2 (F := _∧_) ⟨hdb, hdr⟩ hw1 hw2 ?_))
    ((repeat refine Y01 ?_); (refine wta ?_); simp (disch := omega) only [retQ, resD, oneD, rsv, rs, rsL, Y02, List.map_map, bb, bt, zDs, zD, Y00, simprocAttr, Tryz.results105, ho])
  have hwb : (decide ((1 : Int) ≤ s.rs.length) && decide ((s.rs.length : Int) ≤ 6)) = true := by
    rw [Bool.and_eq_true, decide_eq_true_eq, decide_eq_true_eq]; omega
  rw [hwb] at hw2
  have hsz : Y30 s = true := by simp [Y30, c1, c2]
  ((refine ggb2 (F := _∧_) ⟨hdb, hdr⟩ hw1 hw2 ?_))
  clear hw1 hw2
  ((repeat refine Y01 ?_))
  refine Y0j (fun x : Nat => ⟨[(1, .ptr 0 (t + 1) 0), (4, .fn 126 [.ptr 2 (t + 1 + 1 + 1) 0])], [some ⟨25, t + 1, [bks s.bs, rps s.rs]⟩, some ⟨151, t + 1 + 1, strs (Y0k s.bs)⟩, some ⟨151, t + 1 + 1 + 1, [.mp 1 (t + 1 + 1)]⟩], x⟩) (fun _ => ∀ j, j < s.bs.length → okB s.bs j = true) ?_ ?_
  · refine Y04 ?_
    refine Y07 (fun x : Nat × Nat => ⟨[(1, .ptr 0 (t + 1) 0), (4, .fn 126 [.ptr 2 (t + 1 + 1 + 1) 0]), (25, bks s.bs), (26, int s.bs.length), (27, int x.1)], [some ⟨25, t + 1, [bks s.bs, rps s.rs]⟩, some ⟨151, t + 1 + 1, strs (Y0k (s.bs.take x.1))⟩, some ⟨151, t + 1 + 1 + 1, [.mp 1 (t + 1 + 1)]⟩], x.2⟩) (fun x => s.bs.length - x.1) (fun x => x.1 ≤ s.bs.length ∧ ∀ j, j < x.1 → okB s.bs j = true) (0, t + 1 + 1 + 1) ⟨Nat.zero_le _, fun j hj => absurd hj (Nat.not_lt_zero _)⟩ (by (simp (disch := omega) only [StLe, tmLe, Y03, hpLe, bl, bb, bt, zDs, zD, Y00, simprocAttr, strs, Y0k])) ?_
    rintro ⟨k, tt⟩ ⟨hk, hin⟩
    simp only at hk hin
    by_cases hlt : k < s.bs.length
    · obtain ⟨b, hb⟩ : ∃ y, s.bs[k]? = some y := ⟨_, List.getElem?_eq_getElem hlt⟩
      have hra := Y4m s.bs k b hb
      have hat := Yfg hb
      have hst := bNames_step hb
      have hwt := Ya3 b.w 0 16777216
      have hdw : decide (0 ≤ b.w ∧ b.w ≤ 16777216) = (decide (0 ≤ b.w) && decide (b.w ≤ 16777216)) := by rw [Bool.eq_iff_iff]; simp
      ((refine ggb0 (F := _∧_) ⟨@Int.ofNat_lt, hlt⟩ ?_))
      ((repeat refine Y01 ?_))
      refine Y04 ?_
      ((refine ggb0 (F := _∧_) ⟨hlt, hra⟩ ?_))
      ((try with_reducible intro KR hKR); (first | refine Y0v fun KK hKK => ?_ | refine Y0c rfl fun KK hKK => ?_); simp (disch := omega) only [bb, bt, zDs, zD, Y00, simprocAttr, goC, Y0u, argsD, and_self])
      refine Yep (names := Y0k (s.bs.take k)) (sb b (List.mem_of_getElem? hb)) rfl rfl ?_
      cases hnm : (isNm b.nm && !(Y0k (s.bs.take k)).contains b.nm)
      · have ho : Y0f s = false := Y4a hlt (by rw [hat, hnm, Bool.false_and])
        (simp (disch := omega) only [bb, bt, zDs, zD, Y00, simprocAttr, Y1e]; refine hKK _ ?_; clear hKK KK)
        ((refine gga0 ?_))
        ((repeat refine Y01 ?_); (refine wta ?_); simp (disch := omega) only [retQ, resD, oneD, rsv, rs, rsL, Y02, List.map_map, bb, bt, zDs, zD, Y00, simprocAttr, Tryz.results105, ho])
      · cases hw : (decide (0 ≤ b.w) && decide (b.w ≤ 16777216))
        · have ho : Y0f s = false := Y4a hlt (by rw [hat, hnm, hdw, hw]; rfl)
          rw [hw] at hwt
          (simp (disch := omega) only [bb, bt, zDs, zD, Y00, simprocAttr, Y1e]; refine hKK _ ?_; clear hKK KK)
          ((refine gga1 hwt ?_))
          ((repeat refine Y01 ?_); (refine wta ?_); simp (disch := omega) only [retQ, resD, oneD, rsv, rs, rsL, Y02, List.map_map, bb, bt, zDs, zD, Y00, simprocAttr, Tryz.results105, ho])
        · rw [hw] at hwt
          have hcon : (Y0k (s.bs.take k)).contains b.nm = false := by
            rw [Bool.and_eq_true, Bool.not_eq_true'] at hnm; exact hnm.2
          have hadd : addN (Y0k (s.bs.take k)) b.nm = Y0k (s.bs.take (k + 1)) := by
            unfold addN; rw [hcon, hst]; simp
          (simp (disch := omega) only [bb, bt, zDs, zD, Y00, simprocAttr, Y1e]; refine hKK _ ?_; clear hKK KK)
          ((refine ggb1 hadd hwt ?_))
          refine ⟨(k + 1, tt + 1), ⟨hlt, fun j hj => ?_⟩, by show s.bs.length - (k + 1) < s.bs.length - k; omega, ?_⟩
          · by_cases e : j = k
            · subst e; rw [hat, hnm, hdw, hw]; rfl
            · exact hin j (by omega)
          simp only [hadd]
          (simp (disch := omega) only [StLe, tmLe, Y03, hpLe, bl, bb, bt, zDs, zD, Y00, simprocAttr])
    · have hke : k = s.bs.length := by omega
      subst hke
      rw [List.take_length]
      ((refine ggb0 @Int.lt_irrefl ?_))
      exact ⟨tt, hin, by (simp (disch := omega) only [StLe, tmLe, Y03, hpLe, bl, bb, bt, zDs, zD, Y00, simprocAttr])⟩
  rintro t2 hbs
  ((refine ggb0 hdr ?_))
  ((repeat refine Y01 ?_))
  refine Y0j (fun x : Nat => ⟨[(7, int (hauls s.rs))], [], x⟩) (fun _ => ∀ j, j < s.rs.length → okR s j = true) ?_ ?_
  · refine Y04 ?_
    refine Y07 (fun x : Nat × Nat => ⟨[(1, .ptr 0 (t + 1) 0), (4, .fn 126 [.ptr 2 (t + 1 + 1 + 1) 0]), (7, int (hauls (s.rs.take x.1))), (44, rps s.rs), (45, int s.rs.length), (46, int x.1)], [some ⟨25, t + 1, [bks s.bs, rps s.rs]⟩, some ⟨151, t + 1 + 1, strs (Y0k s.bs ++ Y24 (s.rs.take x.1))⟩, some ⟨151, t + 1 + 1 + 1, [.mp 1 (t + 1 + 1)]⟩], x.2⟩) (fun x => s.rs.length - x.1) (fun x => x.1 ≤ s.rs.length ∧ ∀ j, j < x.1 → okR s j = true) (0, t2) ⟨Nat.zero_le _, fun j hj => absurd hj (Nat.not_lt_zero _)⟩ (by (simp (disch := omega) only [StLe, tmLe, Y03, hpLe, bl, bb, bt, zDs, zD, Y00, simprocAttr, Y24, List.append_nil, hauls, List.filter_nil])) ?_
    rintro ⟨k, tt⟩ ⟨hk, hin⟩
    simp only at hk hin
    by_cases hlt : k < s.rs.length
    · obtain ⟨r, hr⟩ : ∃ y, s.rs[k]? = some y := ⟨_, List.getElem?_eq_getElem hlt⟩
      have hra := Y1s s.rs k r hr
      have hat := Yff hr
      have hst := rNames_step hr
      have hsh := Y9k hr
      have hhl := Ye2 (s.rs.take k)
      rw [List.length_take] at hhl
      obtain ⟨sr1, sr2⟩ := sr r (List.mem_of_getElem? hr)
      have hrp := rope_prog s r nb sr2
      ((refine ggb0 (F := _∧_) ⟨@Int.ofNat_lt, hlt⟩ ?_))
      ((repeat refine Y01 ?_))
      refine Y04 ?_
      ((refine ggb0 (F := _∧_) ⟨hlt, hra⟩ ?_))
      ((try with_reducible intro KR hKR); (first | refine Y0v fun KK hKK => ?_ | refine Y0c rfl fun KK hKK => ?_); simp (disch := omega) only [bb, bt, zDs, zD, Y00, simprocAttr, goC, Y0u, argsD, and_self])
      refine Yep (names := Y0k s.bs ++ Y24 (s.rs.take k)) sr1 rfl rfl ?_
      cases hnm : (isNm r.nm && !(Y0k s.bs ++ Y24 (s.rs.take k)).contains r.nm)
      · have ho : Y0f s = false := Y49 hlt (by rw [hat, hnm, Bool.false_and])
        (simp (disch := omega) only [bb, bt, zDs, zD, Y00, simprocAttr, Y1e]; refine hKK _ ?_; clear hKK KK)
        ((refine gga0 ?_))
        ((repeat refine Y01 ?_); (refine wta ?_); simp (disch := omega) only [retQ, resD, oneD, rsv, rs, rsL, Y02, List.map_map, bb, bt, zDs, zD, Y00, simprocAttr, Tryz.results105, ho])
      · cases hw : Y1f s.bs r
        · have ho : Y0f s = false := Y49 hlt (by rw [hat, hnm, hw]; rfl)
          rw [hw] at hrp
          (simp (disch := omega) only [bb, bt, zDs, zD, Y00, simprocAttr, Y1e]; refine hKK _ ?_; clear hKK KK)
          ((refine gga1 hrp ?_))
          ((repeat refine Y01 ?_); (refine wta ?_); simp (disch := omega) only [retQ, resD, oneD, rsv, rs, rsL, Y02, List.map_map, bb, bt, zDs, zD, Y00, simprocAttr, Tryz.results105, ho])
        · rw [hw] at hrp
          have hcon : (Y0k s.bs ++ Y24 (s.rs.take k)).contains r.nm = false := by
            rw [Bool.and_eq_true, Bool.not_eq_true'] at hnm; exact hnm.2
          have hadd : addN (Y0k s.bs ++ Y24 (s.rs.take k)) r.nm = Y0k s.bs ++ Y24 (s.rs.take (k + 1)) := by
            unfold addN; rw [hcon, hst]; simp
          (simp (disch := omega) only [bb, bt, zDs, zD, Y00, simprocAttr, Y1e]; refine hKK _ ?_; clear hKK KK)
          ((refine ggb1 hadd hrp ?_))
          cases hh : r.hl
          · rw [hh] at hsh
            simp only [Bool.false_eq_true, if_false, Nat.add_zero] at hsh
            ((refine gga0 ?_))
            refine ⟨(k + 1, tt + 1), ⟨hlt, fun j hj => ?_⟩, by show s.rs.length - (k + 1) < s.rs.length - k; omega, ?_⟩
            · by_cases e : j = k
              · subst e; rw [hat, hnm, hw]; rfl
              · exact hin j (by omega)
            simp only [hadd, hsh]
            (simp (disch := omega) only [StLe, tmLe, Y03, hpLe, bl, bb, bt, zDs, zD, Y00, simprocAttr])
          · rw [hh] at hsh
            simp only [if_true] at hsh
            ((refine gga0 ?_))
            refine ⟨(k + 1, tt + 1), ⟨hlt, fun j hj => ?_⟩, by show s.rs.length - (k + 1) < s.rs.length - k; omega, ?_⟩
            · by_cases e : j = k
              · subst e; rw [hat, hnm, hw]; rfl
              · exact hin j (by omega)
            simp only [hadd, hsh]
            (simp (disch := omega) only [StLe, tmLe, Y03, hpLe, bl, bb, bt, zDs, zD, Y00, simprocAttr])
    · have hke : k = s.rs.length := by omega
      subst hke
      rw [List.take_length]
      ((refine ggb0 @Int.lt_irrefl ?_))
      exact ⟨tt, hin, by (simp (disch := omega) only [StLe, tmLe, Y03, hpLe, bl, bb, bt, zDs, zD, Y00, simprocAttr])⟩
  rintro t3 hrs
  have ho := Y8w hsz hbs hrs
  have he : decide ((hauls s.rs : Int) ≤ 1) = decide (hauls s.rs ≤ 1) := by rw [decide_eq_decide]; omega
  ((refine ggb0 he ?_))
  ((repeat refine Y01 ?_); (refine wta ?_); simp (disch := omega) only [retQ, resD, oneD, rsv, rs, rsL, Y02, List.map_map, bb, bt, zDs, zD, Y00, simprocAttr, Tryz.results105, ho])
end Go.Proofs.YtpcakodemleoiaaGreat.T
end

