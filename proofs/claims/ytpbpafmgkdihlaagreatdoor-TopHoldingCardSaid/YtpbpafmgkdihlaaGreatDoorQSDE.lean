import Derived.Test.YtpbpafmgkdihlaaGreatDoorQSBC
import Derived.Test.YtpbpafmgkdihlaaGreatDoorQWJK
set_option linter.all false
namespace Go.Proofs.YtpbpafmgkdihlaaGreatDoor.T
open Go Go.RowKit Lin
theorem Ycv (n lo hi : Int) : PRet Tryz.prog 80 [int n, int lo, int hi] (bool (decide (lo ≤ n) && decide (n ≤ hi))) := by
 refine pri 1 Tryz.func80 Tryz.ntmps80 fun t => ?_
 simp only [Y04]
 by_cases h1 : lo ≤ n <;> by_cases h2 : n ≤ hi <;>
 ·((refine ggb0 (F := _∧_) ⟨h1, h2⟩ ?_))
  exact exx (F := _ ∧ _ ∧ _) ⟨Tryz.results80, h1, h2⟩
theorem Ylp (n d : Int) : PRet Tryz.prog 156 [frD (n, d)] (bool (Y3h n d)) := by
 refine pri 1 Tryz.func156 Tryz.ntmps156 fun t => ?_
 simp only [Y04]
 have hc := Y5d n d
 cases hv : Y09 n d
 ·rw [hv] at hc
  refine gga1 hc ?_
  ((repeat refine Y00 ?_); (refine wta ?_); simp (disch := omega) only [retQ, resD, oneD, rsv, rs, rsL, Y0a, List.map_map, bb, bt, zDs, zD, Y01, simprocAttr, Tryz.results156, Y3h, hv])
 ·rw [hv] at hc
  by_cases h1 : d ≤ n <;> by_cases h2 : n ≤ 100 <;>
  ·((refine ggb1 (F := _∧_) ⟨h1, h2⟩ hc ?_))
   ((repeat refine Y00 ?_); (refine wta ?_); simp (disch := omega) only [retQ, resD, oneD, rsv, rs, rsL, Y0a, List.map_map, bb, bt, zDs, zD, Y01, simprocAttr, Tryz.results156, Y3h, hv, h1, h2])
theorem Ypi (n d : Int) : PRet Tryz.prog 94 [frD (n, d)] (bool (Y3h n d)) := by
 refine pri 1 Tryz.func94 Tryz.ntmps94 fun t => ?_
 simp only [Y04]
 have hc := Yob n d
 cases hv : Y09 n d
 ·rw [hv] at hc
  refine gga1 hc ?_
  ((repeat refine Y00 ?_); (refine wta ?_); simp (disch := omega) only [retQ, resD, oneD, rsv, rs, rsL, Y0a, List.map_map, bb, bt, zDs, zD, Y01, simprocAttr, Tryz.results94, Y3h, hv])
 ·rw [hv] at hc
  by_cases h1 : d ≤ n <;> by_cases h2 : n ≤ 100 <;>
  ·((refine ggb1 (F := _∧_) ⟨h1, h2⟩ hc ?_))
   ((repeat refine Y00 ?_); (refine wta ?_); simp (disch := omega) only [retQ, resD, oneD, rsv, rs, rsL, Y0a, List.map_map, bb, bt, zDs, zD, Y01, simprocAttr, Tryz.results94, Y3h, hv, h1, h2])
set_option maxHeartbeats 2000000 in
theorem Ypt (s : Sy) (h : Hd) (e : Bool) (hl : s.bs.length ≤ 1000000) : PRet Tryz.prog 121 [syD s, .agg (hd1 h), bool e] (bool (Y0q s.bs h e)) := by
 refine pri 1 Tryz.func121 Tryz.ntmps121 fun t => ?_
 simp only [Y04]
 have hF := Yzu s h.b hl
 have hL := Ylp h.n h.d
 cases e
 ·cases hlo : Y3h h.n h.d
  ·rw [hlo] at hL
   have ho : Y0q s.bs h false = false := by simp [Y0q, hlo]
   refine gga1 hL ?_
   exact exx (F := _ ∧ _) ⟨Tryz.results121, ho⟩
  rw [hlo] at hL
  by_cases hb : h.b = ⟨#[]⟩
  ·have ho : Y0q s.bs h false = (h.p == 0) := by simp [Y0q, hlo, hb]
   refine ggb1 hb hL ?_
   repeat refine Y00 ?_
   refine Y02 ?_
   refine ggb0 hb ?_
   exact exx (F := _ ∧ _) ⟨Tryz.results121, ho⟩
  by_cases hf : Y1k s.bs h.b < 0
  ·have hf' : ¬ 0 ≤ Y1k s.bs h.b := by omega
   have ho : Y0q s.bs h false = false := by simp [Y0q, hb, hf']
   refine ggb1 hb hL ?_
   repeat refine Y00 ?_
   refine Y02 ?_
   ((refine ggb1 (F := _∧_) ⟨hb, hf⟩ hF ?_))
   exact exx (F := _ ∧ _) ⟨Tryz.results121, ho⟩
  have hf' : 0 ≤ Y1k s.bs h.b := by omega
  have ho : Y0q s.bs h false = (h.p == 2 || h.p == 0 || h.p == -2) := by simp [Y0q, hb, hf', hlo]
  refine ggb1 hb hL ?_
  repeat refine Y00 ?_
  refine Y02 ?_
  ((refine ggb1 (F := _∧_) ⟨hb, hf⟩ hF ?_))
  cases h1 : (h.p == 2) <;> cases h2 : (h.p == 0) <;>
  ·((refine ggb0 (F := _∧_) ⟨h1, h2⟩ ?_))
   ((repeat refine Y00 ?_); (refine wta ?_); simp (disch := omega) only [retQ, resD, oneD, rsv, rs, rsL, Y0a, List.map_map, bb, bt, zDs, zD, Y01, simprocAttr, Tryz.results121, ho, h1, h2, Bool.or_self, Bool.or_false, Bool.false_or, Bool.true_or, Bool.or_true])
 ·cases hn : (h.n == 1) <;> cases hd : (h.d == 1)
  rotate_left 3
  ·by_cases hb : h.b = ⟨#[]⟩
   ·have ho : Y0q s.bs h true = (h.p == 0) := by simp [Y0q, hn, hd, hb]
    ((refine ggb0 (F := _∧_) ⟨hn, hd⟩ ?_))
    repeat refine Y00 ?_
    refine Y02 ?_
    refine ggb0 hb ?_
    exact exx (F := _ ∧ _) ⟨Tryz.results121, ho⟩
   by_cases hf : Y1k s.bs h.b < 0
   ·have hf' : ¬ 0 ≤ Y1k s.bs h.b := by omega
    have ho : Y0q s.bs h true = false := by simp [Y0q, hb, hf']
    ((refine ggb0 (F := _∧_) ⟨hn, hd⟩ ?_))
    repeat refine Y00 ?_
    refine Y02 ?_
    ((refine ggb1 (F := _∧_) ⟨hb, hf⟩ hF ?_))
    exact exx (F := _ ∧ _) ⟨Tryz.results121, ho⟩
   have hf' : 0 ≤ Y1k s.bs h.b := by omega
   have ho : Y0q s.bs h true = (h.p == 1 || h.p == -1) := by simp [Y0q, hb, hf', hn, hd]
   ((refine ggb0 (F := _∧_) ⟨hn, hd⟩ ?_))
   repeat refine Y00 ?_
   refine Y02 ?_
   ((refine ggb1 (F := _∧_) ⟨hb, hf⟩ hF ?_))
   cases h1 : (h.p == 1) <;>
   ·refine ggb0 h1 ?_
    ((repeat refine Y00 ?_); (refine wta ?_); simp (disch := omega) only [retQ, resD, oneD, rsv, rs, rsL, Y0a, List.map_map, bb, bt, zDs, zD, Y01, simprocAttr, Tryz.results121, ho, h1, Bool.or_self, Bool.or_false, Bool.false_or, Bool.true_or, Bool.or_true])
  all_goals
   have ho : Y0q s.bs h true = false := by simp [Y0q, hn, hd]
   ((refine ggb0 (F := _∧_) ⟨hn, hd⟩ ?_))
   exact exx (F := _ ∧ _) ⟨Tryz.results121, ho⟩
set_option maxHeartbeats 2000000 in
theorem Yt9 (s : Sy) (h : Hd) (e : Bool) (hl : s.bs.length ≤ 1000000) : PRet Tryz.prog 65 [syD s, .agg (hd1 h), bool e] (bool (Y0q s.bs h e)) := by
 refine pri 1 Tryz.func65 Tryz.ntmps65 fun t => ?_
 simp only [Y04]
 have hF := Y5q s h.b hl
 have hL := Ypi h.n h.d
 have hO := Ylb 1
 cases e
 ·cases hlo : Y3h h.n h.d
  ·rw [hlo] at hL
   have ho : Y0q s.bs h false = false := by simp [Y0q, hlo]
   refine gga0 ?_
   ((repeat refine Y00 ?_); (refine Ybe hL hO ?_))
   refine gga0 ?_
   exact exx (F := _ ∧ _) ⟨Tryz.results65, ho⟩
  rw [hlo] at hL
  refine gga0 ?_
  ((repeat refine Y00 ?_); (refine Ybe hL hO ?_))
  by_cases hb : h.b = ⟨#[]⟩
  ·have ho : Y0q s.bs h false = (h.p == 0) := by simp [Y0q, hlo, hb]
   refine ggb0 hb ?_
   exact exx (F := _ ∧ _) ⟨Tryz.results65, ho⟩
  by_cases hf : Y1k s.bs h.b < 0
  ·have hf' : ¬ 0 ≤ Y1k s.bs h.b := by omega
   have ho : Y0q s.bs h false = false := by simp [Y0q, hb, hf']
   ((refine ggb1 (F := _∧_) ⟨hb, hf⟩ hF ?_))
   exact exx (F := _ ∧ _) ⟨Tryz.results65, ho⟩
  have hf' : 0 ≤ Y1k s.bs h.b := by omega
  have ho : Y0q s.bs h false = (h.p == 2 || h.p == 0 || h.p == -2) := by simp [Y0q, hb, hf', hlo]
  ((refine ggb1 (F := _∧_) ⟨hb, hf⟩ hF ?_))
  cases h1 : (h.p == 2) <;> cases h2 : (h.p == 0) <;>
  ·((refine ggb0 (F := _∧_) ⟨h1, h2⟩ ?_))
   ((repeat refine Y00 ?_); (refine wta ?_); simp (disch := omega) only [retQ, resD, oneD, rsv, rs, rsL, Y0a, List.map_map, bb, bt, zDs, zD, Y01, simprocAttr, Tryz.results65, ho, h1, h2, Bool.or_self, Bool.or_false, Bool.false_or, Bool.true_or, Bool.or_true])
 ·cases hn : (h.n == 1) <;> cases hd : (h.d == 1)
  rotate_left 3
  ·have hlo : Y3h h.n h.d = true := by
    rw [show h.n = 1 by simpa using hn, show h.d = 1 by simpa using hd]; decide
   rw [hlo] at hL
   refine gga0 ?_
   ((repeat refine Y00 ?_); (refine Ydx (F := _∧_) ⟨hn, hd⟩ hL hO ?_))
   by_cases hb : h.b = ⟨#[]⟩
   ·have ho : Y0q s.bs h true = (h.p == 0) := by simp [Y0q, hn, hd, hb]
    refine ggb0 hb ?_
    exact exx (F := _ ∧ _) ⟨Tryz.results65, ho⟩
   by_cases hf : Y1k s.bs h.b < 0
   ·have hf' : ¬ 0 ≤ Y1k s.bs h.b := by omega
    have ho : Y0q s.bs h true = false := by simp [Y0q, hb, hf']
    ((refine ggb1 (F := _∧_) ⟨hb, hf⟩ hF ?_))
    exact exx (F := _ ∧ _) ⟨Tryz.results65, ho⟩
   have hf' : 0 ≤ Y1k s.bs h.b := by omega
   have ho : Y0q s.bs h true = (h.p == 1 || h.p == -1) := by simp [Y0q, hb, hf', hn, hd]
   ((refine ggb1 (F := _∧_) ⟨hb, hf⟩ hF ?_))
   cases h1 : (h.p == 1) <;>
   ·refine ggb0 h1 ?_
    ((repeat refine Y00 ?_); (refine wta ?_); simp (disch := omega) only [retQ, resD, oneD, rsv, rs, rsL, Y0a, List.map_map, bb, bt, zDs, zD, Y01, simprocAttr, Tryz.results65, ho, h1, Bool.or_self, Bool.or_false, Bool.false_or, Bool.true_or, Bool.or_true])
  all_goals
   have ho : Y0q s.bs h true = false := by simp [Y0q, hn, hd]
   refine gga0 ?_
   ((repeat refine Y00 ?_); (refine Ydx (F := _∧_) ⟨hn, hd⟩ hL hO ?_))
   refine gga0 ?_
   exact exx (F := _ ∧ _) ⟨Tryz.results65, ho⟩
theorem Yac {bs : List Bk} {hs : List Hd} (h : ∀ j x, hs[j]? = some x → Y0q bs x (endH hs.length j) = true) : Y21 bs hs = true := by
 refine Yd1 fun k hk => ?_
 rw [List.getElem?_eq_getElem hk]
 exact h k _ (List.getElem?_eq_getElem hk)
theorem Yab {bs : List Bk} {hs : List Hd} {j : Nat} {x : Hd} (hj : hs[j]? = some x) (h : Y0q bs x (endH hs.length j) = false) : Y21 bs hs = false := by
 refine Yd0 (k := j) (List.getElem?_eq_some_iff.1 hj).1 ?_
 rw [hj]; exact h
set_option maxHeartbeats 2000000 in
theorem Yo8 (s : Sy) (r : Rp) (hl : s.bs.length ≤ 1000000) (hr : r.hs.length ≤ 1000000) : PRet Tryz.prog 83 [syD s, .agg (rp1 r)] (bool (Y1g s.bs r)) := by
 refine pri 1 Tryz.func83 Tryz.ntmps83 fun t => ?_
 simp only [Y04]
 have hla := Y3i r.hs
 have ha2 := Y4v r.hs
 have hW := Ycv r.hs.length 2 10
 by_cases hsz : 2 ≤ r.hs.length ∧ r.hs.length ≤ 10
 rotate_left 1
 ·have ho : Y1g s.bs r = false := by simp only [Y1g, hsz, decide_false, Bool.false_and]
  have hw : (decide ((2 : Int) ≤ r.hs.length) && decide ((r.hs.length : Int) ≤ 10)) = false := by
   rw [← Bool.not_eq_true, Bool.and_eq_true, decide_eq_true_eq, decide_eq_true_eq]; omega
  rw [hw] at hW
  refine ggb1 ha2 hW ?_
  exact exx (F := _ ∧ _) ⟨Tryz.results83, ho⟩
 have hw : (decide ((2 : Int) ≤ r.hs.length) && decide ((r.hs.length : Int) ≤ 10)) = true := by
  rw [Bool.and_eq_true, decide_eq_true_eq, decide_eq_true_eq]; omega
 rw [hw] at hW
 refine ggb1 ha2 hW ?_
 repeat refine Y00 ?_
 refine Y02 ?_
 refine Y05 (fun x : Nat × Nat => ⟨[(2, .ptr 0 (t + 1) 0), (3, .ptr 1 (t + 1 + 1) 0), (5, int r.hs.length), (15, hds r.hs), (16, int r.hs.length), (17, int x.1)], [some ⟨25, t + 1, [bks s.bs, rps s.rs]⟩, some ⟨30, t + 1 + 1, rp1 r⟩], x.2⟩) (fun x => r.hs.length - x.1) (fun x => x.1 ≤ r.hs.length ∧ ∀ j h, j < x.1 → r.hs[j]? = some h → Y0q s.bs h (endH r.hs.length j) = true) (0, t + 1 + 1) ⟨Nat.zero_le _, fun j h hj => absurd hj (Nat.not_lt_zero _)⟩ ele ?_
 rintro ⟨k, tt⟩ ⟨hk, hin⟩
 simp only at hk hin
 by_cases hlt : k < r.hs.length
 ·obtain ⟨h, hh⟩ : ∃ h, r.hs[k]? = some h := ⟨_, List.getElem?_eq_getElem hlt⟩
  have hra := Y4m r.hs k h hh
  have hH := Ypt s h (endH r.hs.length k) hl
  ((refine ggb0 (F := _∧_) ⟨@Int.ofNat_lt, hlt⟩ ?_))
  repeat refine Y00 ?_
  refine Y02 ?_
  have e0 : ((k : Int) == 0) = (k == 0) := by rw [Bool.eq_iff_iff]; simp
  have e1 : ((k : Int) == (r.hs.length : Int) - 1) = (k + 1 == r.hs.length) := by rw [Bool.eq_iff_iff, beq_iff_eq, beq_iff_eq]; omega
  have hend : endH r.hs.length k = (k == 0 || k + 1 == r.hs.length) := rfl
  cases hok : Y0q s.bs h (endH r.hs.length k)
  ·have ho : Y1g s.bs r = false := by simp only [Y1g, Yab hh hok, Bool.and_false, Bool.false_and]
   rw [hok] at hH
   cases h0 : (k == 0) <;> cases h1 : (k + 1 == r.hs.length) <;>
   ·rw [hend, h0, h1] at hH
    simp only [Bool.or_self, Bool.or_true, Bool.true_or] at hH
    ((refine ggb1 (F := _∧_∧_∧_∧_∧_) ⟨hlt, hra, e0, e1, h0, h1⟩ hH ?_))
    exact exx (F := _ ∧ _) ⟨Tryz.results83, ho⟩
  ·rw [hok] at hH
   cases h0 : (k == 0) <;> cases h1 : (k + 1 == r.hs.length) <;>
   ·rw [hend, h0, h1] at hH
    simp only [Bool.or_self, Bool.or_true, Bool.true_or] at hH
    ((refine ggb1 (F := _∧_∧_∧_∧_∧_) ⟨hlt, hra, e0, e1, h0, h1⟩ hH ?_))
    refine ⟨(k + 1, tt + 1), ⟨hlt, fun j x hj hx => ?_⟩, by show r.hs.length - (k + 1) < r.hs.length - k; omega, ?_⟩
    ·by_cases e : j = k
     ·subst e; rw [hh] at hx; cases hx; exact hok
     ·exact hin j x (by omega) hx
    exact ele
 ·have hke : k = r.hs.length := by omega
  subst hke
  have hall : Y21 s.bs r.hs = true := Yac fun j x hx => hin j x (List.getElem?_eq_some_iff.1 hx).1 hx
  obtain ⟨m, hm⟩ : ∃ m, r.hs.length = m + 1 := ⟨r.hs.length - 1, by omega⟩
  obtain ⟨h, hh⟩ : ∃ h, r.hs[m]? = some h := ⟨_, List.getElem?_eq_getElem (by omega)⟩
  have hlast : r.hs.getLast? = some h := by rw [List.getLast?_eq_getElem?, show r.hs.length - 1 = m by omega]; exact hh
  have ho : Y1g s.bs r = (!r.hl || decide (h.b = ⟨#[]⟩)) := by
   simp only [Y1g, hall, hsz, hlast, and_self, decide_true, Bool.true_and]
  have em : (r.hs.length : Int) - 1 = (m : Int) := by omega
  have hnm := Ydv r.hs m h hh
  have hmlt : m < r.hs.length := by omega
  cases hhl : r.hl
  ·rw [hhl] at ho
   ((refine ggb0 (F := _∧_) ⟨@Int.lt_irrefl, hhl⟩ ?_))
   ((repeat refine Y00 ?_); (refine wta ?_); simp (disch := omega) only [retQ, resD, oneD, rsv, rs, rsL, Y0a, List.map_map, bb, bt, zDs, zD, Y01, simprocAttr, Tryz.results83, ho, Bool.true_or])
  ·rw [hhl] at ho
   ((refine ggb0 (F := _∧_∧_∧_∧_) ⟨@Int.lt_irrefl, hhl, em, hmlt, hnm⟩ ?_))
   ((repeat refine Y00 ?_); (refine wta ?_); simp (disch := omega) only [retQ, resD, oneD, rsv, rs, rsL, Y0a, List.map_map, bb, bt, zDs, zD, Y01, simprocAttr, Tryz.results83, ho, Bool.false_or])
def strs (l : List ByteArray) : List D := l.flatMap fun s => [str s, bool true]
def addN (l : List ByteArray) (s : ByteArray) : List ByteArray := if l.contains s = true then l else l ++ [s]
theorem Yc3 (k : ByteArray) : ∀ l : List ByteArray, Yah (.string k) (strs l) = some (if l.contains k = true then some (.bool true) else none)
 | [] => by simp [strs, Yah]
 | s :: l => by
  have ih := Yc3 k l
  simp only [strs, List.flatMap_cons, List.cons_append, List.nil_append, Yah, Y93] at ih ⊢
  by_cases h : k = s
  ·simp [h]
  ·have h' : (k == s) = false := by simpa using h
   simp only [h, decide_false, List.contains_cons, h', Bool.false_or]
   exact ih
theorem Yfy (k : ByteArray) : ∀ l : List ByteArray, mput (.string k) (.bool true) (strs l) = strs (addN l k)
 | [] => by simp [strs, mput, addN]
 | s :: l => by
  have ih := Yfy k l
  simp only [strs, addN, List.flatMap_cons, List.cons_append, List.nil_append, mput, Y93] at ih ⊢
  by_cases h : k = s
  ·subst h; simp
  ·have h' : (k == s) = false := by simpa using h
   simp only [h, decide_false, List.contains_cons, h', Bool.false_or, Option.some.injEq, Bool.false_eq_true, if_false, ih]
   split <;> simp
theorem Ykk {H : Hp} {b g c gc t : Nat} {nm : ByteArray} {names : List ByteArray} {K : D → Hp → Nat → Prop} (hs : nm.size ≤ 1000000) (hb : H[b]? = some (some ⟨137, g, [.mp c gc]⟩)) (hc : H[c]? = some (some ⟨137, gc, strs names⟩))
    (hK : K (bool (isNm nm && !names.contains nm)) (H.set c (some ⟨137, gc, strs (addN names nm)⟩)) t) : ACall Tryz.prog 81 [str nm, .ptr b g 0] H t K := by
  refine ACall.enter tab_ok Tryz.func81 rfl rfl Tryz.ntmps81 (by simp) ?_
  simp only [Y04]
  have hN := Yca nm hs
  have h1 := Yc3 nm names
  have h2 := Yfy nm names
  have hcl : c < H.length := (List.getElem?_eq_some_iff.1 hc).1
  cases hn : isNm nm
  · rw [hn] at hN
    rw [hn] at hK
    ((refine ggb1 (F := _∧_∧_∧_) ⟨hb, hc, h1, h2⟩ hN ?_))
    ((repeat refine Y00 ?_); (refine wta ?_); simp (disch := omega) only [retQ, resD, oneD, bb, bt, zDs, zD, Y01, simprocAttr, Tryz.results81])
    exact hK
  · rw [hn] at hN
    rw [hn] at hK
    cases hin : names.contains nm
    · rw [hin] at h1 hK
      simp only [Bool.false_eq_true, if_false] at h1
      ((refine ggb1 (F := _∧_∧_∧_∧_) ⟨hb, hc, h1, h2, @Option.isSome_none.{0}⟩ hN ?_))
      ((repeat refine Y00 ?_); (refine wta ?_); simp (disch := omega) only [retQ, resD, oneD, bb, bt, zDs, zD, Y01, simprocAttr, Tryz.results81])
      exact hK
    · rw [hin] at h1 hK
      simp only [if_true] at h1
      ((refine ggb1 (F := _∧_∧_∧_∧_) ⟨hb, hc, h1, h2, @Option.isSome_some.{0}⟩ hN ?_))
      ((repeat refine Y00 ?_); (refine wta ?_); simp (disch := omega) only [retQ, resD, oneD, bb, bt, zDs, zD, Y01, simprocAttr, Tryz.results81])
      exact hK
structure Fits (s : Sy) : Prop where
 nb : s.bs.length ≤ 1000000
 nr : s.rs.length ≤ 1000000
 sb : ∀ b ∈ s.bs, b.nm.size ≤ 1000000
 sr : ∀ r ∈ s.rs, r.nm.size ≤ 1000000 ∧ r.hs.length ≤ 1000000
theorem Yfw {bs : List Bk} {k : Nat} {b : Bk} (h : bs[k]? = some b) : okB bs k = (isNm b.nm && !(Y0l (bs.take k)).contains b.nm && decide (0 ≤ b.w ∧ b.w ≤ 16777216)) := by unfold okB; rw [h]
theorem Yft {s : Sy} {k : Nat} {r : Rp} (h : s.rs[k]? = some r) : okR s k = (isNm r.nm && !(Y0l s.bs ++ Y18 (s.rs.take k)).contains r.nm && Y1g s.bs r) := by unfold okR; rw [h]
theorem Yis {bs : List Bk} {k : Nat} {b : Bk} (h : bs[k]? = some b) : Y0l (bs.take (k + 1)) = Y0l (bs.take k) ++ [b.nm] := by
 unfold Y0l; rw [List.take_add_one, h]; simp
theorem Yhh {rs : List Rp} {k : Nat} {r : Rp} (h : rs[k]? = some r) : Y18 (rs.take (k + 1)) = Y18 (rs.take k) ++ [r.nm] := by
 unfold Y18; rw [List.take_add_one, h]; simp
theorem Ycb {rs : List Rp} {k : Nat} {r : Rp} (h : rs[k]? = some r) : Y3v (rs.take (k + 1)) = Y3v (rs.take k) + (if r.hl = true then 1 else 0) := by
 unfold Y3v; rw [List.take_add_one, h, List.filter_append, List.length_append]
 cases hh : r.hl <;> simp [hh]
theorem Yjt (rs : List Rp) : Y3v rs ≤ rs.length := List.length_filter_le _ _
theorem Y3d {s : Sy} (h : Y4f s = false) : Y0g s = false := by simp [Y0g, h]
theorem Y63 {s : Sy} {k : Nat} (hk : k < s.bs.length) (h : okB s.bs k = false) : Y0g s = false := by simp [Y0g, Yd0 hk h]
theorem Y62 {s : Sy} {k : Nat} (hk : k < s.rs.length) (h : okR s k = false) : Y0g s = false := by simp [Y0g, Yd0 hk h]
theorem Ybm {s : Sy} (h : Y4f s = true) (hb : ∀ j, j < s.bs.length → okB s.bs j = true) (hr : ∀ j, j < s.rs.length → okR s j = true) : Y0g s = decide (Y3v s.rs ≤ 1) := by
 simp [Y0g, h, Yd1 hb, Yd1 hr]
set_option maxHeartbeats 4000000 in
theorem Y43 (s : Sy) (hf : Fits s) : PRet Tryz.prog 57 [syD s] (bool (Y0g s)) := by
 refine pri 1 Tryz.func57 Tryz.ntmps57 fun t => ?_
 simp only [Y04]
 obtain ⟨nb, nr, sb, sr⟩ := hf
 have hlb := Y1z s.bs
 have hlr := Y28 s.rs
 have hdb := Y2p s.bs
 have hdr := Y1q s.rs
 have hw1 := Ycv s.bs.length 1 6
 have hw2 := Ycv s.rs.length 1 6
 by_cases c1 : 1 ≤ s.bs.length ∧ s.bs.length ≤ 6
 rotate_left 1
 ·have ho : Y0g s = false := Y3d (by simp [Y4f, c1])
  have hw : (decide ((1 : Int) ≤ s.bs.length) && decide ((s.bs.length : Int) ≤ 6)) = false := by
   rw [← Bool.not_eq_true, Bool.and_eq_true, decide_eq_true_eq, decide_eq_true_eq]; omega
  rw [hw] at hw1
  ((refine ggb1 (F := _∧_) ⟨hdb, hdr⟩ hw1 ?_))
  exact exx (F := _ ∧ _) ⟨Tryz.results57, ho⟩
 have hwa : (decide ((1 : Int) ≤ s.bs.length) && decide ((s.bs.length : Int) ≤ 6)) = true := by
  rw [Bool.and_eq_true, decide_eq_true_eq, decide_eq_true_eq]; omega
 rw [hwa] at hw1
 by_cases c2 : 1 ≤ s.rs.length ∧ s.rs.length ≤ 6
 rotate_left 1
 ·have ho : Y0g s = false := Y3d (by simp [Y4f, c2])
  have hw : (decide ((1 : Int) ≤ s.rs.length) && decide ((s.rs.length : Int) ≤ 6)) = false := by
   rw [← Bool.not_eq_true, Bool.and_eq_true, decide_eq_true_eq, decide_eq_true_eq]; omega
  rw [hw] at hw2
  ((refine ggb2 (F := _∧_) ⟨hdb, hdr⟩ hw1 hw2 ?_))
  exact exx (F := _ ∧ _) ⟨Tryz.results57, ho⟩
 have hwb : (decide ((1 : Int) ≤ s.rs.length) && decide ((s.rs.length : Int) ≤ 6)) = true := by
  rw [Bool.and_eq_true, decide_eq_true_eq, decide_eq_true_eq]; omega
 rw [hwb] at hw2
 have hsz : Y4f s = true := by simp [Y4f, c1, c2]
 ((refine ggb2 (F := _∧_) ⟨hdb, hdr⟩ hw1 hw2 ?_))
 clear hw1 hw2
 repeat refine Y00 ?_
 refine Y0i (fun x : Nat => ⟨[(1, .ptr 0 (t + 1) 0), (4, .fn 81 [.ptr 2 (t + 1 + 1 + 1) 0])], [some ⟨25, t + 1, [bks s.bs, rps s.rs]⟩, some ⟨137, t + 1 + 1, strs (Y0l s.bs)⟩, some ⟨137, t + 1 + 1 + 1, [.mp 1 (t + 1 + 1)]⟩], x⟩) (fun _ => ∀ j, j < s.bs.length → okB s.bs j = true) ?_ ?_
 ·refine Y02 ?_
  refine Y05 (fun x : Nat × Nat => ⟨[(1, .ptr 0 (t + 1) 0), (4, .fn 81 [.ptr 2 (t + 1 + 1 + 1) 0]), (25, bks s.bs), (26, int s.bs.length), (27, int x.1)], [some ⟨25, t + 1, [bks s.bs, rps s.rs]⟩, some ⟨137, t + 1 + 1, strs (Y0l (s.bs.take x.1))⟩, some ⟨137, t + 1 + 1 + 1, [.mp 1 (t + 1 + 1)]⟩], x.2⟩) (fun x => s.bs.length - x.1) (fun x => x.1 ≤ s.bs.length ∧ ∀ j, j < x.1 → okB s.bs j = true) (0, t + 1 + 1 + 1) ⟨Nat.zero_le _, fun j hj => absurd hj (Nat.not_lt_zero _)⟩ (by (simp (disch := omega) only [StLe, tmLe, Y0b, hpLe, bl, bb, bt, zDs, zD, Y01, simprocAttr, strs, Y0l])) ?_
  rintro ⟨k, tt⟩ ⟨hk, hin⟩
  simp only at hk hin
  by_cases hlt : k < s.bs.length
  ·obtain ⟨b, hb⟩ : ∃ y, s.bs[k]? = some y := ⟨_, List.getElem?_eq_getElem hlt⟩
   have hra := Y4r s.bs k b hb
   have hat := Yfw hb
   have hst := Yis hb
   have hwt := Ycv b.w 0 16777216
   have hdw : decide (0 ≤ b.w ∧ b.w ≤ 16777216) = (decide (0 ≤ b.w) && decide (b.w ≤ 16777216)) := by rw [Bool.eq_iff_iff]; simp
   ((refine ggb0 (F := _∧_) ⟨@Int.ofNat_lt, hlt⟩ ?_))
   repeat refine Y00 ?_
   refine Y02 ?_
   ((refine ggb0 (F := _∧_) ⟨hlt, hra⟩ ?_))
   ((try with_reducible intro KR hKR); (first | refine Y0f fun KK hKK => ?_ | refine Y08 rfl fun KK hKK => ?_); simp (disch := omega) only [bb, bt, zDs, zD, Y01, simprocAttr, goC, Y0e, Y0m, and_self])
   refine Ykk (names := Y0l (s.bs.take k)) (sb b (List.mem_of_getElem? hb)) rfl rfl ?_
   cases hnm : (isNm b.nm && !(Y0l (s.bs.take k)).contains b.nm)
   ·have ho : Y0g s = false := Y63 hlt (by rw [hat, hnm, Bool.false_and])
    (simp (disch := omega) only [bb, bt, zDs, zD, Y01, simprocAttr, Y0n]; refine hKK _ ?_; clear hKK KK)
    refine gga0 ?_
    exact exx (F := _ ∧ _) ⟨Tryz.results57, ho⟩
   ·cases hw : (decide (0 ≤ b.w) && decide (b.w ≤ 16777216))
    ·have ho : Y0g s = false := Y63 hlt (by rw [hat, hnm, hdw, hw]; rfl)
     rw [hw] at hwt
     (simp (disch := omega) only [bb, bt, zDs, zD, Y01, simprocAttr, Y0n]; refine hKK _ ?_; clear hKK KK)
     refine gga1 hwt ?_
     exact exx (F := _ ∧ _) ⟨Tryz.results57, ho⟩
    ·rw [hw] at hwt
     have hcon : (Y0l (s.bs.take k)).contains b.nm = false := by
      rw [Bool.and_eq_true, Bool.not_eq_true'] at hnm; exact hnm.2
     have hadd : addN (Y0l (s.bs.take k)) b.nm = Y0l (s.bs.take (k + 1)) := by
      unfold addN; rw [hcon, hst]; simp
     (simp (disch := omega) only [bb, bt, zDs, zD, Y01, simprocAttr, Y0n]; refine hKK _ ?_; clear hKK KK)
     refine ggb1 hadd hwt ?_
     refine ⟨(k + 1, tt + 1), ⟨hlt, fun j hj => ?_⟩, by show s.bs.length - (k + 1) < s.bs.length - k; omega, ?_⟩
     ·by_cases e : j = k
      ·subst e; rw [hat, hnm, hdw, hw]; rfl
      ·exact hin j (by omega)
     simp only [hadd]
     exact ele
  ·have hke : k = s.bs.length := by omega
   subst hke
   rw [List.take_length]
   refine ggb0 @Int.lt_irrefl ?_
   exact ⟨tt, hin, ele⟩
 rintro t2 hbs
 refine ggb0 hdr ?_
 repeat refine Y00 ?_
 refine Y0i (fun x : Nat => ⟨[(7, int (Y3v s.rs))], [], x⟩) (fun _ => ∀ j, j < s.rs.length → okR s j = true) ?_ ?_
 ·refine Y02 ?_
  refine Y05 (fun x : Nat × Nat => ⟨[(1, .ptr 0 (t + 1) 0), (4, .fn 81 [.ptr 2 (t + 1 + 1 + 1) 0]), (7, int (Y3v (s.rs.take x.1))), (44, rps s.rs), (45, int s.rs.length), (46, int x.1)], [some ⟨25, t + 1, [bks s.bs, rps s.rs]⟩, some ⟨137, t + 1 + 1, strs (Y0l s.bs ++ Y18 (s.rs.take x.1))⟩, some ⟨137, t + 1 + 1 + 1, [.mp 1 (t + 1 + 1)]⟩], x.2⟩) (fun x => s.rs.length - x.1) (fun x => x.1 ≤ s.rs.length ∧ ∀ j, j < x.1 → okR s j = true) (0, t2) ⟨Nat.zero_le _, fun j hj => absurd hj (Nat.not_lt_zero _)⟩ (by (simp (disch := omega) only [StLe, tmLe, Y0b, hpLe, bl, bb, bt, zDs, zD, Y01, simprocAttr, Y18, List.append_nil, Y3v, List.filter_nil])) ?_
  rintro ⟨k, tt⟩ ⟨hk, hin⟩
  simp only at hk hin
  by_cases hlt : k < s.rs.length
  ·obtain ⟨r, hr⟩ : ∃ y, s.rs[k]? = some y := ⟨_, List.getElem?_eq_getElem hlt⟩
   have hra := Y2z s.rs k r hr
   have hat := Yft hr
   have hst := Yhh hr
   have hsh := Ycb hr
   have hhl := Yjt (s.rs.take k)
   rw [List.length_take] at hhl
   obtain ⟨sr1, sr2⟩ := sr r (List.mem_of_getElem? hr)
   have hrp := Yo8 s r nb sr2
   ((refine ggb0 (F := _∧_) ⟨@Int.ofNat_lt, hlt⟩ ?_))
   repeat refine Y00 ?_
   refine Y02 ?_
   ((refine ggb0 (F := _∧_) ⟨hlt, hra⟩ ?_))
   ((try with_reducible intro KR hKR); (first | refine Y0f fun KK hKK => ?_ | refine Y08 rfl fun KK hKK => ?_); simp (disch := omega) only [bb, bt, zDs, zD, Y01, simprocAttr, goC, Y0e, Y0m, and_self])
   refine Ykk (names := Y0l s.bs ++ Y18 (s.rs.take k)) sr1 rfl rfl ?_
   cases hnm : (isNm r.nm && !(Y0l s.bs ++ Y18 (s.rs.take k)).contains r.nm)
   ·have ho : Y0g s = false := Y62 hlt (by rw [hat, hnm, Bool.false_and])
    (simp (disch := omega) only [bb, bt, zDs, zD, Y01, simprocAttr, Y0n]; refine hKK _ ?_; clear hKK KK)
    refine gga0 ?_
    exact exx (F := _ ∧ _) ⟨Tryz.results57, ho⟩
   ·cases hw : Y1g s.bs r
    ·have ho : Y0g s = false := Y62 hlt (by rw [hat, hnm, hw]; rfl)
     rw [hw] at hrp
     (simp (disch := omega) only [bb, bt, zDs, zD, Y01, simprocAttr, Y0n]; refine hKK _ ?_; clear hKK KK)
     refine gga1 hrp ?_
     exact exx (F := _ ∧ _) ⟨Tryz.results57, ho⟩
    ·rw [hw] at hrp
     have hcon : (Y0l s.bs ++ Y18 (s.rs.take k)).contains r.nm = false := by
      rw [Bool.and_eq_true, Bool.not_eq_true'] at hnm; exact hnm.2
     have hadd : addN (Y0l s.bs ++ Y18 (s.rs.take k)) r.nm = Y0l s.bs ++ Y18 (s.rs.take (k + 1)) := by
      unfold addN; rw [hcon, hst]; simp
     (simp (disch := omega) only [bb, bt, zDs, zD, Y01, simprocAttr, Y0n]; refine hKK _ ?_; clear hKK KK)
     refine ggb1 hadd hrp ?_
     cases hh : r.hl
     ·rw [hh] at hsh
      simp only [Bool.false_eq_true, if_false, Nat.add_zero] at hsh
      refine gga0 ?_
      refine ⟨(k + 1, tt + 1), ⟨hlt, fun j hj => ?_⟩, by show s.rs.length - (k + 1) < s.rs.length - k; omega, ?_⟩
      ·by_cases e : j = k
       ·subst e; rw [hat, hnm, hw]; rfl
       ·exact hin j (by omega)
      simp only [hadd, hsh]
      exact ele
     ·rw [hh] at hsh
      simp only [if_true] at hsh
      refine gga0 ?_
      refine ⟨(k + 1, tt + 1), ⟨hlt, fun j hj => ?_⟩, by show s.rs.length - (k + 1) < s.rs.length - k; omega, ?_⟩
      ·by_cases e : j = k
       ·subst e; rw [hat, hnm, hw]; rfl
       ·exact hin j (by omega)
      simp only [hadd, hsh]
      exact ele
  ·have hke : k = s.rs.length := by omega
   subst hke
   rw [List.take_length]
   refine ggb0 @Int.lt_irrefl ?_
   exact ⟨tt, hin, ele⟩
 rintro t3 hrs
 have ho := Ybm hsz hbs hrs
 have he : decide ((Y3v s.rs : Int) ≤ 1) = decide (Y3v s.rs ≤ 1) := by rw [decide_eq_decide]; omega
 refine ggb0 he ?_
 exact exx (F := _ ∧ _) ⟨Tryz.results57, ho⟩
end Go.Proofs.YtpbpafmgkdihlaaGreatDoor.T
