import Derived.Test.YtpcakodemleoiaaGreatHSFJ
import Derived.Test.YtpcakodemleoiaaGreatHSHJ
import Derived.Test.YtpcakodemleoiaaGreatHLSJ
import Derived.Test.YtpcakodemleoiaaGreatHLHF
import Derived.Test.YtpcakodemleoiaaGreatHWRS
set_option linter.all false
section
namespace Go.Proofs.YtpcakodemleoiaaGreat.T
open Go Go.RowKit Lin
theorem Y7f (l : List (Int × Int)) : tidyL (frC l) = true := Y2n fun d hd => by
 obtain ⟨x, _, hx⟩ := List.mem_flatMap.1 hd
 simp only [List.mem_cons, List.not_mem_nil, or_false] at hx
 rcases hx with rfl | rfl <;> rfl
def hix (s : Sy) : Int := idx (fun r : Rp => r.hl) s.rs 0
theorem Y80 {s : Sy} (h : ¬ hix s < 0) : ∃ (i : Nat) (r : Rp), hix s = i ∧ s.rs[i]? = some r ∧ r.hl = true := by
 obtain ⟨h1, h2⟩ := Y6l (fun r : Rp => r.hl) s.rs 0
 cases ha : s.rs.any (fun r : Rp => r.hl)
 ·unfold hix at h; rw [h2 ha] at h; omega
 ·obtain ⟨i, x, e, hi, hx⟩ := h1 ha
  exact ⟨i, x, by unfold hix; rw [e, Nat.zero_add], hi, hx⟩
theorem Ycr (s : Sy) (hl : s.rs.length ≤ 1000000) : PRet Tryz.prog 29 [syD s] (int (hix s)) := by
 refine PRet.intro 1 fun t => ACall.enter tab_ok Tryz.func29 rfl rfl Tryz.ntmps29 (by simp) ?_
 simp only [Y06]
 have hla := Y23 s.rs
 have ha2 := Y1l s.rs
 ((refine gga0 ?_))
 ((repeat refine Y01 ?_))
 refine Y04 ?_
 refine Y07 (fun k : Nat => ⟨[(1, .ptr 0 (t + 1) 0), (3, int k)], [some ⟨25, t + 1, [bks s.bs, rps s.rs]⟩], t + 1⟩) (fun k => s.rs.length - k) (fun k => k ≤ s.rs.length ∧ hix s = idx (fun r : Rp => r.hl) (s.rs.drop k) k) 0 ⟨Nat.zero_le _, rfl⟩ (by (simp (disch := omega) only [StLe, tmLe, Y03, hpLe, bl, bb, bt, zDs, zD, Y00, simprocAttr])) fun k ⟨hk, hi⟩ => ?_
 by_cases hlt : k < s.rs.length
 ·obtain ⟨x, hx⟩ : ∃ x, s.rs[k]? = some x := ⟨_, List.getElem?_eq_getElem hlt⟩
  have hd : s.rs.drop k = x :: s.rs.drop (k + 1) := by
   obtain ⟨h1, h2⟩ := List.getElem?_eq_some_iff.1 hx
   rw [List.drop_eq_getElem_cons h1, h2]
  rw [hd] at hi
  have hra : (rpC s.rs)[k * 3 + 2]? = some (bool x.hl) := Y4c s.rs k x hx 2 (by decide)
  ((refine ggb0 (F := _∧_∧_) ⟨@Int.ofNat_lt, hlt, ha2⟩ ?_))
  ((repeat refine Y01 ?_))
  refine Y04 ?_
  cases hpx : x.hl
  ·rw [hpx] at hra
   ((refine ggb0 (F := _∧_∧_) ⟨ha2, hlt, hra⟩ ?_))
   refine ⟨k + 1, ⟨hlt, by rw [hi]; simp [idx, hpx]⟩, by omega, ?_⟩
   (simp (disch := omega) only [StLe, tmLe, Y03, hpLe, bl, bb, bt, zDs, zD, Y00, simprocAttr])
  ·rw [hpx] at hra
   ((refine ggb0 (F := _∧_∧_) ⟨ha2, hlt, hra⟩ ?_))
   ((repeat refine Y01 ?_); (refine wta ?_); simp (disch := omega) only [retQ, resD, oneD, rsv, rs, rsL, Y02, List.map_map, bb, bt, zDs, zD, Y00, simprocAttr, Tryz.results29, hi, idx, hpx, if_pos])
 ·((refine ggb0 (F := _∧_∧_) ⟨@Int.ofNat_lt, hlt, ha2⟩ ?_))
  ((repeat refine Y01 ?_); (refine wta ?_); simp (disch := omega) only [retQ, resD, oneD, rsv, rs, rsL, Y02, List.map_map, bb, bt, zDs, zD, Y00, simprocAttr, Tryz.results29, hi])
  rw [List.drop_eq_nil_of_le (by omega)]; rfl
end Go.Proofs.YtpcakodemleoiaaGreat.T
end
section
namespace Go.Proofs.YtpcakodemleoiaaGreat.T
open Go Go.RowKit Lin
def Yez (l : List Hd) : Bool := l.all fun h => decide (h.b.size ≤ 60)
def Y5b (r : Rp) : Bool := decide (r.nm.size ≤ 60) && decide (r.hs.length ≤ 13) && Yez r.hs
def Y7h (b : Bk) : Bool := decide (b.nm.size ≤ 60)
def Y2z (s : Sy) : Bool := decide (s.bs.length ≤ 9 ∧ s.rs.length ≤ 9) && s.bs.all Y7h && s.rs.all Y5b
theorem Ycx {α : Type} {p : α → Bool} {l : List α} {k : Nat} {x : α} (hx : l[k]? = some x) (h : p x = false) : l.all p = false := by
 rw [← Bool.not_eq_true, List.all_eq_true]
 intro hh
 rw [hh x (List.mem_of_getElem? hx)] at h
 cases h
theorem Y6e {α : Type} {p : α → Bool} {l : List α} (h : ∀ (k : Nat) (x : α), l[k]? = some x → p x = true) : l.all p = true := List.all_eq_true.2 fun x hx => by
 obtain ⟨i, hi⟩ := List.mem_iff_getElem?.1 hx
 exact h i x hi
theorem Y8y {s : Sy} (h : Y2z s = true) : Fits s := by
 simp only [Y2z, Bool.and_eq_true, decide_eq_true_eq, List.all_eq_true] at h
 obtain ⟨⟨⟨h1, h2⟩, h3⟩, h4⟩ := h
 refine ⟨by omega, by omega, fun b hb => ?_, fun r hr => ?_⟩
 ·have := h3 b hb
  simp only [Y7h, decide_eq_true_eq] at this
  omega
 ·have := h4 r hr
  simp only [Y5b, Bool.and_eq_true, decide_eq_true_eq] at this
  omega
set_option maxHeartbeats 2000000 in
theorem small_ref (s : Sy) : PRet Tryz.prog 19 [syD s] (bool (Y2z s)) := by
 refine PRet.intro 1 fun t => ACall.enter tab_ok Tryz.func19 rfl rfl Tryz.ntmps19 (by simp) ?_
 simp only [Y06]
 have hlb := Y2w s.bs
 have hdb := Y2k s.bs
 have hlr := Y23 s.rs
 have hdr := Y1l s.rs
 by_cases a1 : 9 < (s.bs.length : Int)
 ·have ho : Y2z s = false := by
   have : ¬ (s.bs.length ≤ 9 ∧ s.rs.length ≤ 9) := by omega
   simp only [Y2z, this, decide_false, Bool.false_and]
  ((refine ggb0 (F := _∧_) ⟨hdb, a1⟩ ?_))
  ((repeat refine Y01 ?_); (refine wta ?_); simp (disch := omega) only [retQ, resD, oneD, rsv, rs, rsL, Y02, List.map_map, bb, bt, zDs, zD, Y00, simprocAttr, Tryz.results19, ho])
 by_cases a2 : 9 < (s.rs.length : Int)
 ·have ho : Y2z s = false := by
   have : ¬ (s.bs.length ≤ 9 ∧ s.rs.length ≤ 9) := by omega
   simp only [Y2z, this, decide_false, Bool.false_and]
  ((refine ggb0 (F := _∧_∧_∧_) ⟨hdb, hdr, a1, a2⟩ ?_))
  ((repeat refine Y01 ?_); (refine wta ?_); simp (disch := omega) only [retQ, resD, oneD, rsv, rs, rsL, Y02, List.map_map, bb, bt, zDs, zD, Y00, simprocAttr, Tryz.results19, ho])
 ((refine ggb0 (F := _∧_∧_∧_) ⟨hdb, hdr, a1, a2⟩ ?_))
 ((repeat refine Y01 ?_))
 refine Y0j (fun _ : Unit => ⟨[(1, .ptr 0 (t + 1) 0)], [some ⟨25, t + 1, [bks s.bs, rps s.rs]⟩], t + 1⟩) (fun _ => s.bs.all Y7h = true) ?_ ?_
 ·refine Y04 ?_
  refine Y07 (fun k : Nat => ⟨[(1, .ptr 0 (t + 1) 0), (3, int k)], [some ⟨25, t + 1, [bks s.bs, rps s.rs]⟩], t + 1⟩) (fun k => s.bs.length - k) (fun k => k ≤ s.bs.length ∧ ∀ j x, j < k → s.bs[j]? = some x → Y7h x = true) 0 ⟨Nat.zero_le _, fun j x hj => absurd hj (Nat.not_lt_zero _)⟩ (by (simp (disch := omega) only [StLe, tmLe, Y03, hpLe, bl, bb, bt, zDs, zD, Y00, simprocAttr])) fun k ⟨hk, hin⟩ => ?_
  by_cases hlt : k < s.bs.length
  ·obtain ⟨b, hb⟩ : ∃ y, s.bs[k]? = some y := ⟨_, List.getElem?_eq_getElem hlt⟩
   have hnm := Y75 s.bs k b hb
   ((refine ggb0 (F := _∧_∧_) ⟨@Int.ofNat_lt, hlt, hdb⟩ ?_))
   ((repeat refine Y01 ?_))
   refine Y04 ?_
   by_cases hz : 60 < (b.nm.size : Int)
   ·have ho : Y2z s = false := by
     have : Y7h b = false := by simp only [Y7h, decide_eq_false_iff_not]; omega
     simp only [Y2z, Ycx hb this, Bool.and_false, Bool.false_and]
    ((refine ggb0 (F := _∧_∧_∧_) ⟨hdb, hlt, hnm, hz⟩ ?_))
    ((repeat refine Y01 ?_); (refine wta ?_); simp (disch := omega) only [retQ, resD, oneD, rsv, rs, rsL, Y02, List.map_map, bb, bt, zDs, zD, Y00, simprocAttr, Tryz.results19, ho])
   ·((refine ggb0 (F := _∧_∧_∧_) ⟨hdb, hlt, hnm, hz⟩ ?_))
    refine ⟨k + 1, ⟨hlt, fun j x hj hx => ?_⟩, by omega, ?_⟩
    ·by_cases e : j = k
     ·subst e; rw [hb] at hx; cases hx; simp only [Y7h, decide_eq_true_eq]; omega
     ·exact hin j x (by omega) hx
    (simp (disch := omega) only [StLe, tmLe, Y03, hpLe, bl, bb, bt, zDs, zD, Y00, simprocAttr])
  ·have hke : k = s.bs.length := by omega
   subst hke
   ((refine ggb0 (F := _∧_) ⟨@Int.lt_irrefl, hdb⟩ ?_))
   exact ⟨(), Y6e fun j x hx => hin j x (List.getElem?_eq_some_iff.1 hx).1 hx, by (simp (disch := omega) only [StLe, tmLe, Y03, hpLe, bl, bb, bt, zDs, zD, Y00, simprocAttr])⟩
 rintro - hbs
 ((refine gga0 ?_))
 ((repeat refine Y01 ?_))
 refine Y0j (fun _ : Unit => ⟨[], [], t + 1⟩) (fun _ => s.rs.all Y5b = true) ?_ ?_
 ·refine Y04 ?_
  refine Y07 (fun k : Nat => ⟨[(1, .ptr 0 (t + 1) 0), (4, int k)], [some ⟨25, t + 1, [bks s.bs, rps s.rs]⟩], t + 1⟩) (fun k => s.rs.length - k) (fun k => k ≤ s.rs.length ∧ ∀ j x, j < k → s.rs[j]? = some x → Y5b x = true) 0 ⟨Nat.zero_le _, fun j x hj => absurd hj (Nat.not_lt_zero _)⟩ (by (simp (disch := omega) only [StLe, tmLe, Y03, hpLe, bl, bb, bt, zDs, zD, Y00, simprocAttr])) fun k ⟨hk, hin⟩ => ?_
  by_cases hlt : k < s.rs.length
  ·obtain ⟨r, hr⟩ : ∃ y, s.rs[k]? = some y := ⟨_, List.getElem?_eq_getElem hlt⟩
   have hnm := Ydg s.rs k r hr
   have hhs : (rpC s.rs)[k * 3 + 1]? = some (hds r.hs) := Y4c s.rs k r hr 1 (by decide)
   have hdh := Y2a r.hs
   have hlh := Y29 r.hs
   ((refine ggb0 (F := _∧_∧_) ⟨@Int.ofNat_lt, hlt, hdr⟩ ?_))
   ((repeat refine Y01 ?_))
   refine Y04 ?_
   have hno : Y5b r = false → Y2z s = false := fun h => by simp only [Y2z, Ycx hr h, Bool.and_false]
   by_cases hz : 60 < (r.nm.size : Int)
   ·have ho := hno (by
     have : ¬ r.nm.size ≤ 60 := by omega
     simp only [Y5b, this, decide_false, Bool.false_and])
    ((refine ggb0 (F := _∧_∧_∧_) ⟨hdr, hlt, hnm, hz⟩ ?_))
    ((repeat refine Y01 ?_); (refine wta ?_); simp (disch := omega) only [retQ, resD, oneD, rsv, rs, rsL, Y02, List.map_map, bb, bt, zDs, zD, Y00, simprocAttr, Tryz.results19, ho])
   by_cases hz2 : 13 < (r.hs.length : Int)
   ·have ho := hno (by
     have : ¬ r.hs.length ≤ 13 := by omega
     simp only [Y5b, this, decide_false, Bool.false_and, Bool.and_false])
    ((refine ggb0 (F := _∧_∧_∧_∧_∧_∧_) ⟨hdr, hlt, hnm, hz, hhs, hdh, hz2⟩ ?_))
    ((repeat refine Y01 ?_); (refine wta ?_); simp (disch := omega) only [retQ, resD, oneD, rsv, rs, rsL, Y02, List.map_map, bb, bt, zDs, zD, Y00, simprocAttr, Tryz.results19, ho])
   ((refine ggb0 (F := _∧_∧_∧_∧_∧_∧_) ⟨hdr, hlt, hnm, hz, hhs, hdh, hz2⟩ ?_))
   ·((repeat refine Y01 ?_))
    refine Y04 ?_
    refine Y07 (fun i : Nat => ⟨[(1, .ptr 0 (t + 1) 0), (4, int k), (5, int i)], [some ⟨25, t + 1, [bks s.bs, rps s.rs]⟩], t + 1⟩) (fun i => r.hs.length - i) (fun i => i ≤ r.hs.length ∧ ∀ j x, j < i → r.hs[j]? = some x → decide (x.b.size ≤ 60) = true) 0 ⟨Nat.zero_le _, fun j x hj => absurd hj (Nat.not_lt_zero _)⟩ (by (simp (disch := omega) only [StLe, tmLe, Y03, hpLe, bl, bb, bt, zDs, zD, Y00, simprocAttr])) fun i ⟨hi, hjn⟩ => ?_
    by_cases hli : i < r.hs.length
    ·obtain ⟨h, hh⟩ : ∃ y, r.hs[i]? = some y := ⟨_, List.getElem?_eq_getElem hli⟩
     have hhn := Y70 r.hs i h hh
     ((refine ggb0 (F := _∧_∧_∧_∧_∧_) ⟨@Int.ofNat_lt, hli, hdr, hlt, hhs, hdh⟩ ?_))
     ((repeat refine Y01 ?_))
     refine Y04 ?_
     by_cases hz3 : 60 < (h.b.size : Int)
     ·have ho := hno (by
       have : decide (h.b.size ≤ 60) = false := by simp only [decide_eq_false_iff_not]; omega
       simp only [Y5b, Yez, Ycx (p := fun h : Hd => decide (h.b.size ≤ 60)) hh this, Bool.and_false])
      ((refine ggb0 (F := _∧_∧_∧_∧_∧_∧_) ⟨hdr, hlt, hhs, hdh, hli, hhn, hz3⟩ ?_))
      ((repeat refine Y01 ?_); (refine wta ?_); simp (disch := omega) only [retQ, resD, oneD, rsv, rs, rsL, Y02, List.map_map, bb, bt, zDs, zD, Y00, simprocAttr, Tryz.results19, ho])
     ·((refine ggb0 (F := _∧_∧_∧_∧_∧_∧_) ⟨hdr, hlt, hhs, hdh, hli, hhn, hz3⟩ ?_))
      refine ⟨i + 1, ⟨hli, fun j x hj hx => ?_⟩, by omega, ?_⟩
      ·by_cases e : j = i
       ·subst e; rw [hh] at hx; cases hx; simp only [decide_eq_true_eq]; omega
       ·exact hjn j x (by omega) hx
      (simp (disch := omega) only [StLe, tmLe, Y03, hpLe, bl, bb, bt, zDs, zD, Y00, simprocAttr])
    ·have hie : i = r.hs.length := by omega
     subst hie
     ((refine ggb0 (F := _∧_∧_∧_∧_) ⟨@Int.lt_irrefl, hdr, hlt, hhs, hdh⟩ ?_))
     have hall : Yez r.hs = true := Y6e fun j x hx => hjn j x (List.getElem?_eq_some_iff.1 hx).1 hx
     refine ⟨k + 1, ⟨hlt, fun j x hj hx => ?_⟩, by omega, ?_⟩
     ·by_cases e : j = k
      ·subst e; rw [hr] at hx; cases hx
       have h1 : r.nm.size ≤ 60 := by omega
       have h2 : r.hs.length ≤ 13 := by omega
       simp only [Y5b, h1, h2, hall, decide_true, Bool.and_self]
      ·exact hin j x (by omega) hx
     (simp (disch := omega) only [StLe, tmLe, Y03, hpLe, bl, bb, bt, zDs, zD, Y00, simprocAttr])
  ·have hke : k = s.rs.length := by omega
   subst hke
   ((refine ggb0 (F := _∧_) ⟨@Int.lt_irrefl, hdr⟩ ?_))
   exact ⟨(), Y6e fun j x hx => hin j x (List.getElem?_eq_some_iff.1 hx).1 hx, by (simp (disch := omega) only [StLe, tmLe, Y03, hpLe, bl, bb, bt, zDs, zD, Y00, simprocAttr])⟩
 rintro - hrs
 have ho : Y2z s = true := by
  have : s.bs.length ≤ 9 ∧ s.rs.length ≤ 9 := by omega
  simp only [Y2z, this, hbs, hrs, and_self, decide_true, Bool.and_self]
 ((refine gga0 ?_))
 ((repeat refine Y01 ?_); (refine wta ?_); simp (disch := omega) only [retQ, resD, oneD, rsv, rs, rsL, Y02, List.map_map, bb, bt, zDs, zD, Y00, simprocAttr, Tryz.results19, ho])
end Go.Proofs.YtpcakodemleoiaaGreat.T
end
section
namespace Go.Proofs.YtpcakodemleoiaaGreat.T
open Go Go.RowKit Lin
def hB : ByteArray := ⟨#[98]⟩
def hR : ByteArray := ⟨#[114]⟩
def hE : ByteArray := ⟨#[]⟩
end Go.Proofs.YtpcakodemleoiaaGreat.T
end

