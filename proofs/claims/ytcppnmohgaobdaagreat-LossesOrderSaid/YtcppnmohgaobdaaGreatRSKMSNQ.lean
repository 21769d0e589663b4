import Derived.Test.YtcppnmohgaobdaaGreatRSFJ
import Derived.Test.YtcppnmohgaobdaaGreatRSHJ
import Derived.Test.YtcppnmohgaobdaaGreatRLSJ
import Derived.Test.YtcppnmohgaobdaaGreatRLHF
import Derived.Test.YtcppnmohgaobdaaGreatRWRS
import Derived.Test.YtcppnmohgaobdaaGreatRWN
import Derived.Test.YtcppnmohgaobdaaGreatRWX
import Derived.Test.YtcppnmohgaobdaaGreatRWPJ
set_option linter.all false
section
namespace Go.Proofs.YtcppnmohgaobdaaGreat.T
open Go Go.RowKit Lin
theorem tidy_fr (l : List (Int × Int)) : tidyL (frC l) = true := tidyL_all fun d hd => by
  obtain ⟨x, _, hx⟩ := List.mem_flatMap.1 hd
  simp only [List.mem_cons, List.not_mem_nil, or_false] at hx
  rcases hx with rfl | rfl <;> rfl
def hix (s : Sy) : Int := idx (fun r : Rp => r.hl) s.rs 0
theorem hix_hit {s : Sy} (h : ¬ hix s < 0) : ∃ (i : Nat) (r : Rp), hix s = i ∧ s.rs[i]? = some r ∧ r.hl = true := by
  obtain ⟨h1, h2⟩ := idx_lt (fun r : Rp => r.hl) s.rs 0
  cases ha : s.rs.any (fun r : Rp => r.hl)
  · unfold hix at h; rw [h2 ha] at h; omega
  · obtain ⟨i, x, e, hi, hx⟩ := h1 ha
    exact ⟨i, x, by unfold hix; rw [e, Nat.zero_add], hi, hx⟩
theorem refHaul (s : Sy) (hl : s.rs.length ≤ 1000000) : PRet Tryz.prog 13 [syD s] (int (hix s)) := by
  refine PRet.intro 1 fun t => ACall.enter tab_ok Tryz.func13 rfl rfl Tryz.ntmps13 (by simp) ?_
  simp only [enterTM]
  have hla := rpC_len s.rs
  have ha2 := rpC_div s.rs
  ((refine gga0 ?_))
  ((repeat refine AW_seq ?_))
  refine AW_block ?_
  refine AW_loop_w (fun k : Nat => ⟨[(1, .ptr 0 (t + 1) 0), (3, int k)], [some ⟨25, t + 1, [bks s.bs, rps s.rs]⟩], t + 1⟩) (fun k => s.rs.length - k) (fun k => k ≤ s.rs.length ∧ hix s = idx (fun r : Rp => r.hl) (s.rs.drop k) k) 0 ⟨Nat.zero_le _, rfl⟩ (by (simp (disch := omega) only [StLe, tmLe, hpLe_refl, hpLe, bl, bb, bt, zDs, zD, eqCells, simprocAttr])) fun k ⟨hk, hi⟩ => ?_
  by_cases hlt : k < s.rs.length
  · obtain ⟨x, hx⟩ : ∃ x, s.rs[k]? = some x := ⟨_, List.getElem?_eq_getElem hlt⟩
    have hd : s.rs.drop k = x :: s.rs.drop (k + 1) := by
      obtain ⟨h1, h2⟩ := List.getElem?_eq_some_iff.1 hx
      rw [List.drop_eq_getElem_cons h1, h2]
    rw [hd] at hi
    have hra : (rpC s.rs)[k * 3 + 2]? = some (bool x.hl) := rpC_cell s.rs k x hx 2 (by decide)
    ((refine ggb0 (F := _∧_∧_) ⟨@Int.ofNat_lt, hlt, ha2⟩ ?_))
    ((repeat refine AW_seq ?_))
    refine AW_block ?_
    cases hpx : x.hl
    · rw [hpx] at hra
      ((refine ggb0 (F := _∧_∧_) ⟨ha2, hlt, hra⟩ ?_))
      refine ⟨k + 1, ⟨hlt, by rw [hi]; simp [idx, hpx]⟩, by omega, ?_⟩
      (simp (disch := omega) only [StLe, tmLe, hpLe_refl, hpLe, bl, bb, bt, zDs, zD, eqCells, simprocAttr])
    · rw [hpx] at hra
      ((refine ggb0 (F := _∧_∧_) ⟨ha2, hlt, hra⟩ ?_))
      ((repeat refine AW_seq ?_); (refine wta ?_); simp (disch := omega) only [retQ, resD, oneD, rsv, rs, rsL, rsL_eq_map, List.map_map, bb, bt, zDs, zD, eqCells, simprocAttr, Tryz.results13, hi, idx, hpx, if_pos])
  · ((refine ggb0 (F := _∧_∧_) ⟨@Int.ofNat_lt, hlt, ha2⟩ ?_))
    ((repeat refine AW_seq ?_); (refine wta ?_); simp (disch := omega) only [retQ, resD, oneD, rsv, rs, rsL, rsL_eq_map, List.map_map, bb, bt, zDs, zD, eqCells, simprocAttr, Tryz.results13, hi])
    rw [List.drop_eq_nil_of_le (by omega)]; rfl
end Go.Proofs.YtcppnmohgaobdaaGreat.T
end
section
namespace Go.Proofs.YtcppnmohgaobdaaGreat.T
open Go Go.RowKit Lin
def smallH (l : List Hd) : Bool := l.all fun h => decide (h.b.size ≤ 60)
def smallR (r : Rp) : Bool := decide (r.nm.size ≤ 60) && decide (r.hs.length ≤ 13) && smallH r.hs
def smallB (b : Bk) : Bool := decide (b.nm.size ≤ 60)
def smallS (s : Sy) : Bool := decide (s.bs.length ≤ 9 ∧ s.rs.length ≤ 9) && s.bs.all smallB && s.rs.all smallR
theorem all_not {α : Type} {p : α → Bool} {l : List α} {k : Nat} {x : α} (hx : l[k]? = some x) (h : p x = false) : l.all p = false := by
  rw [← Bool.not_eq_true, List.all_eq_true]
  intro hh
  rw [hh x (List.mem_of_getElem? hx)] at h
  cases h
theorem all_of_get {α : Type} {p : α → Bool} {l : List α} (h : ∀ (k : Nat) (x : α), l[k]? = some x → p x = true) : l.all p = true := List.all_eq_true.2 fun x hx => by
  obtain ⟨i, hi⟩ := List.mem_iff_getElem?.1 hx
  exact h i x hi
theorem small_fits {s : Sy} (h : smallS s = true) : Fits s := by
  simp only [smallS, Bool.and_eq_true, decide_eq_true_eq, List.all_eq_true] at h
  obtain ⟨⟨⟨h1, h2⟩, h3⟩, h4⟩ := h
  refine ⟨by omega, by omega, fun b hb => ?_, fun r hr => ?_⟩
  · have := h3 b hb
    simp only [smallB, decide_eq_true_eq] at this
    omega
  · have := h4 r hr
    simp only [smallR, Bool.and_eq_true, decide_eq_true_eq] at this
    omega
set_option maxHeartbeats 2000000 in
theorem small_ref (s : Sy) : PRet Tryz.prog 17 [syD s] (bool (smallS s)) := by
  refine PRet.intro 1 fun t => ACall.enter tab_ok Tryz.func17 rfl rfl Tryz.ntmps17 (by simp) ?_
  simp only [enterTM]
  have hlb := bkC_len s.bs
  have hdb := bkC_div s.bs
  have hlr := rpC_len s.rs
  have hdr := rpC_div s.rs
  by_cases a1 : 9 < (s.bs.length : Int)
  · have ho : smallS s = false := by
      have : ¬ (s.bs.length ≤ 9 ∧ s.rs.length ≤ 9) := by omega
      simp only [smallS, this, decide_false, Bool.false_and]
    ((refine ggb0 (F := _∧_) ⟨hdb, a1⟩ ?_))
    ((repeat refine AW_seq ?_); (refine wta ?_); simp (disch := omega) only [retQ, resD, oneD, rsv, rs, rsL, rsL_eq_map, List.map_map, bb, bt, zDs, zD, eqCells, simprocAttr, Tryz.results17, ho])
  by_cases a2 : 9 < (s.rs.length : Int)
  · have ho : smallS s = false := by
      have : ¬ (s.bs.length ≤ 9 ∧ s.rs.length ≤ 9) := by omega
      simp only [smallS, this, decide_false, Bool.false_and]
    ((refine ggb0 (F := _∧_∧_∧_) ⟨hdb, hdr, a1, a2⟩ ?_))
    ((repeat refine AW_seq ?_); (refine wta ?_); simp (disch := omega) only [retQ, resD, oneD, rsv, rs, rsL, rsL_eq_map, List.map_map, bb, bt, zDs, zD, eqCells, simprocAttr, Tryz.results17, ho])
  ((refine ggb0 (F := _∧_∧_∧_) ⟨hdb, hdr, a1, a2⟩ ?_))
  ((repeat refine AW_seq ?_))
  refine AW_mid (fun _ : Unit => ⟨[(1, .ptr 0 (t + 1) 0)], [some ⟨25, t + 1, [bks s.bs, rps s.rs]⟩], t + 1⟩) (fun _ => s.bs.all smallB = true) ?_ ?_
  · refine AW_block ?_
    refine AW_loop_w (fun k : Nat => ⟨[(1, .ptr 0 (t + 1) 0), (3, int k)], [some ⟨25, t + 1, [bks s.bs, rps s.rs]⟩], t + 1⟩) (fun k => s.bs.length - k) (fun k => k ≤ s.bs.length ∧ ∀ j x, j < k → s.bs[j]? = some x → smallB x = true) 0 ⟨Nat.zero_le _, fun j x hj => absurd hj (Nat.not_lt_zero _)⟩ (by (simp (disch := omega) only [StLe, tmLe, hpLe_refl, hpLe, bl, bb, bt, zDs, zD, eqCells, simprocAttr])) fun k ⟨hk, hin⟩ => ?_
    by_cases hlt : k < s.bs.length
    · obtain ⟨b, hb⟩ : ∃ y, s.bs[k]? = some y := ⟨_, List.getElem?_eq_getElem hlt⟩
      have hnm := bkC_name s.bs k b hb
      ((refine ggb0 (F := _∧_∧_) ⟨@Int.ofNat_lt, hlt, hdb⟩ ?_))
      ((repeat refine AW_seq ?_))
      refine AW_block ?_
      by_cases hz : 60 < (b.nm.size : Int)
      · have ho : smallS s = false := by
          have : smallB b = false := by simp only [smallB, decide_eq_false_iff_not]; omega
          simp only [smallS, all_not hb this, Bool.and_false, Bool.false_and]
        ((refine ggb0 (F := _∧_∧_∧_) ⟨hdb, hlt, hnm, hz⟩ ?_))
        ((repeat refine AW_seq ?_); (refine wta ?_); simp (disch := omega) only [retQ, resD, oneD, rsv, rs, rsL, rsL_eq_map, List.map_map, bb, bt, zDs, zD, eqCells, simprocAttr, Tryz.results17, ho])
      · ((refine ggb0 (F := _∧_∧_∧_) ⟨hdb, hlt, hnm, hz⟩ ?_))
        refine ⟨k + 1, ⟨hlt, fun j x hj hx => ?_⟩, by omega, ?_⟩
        · by_cases e : j = k
          · subst e; rw [hb] at hx; cases hx; simp only [smallB, decide_eq_true_eq]; omega
          · exact hin j x (by omega) hx
        (simp (disch := omega) only [StLe, tmLe, hpLe_refl, hpLe, bl, bb, bt, zDs, zD, eqCells, simprocAttr])
    · have hke : k = s.bs.length := by omega
      subst hke
      ((refine ggb0 (F := _∧_) ⟨@Int.lt_irrefl, hdb⟩ ?_))
      exact ⟨(), all_of_get fun j x hx => hin j x (List.getElem?_eq_some_iff.1 hx).1 hx, by (simp (disch := omega) only [StLe, tmLe, hpLe_refl, hpLe, bl, bb, bt, zDs, zD, eqCells, simprocAttr])⟩
  rintro - hbs
  ((refine gga0 ?_))
  ((repeat refine AW_seq ?_))
  refine AW_mid (fun _ : Unit => ⟨[], [], t + 1⟩) (fun _ => s.rs.all smallR = true) ?_ ?_
  · refine AW_block ?_
    refine AW_loop_w (fun k : Nat => ⟨[(1, .ptr 0 (t + 1) 0), (4, int k)], [some ⟨25, t + 1, [bks s.bs, rps s.rs]⟩], t + 1⟩) (fun k => s.rs.length - k) (fun k => k ≤ s.rs.length ∧ ∀ j x, j < k → s.rs[j]? = some x → smallR x = true) 0 ⟨Nat.zero_le _, fun j x hj => absurd hj (Nat.not_lt_zero _)⟩ (by (simp (disch := omega) only [StLe, tmLe, hpLe_refl, hpLe, bl, bb, bt, zDs, zD, eqCells, simprocAttr])) fun k ⟨hk, hin⟩ => ?_
    by_cases hlt : k < s.rs.length
    · obtain ⟨r, hr⟩ : ∃ y, s.rs[k]? = some y := ⟨_, List.getElem?_eq_getElem hlt⟩
      have hnm := rpC_name s.rs k r hr
      have hhs : (rpC s.rs)[k * 3 + 1]? = some (hds r.hs) := rpC_cell s.rs k r hr 1 (by decide)
      have hdh := hdC_div r.hs
      have hlh := hdC_len r.hs
      ((refine ggb0 (F := _∧_∧_) ⟨@Int.ofNat_lt, hlt, hdr⟩ ?_))
      ((repeat refine AW_seq ?_))
      refine AW_block ?_
      have hno : smallR r = false → smallS s = false := fun h => by simp only [smallS, all_not hr h, Bool.and_false]
      by_cases hz : 60 < (r.nm.size : Int)
      · have ho := hno (by
          have : ¬ r.nm.size ≤ 60 := by omega
          simp only [smallR, this, decide_false, Bool.false_and])
        ((refine ggb0 (F := _∧_∧_∧_) ⟨hdr, hlt, hnm, hz⟩ ?_))
        ((repeat refine AW_seq ?_); (refine wta ?_); simp (disch := omega) only [retQ, resD, oneD, rsv, rs, rsL, rsL_eq_map, List.map_map, bb, bt, zDs, zD, eqCells, simprocAttr, Tryz.results17, ho])
      by_cases hz2 : 13 < (r.hs.length : Int)
      · have ho := hno (by
          have : ¬ r.hs.length ≤ 13 := by omega
          simp only [smallR, this, decide_false, Bool.false_and, Bool.and_false])
        ((refine ggb0 (F := _∧_∧_∧_∧_∧_∧_) ⟨hdr, hlt, hnm, hz, hhs, hdh, hz2⟩ ?_))
        ((repeat refine AW_seq ?_); (refine wta ?_); simp (disch := omega) only [retQ, resD, oneD, rsv, rs, rsL, rsL_eq_map, List.map_map, bb, bt, zDs, zD, eqCells, simprocAttr, Tryz.results17, ho])
      ((refine ggb0 (F := _∧_∧_∧_∧_∧_∧_) ⟨hdr, hlt, hnm, hz, hhs, hdh, hz2⟩ ?_))
      · ((repeat refine AW_seq ?_))
        refine AW_block ?_
        refine AW_loop_w (fun i : Nat => ⟨[(1, .ptr 0 (t + 1) 0), (4, int k), (5, int i)], [some ⟨25, t + 1, [bks s.bs, rps s.rs]⟩], t + 1⟩) (fun i => r.hs.length - i) (fun i => i ≤ r.hs.length ∧ ∀ j x, j < i → r.hs[j]? = some x → decide (x.b.size ≤ 60) = true) 0 ⟨Nat.zero_le _, fun j x hj => absurd hj (Nat.not_lt_zero _)⟩ (by (simp (disch := omega) only [StLe, tmLe, hpLe_refl, hpLe, bl, bb, bt, zDs, zD, eqCells, simprocAttr])) fun i ⟨hi, hjn⟩ => ?_
        by_cases hli : i < r.hs.length
        · obtain ⟨h, hh⟩ : ∃ y, r.hs[i]? = some y := ⟨_, List.getElem?_eq_getElem hli⟩
          have hhn := hdC_name r.hs i h hh
          ((refine ggb0 (F := _∧_∧_∧_∧_∧_) ⟨@Int.ofNat_lt, hli, hdr, hlt, hhs, hdh⟩ ?_))
          ((repeat refine AW_seq ?_))
          refine AW_block ?_
          by_cases hz3 : 60 < (h.b.size : Int)
          · have ho := hno (by
              have : decide (h.b.size ≤ 60) = false := by simp only [decide_eq_false_iff_not]; omega
              simp only [smallR, smallH, all_not (p := fun h : Hd => decide (h.b.size ≤ 60)) hh this, Bool.and_false])
            ((refine ggb0 (F := _∧_∧_∧_∧_∧_∧_) ⟨hdr, hlt, hhs, hdh, hli, hhn, hz3⟩ ?_))
            ((repeat refine AW_seq ?_); (refine wta ?_); simp (disch := omega) only [retQ, resD, oneD, rsv, rs, rsL, rsL_eq_map, List.map_map, bb, bt, zDs, zD, eqCells, simprocAttr, Tryz.results17, ho])
          · ((refine ggb0 (F := _∧_∧_∧_∧_∧_∧_) ⟨hdr, hlt, hhs, hdh, hli, hhn, hz3⟩ ?_))
            refine ⟨i + 1, ⟨hli, fun j x hj hx => ?_⟩, by omega, ?_⟩
            · by_cases e : j = i
              · subst e; rw [hh] at hx; cases hx; simp only [decide_eq_true_eq]; omega
              · exact hjn j x (by omega) hx
            (simp (disch := omega) only [StLe, tmLe, hpLe_refl, hpLe, bl, bb, bt, zDs, zD, eqCells, simprocAttr])
        · have hie : i = r.hs.length := by omega
          subst hie
          ((refine ggb0 (F := _∧_∧_∧_∧_) ⟨@Int.lt_irrefl, hdr, hlt, hhs, hdh⟩ ?_))
          have hall : smallH r.hs = true := all_of_get fun j x hx => hjn j x (List.getElem?_eq_some_iff.1 hx).1 hx
          refine ⟨k + 1, ⟨hlt, fun j x hj hx => ?_⟩, by omega, ?_⟩
          · by_cases e : j = k
            · subst e; rw [hr] at hx; cases hx
              have h1 : r.nm.size ≤ 60 := by omega
              have h2 : r.hs.length ≤ 13 := by omega
              simp only [smallR, h1, h2, hall, decide_true, Bool.and_self]
            · exact hin j x (by omega) hx
          (simp (disch := omega) only [StLe, tmLe, hpLe_refl, hpLe, bl, bb, bt, zDs, zD, eqCells, simprocAttr])
    · have hke : k = s.rs.length := by omega
      subst hke
      ((refine ggb0 (F := _∧_) ⟨@Int.lt_irrefl, hdr⟩ ?_))
      exact ⟨(), all_of_get fun j x hx => hin j x (List.getElem?_eq_some_iff.1 hx).1 hx, by (simp (disch := omega) only [StLe, tmLe, hpLe_refl, hpLe, bl, bb, bt, zDs, zD, eqCells, simprocAttr])⟩
  rintro - hrs
  have ho : smallS s = true := by
    have : s.bs.length ≤ 9 ∧ s.rs.length ≤ 9 := by omega
    simp only [smallS, this, hbs, hrs, and_self, decide_true, Bool.and_self]
  ((refine gga0 ?_))
  ((repeat refine AW_seq ?_); (refine wta ?_); simp (disch := omega) only [retQ, resD, oneD, rsv, rs, rsL, rsL_eq_map, List.map_map, bb, bt, zDs, zD, eqCells, simprocAttr, Tryz.results17, ho])
end Go.Proofs.YtcppnmohgaobdaaGreat.T
end
section
namespace Go.Proofs.YtcppnmohgaobdaaGreat.T
open Go Go.RowKit Lin
def hB : ByteArray := ⟨#[98]⟩
def hR : ByteArray := ⟨#[114]⟩
def hE : ByteArray := ⟨#[]⟩
end Go.Proofs.YtcppnmohgaobdaaGreat.T
end

namespace Go.Proofs.YtcppnmohgaobdaaGreat.T
open Go Go.RowKit Lin
def trS (s : Sy) : List (List Int) := turnP (matS s) s.rs.length
theorem OkS.tr_len {s : Sy} (_ok : OkS s) : (trS s).length = s.rs.length := turnP_len _ _
theorem OkS.tr_valid {s : Sy} (ok : OkS s) : validP (trS s) = true ∧ wid (trS s) = s.bs.length := by
  obtain ⟨m1, m2, m3⟩ := validP_iff.1 ok.mat_valid
  have ml := ok.mat_len
  have mw := ok.mat_wid
  have b1 := ok.b1
  have b6 := ok.b6
  have r1 := ok.r1
  have r6 := ok.r6
  have hrow : ∀ r ∈ trS s, r.length = s.bs.length ∧ ∀ x ∈ r, -32 ≤ x ∧ x ≤ 32 := fun r hr => by
    obtain ⟨j, hj, rfl⟩ := List.mem_map.1 hr
    refine ⟨by simp [colP, ml], fun x hx => ?_⟩
    obtain ⟨q, hq, rfl⟩ := List.mem_map.1 hx
    exact at_bound (by decide) (m3 q hq).2 j
  have hl := ok.tr_len
  have hw : wid (trS s) = s.bs.length := by
    obtain ⟨r, rs, e⟩ : ∃ r rs, trS s = r :: rs := by
      cases hr : trS s with
      | nil => rw [hr] at hl; simp at hl; omega
      | cons a b => exact ⟨a, b, rfl⟩
    unfold wid
    rw [e, List.headD_cons]
    exact (hrow r (by rw [e]; simp)).1
  exact ⟨validP_iff.2 ⟨by omega, by omega, fun r hr => ⟨by rw [hw]; exact (hrow r hr).1, (hrow r hr).2⟩⟩, hw⟩
theorem tidy_frss (l : List (List (Int × Int))) : tidyL (l.map frs) = true := tidyL_all fun d hd => by
  obtain ⟨x, _, rfl⟩ := List.mem_map.1 hd
  simp only [tidyD, tidy_fr, Bool.not_false, Bool.and_self]
end Go.Proofs.YtcppnmohgaobdaaGreat.T

section
section
namespace Go.Proofs.YtcppnmohgaobdaaGreat.T
open Go Go.RowKit Lin
theorem vfrac_neg {a b : Int} (h : vfrac a b = true) : vfrac (-a) b = true := by
  unfold vfrac at h ⊢
  simp only [Bool.and_eq_true, decide_eq_true_eq, Int.natAbs_neg] at h ⊢
  omega
def subP (a b : Int × Int) : (Int × Int) × Int := if vfrac a.1 a.2 = true ∧ vfrac b.1 b.2 = true then addR a (-b.1, b.2) else ((0, 0), 1)
theorem allV_at {l : List (Int × Int)} {k : Nat} {f : Int × Int} (h : allV l = true) (hk : l[k]? = some f) : vfrac f.1 f.2 = true := by
  unfold allV at h
  rw [List.all_eq_true] at h
  exact h f (List.mem_of_getElem? hk)
end Go.Proofs.YtcppnmohgaobdaaGreat.T
end
section
namespace Go.Proofs.YtcppnmohgaobdaaGreat.T
open Go Go.RowKit Lin
end Go.Proofs.YtcppnmohgaobdaaGreat.T
end
section
namespace Go.Proofs.YtcppnmohgaobdaaGreat.T
open Go Go.RowKit Lin
theorem fz_frS (b g : Nat) (cs : List D) : ∀ l : List (Int × Int), fzL b g cs (frC l) = frC l
  | [] => by simp only [frC, List.flatMap_nil, fzL]
  | x :: l => by have := fz_frS b g cs l; simp only [frC, List.flatMap_cons, List.cons_append, List.nil_append, fzL, fz] at this ⊢; rw [this]
end Go.Proofs.YtcppnmohgaobdaaGreat.T
end
section
namespace Go.Proofs.YtcppnmohgaobdaaGreat.T
open Go Go.RowKit Lin
end Go.Proofs.YtcppnmohgaobdaaGreat.T
end
end
section
section
namespace Go.Proofs.YtcppnmohgaobdaaGreat.T
open Go Go.RowKit Lin
end Go.Proofs.YtcppnmohgaobdaaGreat.T
end
section
namespace Go.Proofs.YtcppnmohgaobdaaGreat.T
open Go Go.RowKit Lin
end Go.Proofs.YtcppnmohgaobdaaGreat.T
end
section
namespace Go.Proofs.YtcppnmohgaobdaaGreat.T
open Go Go.RowKit Lin
end Go.Proofs.YtcppnmohgaobdaaGreat.T
end
section
namespace Go.Proofs.YtcppnmohgaobdaaGreat.T
open Go Go.RowKit Lin
end Go.Proofs.YtcppnmohgaobdaaGreat.T
end
section
namespace Go.Proofs.YtcppnmohgaobdaaGreat.T
open Go Go.RowKit Lin
end Go.Proofs.YtcppnmohgaobdaaGreat.T
end
section
namespace Go.Proofs.YtcppnmohgaobdaaGreat.T
open Go Go.RowKit Lin
end Go.Proofs.YtcppnmohgaobdaaGreat.T
end
end

