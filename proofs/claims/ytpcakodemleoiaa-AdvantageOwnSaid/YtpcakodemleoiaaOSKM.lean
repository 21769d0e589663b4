import Derived.Test.YtpcakodemleoiaaSFJ
import Derived.Test.YtpcakodemleoiaaSHJ
import Derived.Test.YtpcakodemleoiaaLSJ
import Derived.Test.YtpcakodemleoiaaOLHF
import Derived.Test.YtpcakodemleoiaaWRS
set_option linter.all false
section
namespace Go.Proofs.Ytpcakodemleoiaa.T
open Go Go.RowKit Lin
set_option linter.unusedSimpArgs false

theorem tidy_fr (l : List (Int × Int)) : tidyL (frC l) = true := tidyL_all fun d hd => by
  obtain ⟨x, _, hx⟩ := List.mem_flatMap.1 hd
  simp only [List.mem_cons, List.not_mem_nil, or_false] at hx
  rcases hx with rfl | rfl <;> rfl
/-! Tensions. -/
def tensP (s : Sy) : List (Int × Int) × Int := if validS s = true then solveP (matS s) (wtsS s) else ([], 1)
theorem OkS.sol_len {s : Sy} (ok : OkS s) (hz : (solveP (matS s) (wtsS s)).2 = 0) : (solveP (matS s) (wtsS s)).1.length = s.rs.length := by
  have e := solveP_in ok.mat_valid (by rw [ok.wts_len, ok.mat_len]) ok.wts_in
  rw [e] at hz ⊢
  rw [(sol_num ok.mat_valid (by rw [ok.wts_len, ok.mat_len]) ok.wts_in hz).1, ok.mat_wid]
theorem tensP_le (s : Sy) : (tensP s).1.length ≤ 1000 := by
  unfold tensP
  split
  · rename_i h; exact solveP_le _ _ (validS_ok h).mat_valid
  · simp
theorem tensP_len {s : Sy} (h : (tensP s).2 = 0) : validS s = true ∧ (tensP s).1.length = s.rs.length := by
  unfold tensP at h ⊢
  split
  · rename_i hv
    rw [if_pos hv] at h
    exact ⟨hv, (validS_ok hv).sol_len h⟩
  · rename_i hv
    rw [if_neg hv] at h
    simp at h
theorem OkS.mat_fit {s : Sy} (ok : OkS s) : (matS s).length ≤ 1000000 ∧ (∀ r ∈ matS s, r.length ≤ 1000000) ∧ (wtsS s).length ≤ 1000000 := by
  have := ok.b6
  have := ok.r6
  refine ⟨by rw [ok.mat_len]; omega, fun r hr => ?_, by rw [ok.wts_len]; omega⟩
  obtain ⟨b, _, rfl⟩ := List.mem_map.1 hr
  simp; omega
theorem tens_prog (s : Sy) (hf : Fits s) : PRet Try.prog 9 [syD s] (fse (tensP s)) := by
  refine PRet.intro 1 fun t => ACall.enter tab_ok Try.func9 rfl rfl Try.ntmps9 (by simp) ?_
  simp only [enterTM]
  have hM := matrix_prog s hf
  have hW := weights_prog s hf
  cases hv : validS s
  · rw [hv] at hM
    simp only [Bool.false_eq_true, if_false] at hM
    have e : tensP s = ([], 1) := by simp [tensP, hv]
    have f0 : frC [] = [] := rfl
    ((refine gga1 hM ?_))
    ((repeat refine AW_seq ?_); (refine wta ?_); simp (disch := omega) only [retQ, resD, oneD, rsv, rs, rsL, rsL_eq_map, List.map_map, bb, bt, zDs, zD, eqCells, simprocAttr, Try.results9, e, f0])
    rfl
  · rw [hv] at hM hW
    simp only [if_true] at hM hW
    have ok := validS_ok hv
    obtain ⟨g1, g2, g3⟩ := ok.mat_fit
    have hS := solve (matS s) (wtsS s) g1 g2 g3
    have e : tensP s = solveP (matS s) (wtsS s) := by simp [tensP, hv]
    rw [← e] at hS
    generalize tensP s = X at *
    ((refine gga3 hM hW hS ?_))
    ((repeat refine AW_seq ?_); (refine wta ?_); simp (disch := omega) only [retQ, resD, oneD, bb, bt, zDs, zD, eqCells, simprocAttr, Try.results9])
    exact rsv_tidy _ _ (by simp only [tidyD, tidyL, tidy_fr, Bool.not_false, Bool.and_self])
def hix (s : Sy) : Int := idx (fun r : Rp => r.hl) s.rs 0
def haulP (s : Sy) : (Int × Int) × Int := if (tensP s).2 = 0 then (if hix s < 0 then ((0, 0), 12) else ((tensP s).1.getD (hix s).toNat (0, 0), 0)) else ((0, 0), (tensP s).2)
theorem hix_hit {s : Sy} (h : ¬ hix s < 0) : ∃ (i : Nat) (r : Rp), hix s = i ∧ s.rs[i]? = some r ∧ r.hl = true := by
  obtain ⟨h1, h2⟩ := idx_lt (fun r : Rp => r.hl) s.rs 0
  cases ha : s.rs.any (fun r : Rp => r.hl)
  · unfold hix at h; rw [h2 ha] at h; omega
  · obtain ⟨i, x, e, hi, hx⟩ := h1 ha
    exact ⟨i, x, by unfold hix; rw [e, Nat.zero_add], hi, hx⟩
theorem haul1 (r : Rp) : PRet Try.prog 62 [.agg (rp1 r)] (bool r.hl) := by
  refine PRet.intro 1 fun t => ACall.enter tab_ok Try.func62 rfl rfl Try.ntmps62 (by simp) ?_
  simp only [enterTM]
  ((refine gga0 ?_))
  ((repeat refine AW_seq ?_); (refine wta ?_); simp (disch := omega) only [retQ, resD, oneD, rsv, rs, rsL, rsL_eq_map, List.map_map, bb, bt, zDs, zD, eqCells, simprocAttr, Try.results62])
theorem haul_prog (s : Sy) (hf : Fits s) : PRet Try.prog 30 [syD s] (fe (haulP s)) := by
  refine PRet.intro 1 fun t => ACall.enter tab_ok Try.func30 rfl rfl Try.ntmps30 (by simp) ?_
  simp only [enterTM]
  have hT := tens_prog s hf
  have hI := indexFuncRp s.rs 62 [] (fun r => r.hl) hf.nr (fun x _ => haul1 x)
  have e0 : hix s = idx (fun r : Rp => r.hl) s.rs 0 := rfl
  try rw [← e0] at hI
  have hlen := tensP_len (s := s)
  have eh : haulP s = if (tensP s).2 = 0 then (if hix s < 0 then ((0, 0), 12) else ((tensP s).1.getD (hix s).toNat (0, 0), 0)) else ((0, 0), (tensP s).2) := rfl
  have hle := tensP_le s
  generalize tensP s = X at *
  cases hz : (X.2 == 0)
  · have hz' : (X.2 != 0) = true := by simpa using hz
    have ez : ¬ X.2 = 0 := by simpa using hz
    rw [if_neg ez] at eh
    ((refine ggb1 hz' hT ?_))
    ((repeat refine AW_seq ?_); (refine wta ?_); simp (disch := omega) only [retQ, resD, oneD, rsv, rs, rsL, rsL_eq_map, List.map_map, bb, bt, zDs, zD, eqCells, simprocAttr, Try.results30, eh])
  have hz' : (X.2 != 0) = false := by simpa using hz
  have ez : X.2 = 0 := by simpa using hz
  rw [if_pos ez] at eh
  by_cases hi : hix s < 0
  · rw [if_pos hi] at eh
    ((refine ggb2 (F := _∧_) ⟨hz', hi⟩ hT hI ?_))
    ((repeat refine AW_seq ?_); (refine wta ?_); simp (disch := omega) only [retQ, resD, oneD, rsv, rs, rsL, rsL_eq_map, List.map_map, bb, bt, zDs, zD, eqCells, simprocAttr, Try.results30, eh])
  rw [if_neg hi] at eh
  obtain ⟨i, r, hie, hri, _⟩ := hix_hit hi
  rw [hie] at hI eh
  have hil := (List.getElem?_eq_some_iff.1 hri).1
  obtain ⟨_, hl⟩ := hlen ez
  obtain ⟨x, hx⟩ : ∃ x, X.1[i]? = some x := ⟨_, List.getElem?_eq_getElem (by omega)⟩
  rw [Int.toNat_natCast, List.getD_eq_getElem?_getD, hx, Option.getD_some] at eh
  have hra := frC_read X.1 i x hx
  have hfl := frC_len X.1
  have hi0 : ¬ (i : Int) < 0 := by omega
  have hix1 : i < X.1.length := by omega
  ((refine ggb2 (F := _∧_∧_∧_) ⟨hz', hi0, hix1, hra⟩ hT hI ?_))
  ((repeat refine AW_seq ?_); (refine wta ?_); simp (disch := omega) only [retQ, resD, oneD, rsv, rs, rsL, rsL_eq_map, List.map_map, bb, bt, zDs, zD, eqCells, simprocAttr, Try.results30, eh])
end Go.Proofs.Ytpcakodemleoiaa.T
end

section
namespace Go.Proofs.Ytpcakodemleoiaa.T
open Go Go.RowKit Lin
set_option linter.unusedSimpArgs false

/-! Small systems. -/
def smallH (l : List Hd) : Bool := l.all fun h => decide (h.b.size ≤ 60)
def smallR (r : Rp) : Bool := decide (r.nm.size ≤ 60) && decide (r.hs.length ≤ 13) && smallH r.hs
def smallB (b : Bk) : Bool := decide (b.nm.size ≤ 60)
def smallS (s : Sy) : Bool := decide (s.bs.length ≤ 9 ∧ s.rs.length ≤ 9) && s.bs.all smallB && s.rs.all smallR
theorem all_not {α : Type} {p : α → Bool} {l : List α} {k : Nat} {x : α} (hx : l[k]? = some x) (h : p x = false) : l.all p = false := by
  rw [← Bool.not_eq_true, List.all_eq_true]
  intro hh
  rw [hh x (List.mem_of_getElem? hx)] at h
  cases h
theorem all_of_get {α : Type} {p : α → Bool} {l : List α} (h : ∀ (k : Nat) (x : α), l[k]? = some x → p x = true) : l.all p = true := List.all_eq_true.2 fun x hx => by
  obtain ⟨i, hi⟩ := List.mem_iff_getElem?.1 hx
  exact h i x hi
theorem small_fits {s : Sy} (h : smallS s = true) : Fits s := by
  simp only [smallS, Bool.and_eq_true, decide_eq_true_eq, List.all_eq_true] at h
  obtain ⟨⟨⟨h1, h2⟩, h3⟩, h4⟩ := h
  refine ⟨by omega, by omega, fun b hb => ?_, fun r hr => ?_⟩
  · have := h3 b hb
    simp only [smallB, decide_eq_true_eq] at this
    omega
  · have := h4 r hr
    simp only [smallR, Bool.and_eq_true, decide_eq_true_eq] at this
    omega
set_option maxHeartbeats 2000000 in
theorem small_ref (s : Sy) : PRet Try.prog 33 [syD s] (bool (smallS s)) := by
  refine PRet.intro 1 fun t => ACall.enter tab_ok Try.func33 rfl rfl Try.ntmps33 (by simp) ?_
  simp only [enterTM]
  have hlb := bkC_len s.bs
  have hdb := bkC_div s.bs
  have hlr := rpC_len s.rs
  have hdr := rpC_div s.rs
  by_cases a1 : 9 < (s.bs.length : Int)
  · have ho : smallS s = false := by
      have : ¬ (s.bs.length ≤ 9 ∧ s.rs.length ≤ 9) := by omega
      simp only [smallS, this, decide_false, Bool.false_and]
    ((refine ggb0 (F := _∧_) ⟨hdb, a1⟩ ?_))
    ((repeat refine AW_seq ?_); (refine wta ?_); simp (disch := omega) only [retQ, resD, oneD, rsv, rs, rsL, rsL_eq_map, List.map_map, bb, bt, zDs, zD, eqCells, simprocAttr, Try.results33, ho])
  by_cases a2 : 9 < (s.rs.length : Int)
  · have ho : smallS s = false := by
      have : ¬ (s.bs.length ≤ 9 ∧ s.rs.length ≤ 9) := by omega
      simp only [smallS, this, decide_false, Bool.false_and]
    ((refine ggb0 (F := _∧_∧_∧_) ⟨hdb, hdr, a1, a2⟩ ?_))
    ((repeat refine AW_seq ?_); (refine wta ?_); simp (disch := omega) only [retQ, resD, oneD, rsv, rs, rsL, rsL_eq_map, List.map_map, bb, bt, zDs, zD, eqCells, simprocAttr, Try.results33, ho])
  ((refine ggb0 (F := _∧_∧_∧_) ⟨hdb, hdr, a1, a2⟩ ?_))
  ((repeat refine AW_seq ?_))
  refine AW_mid (fun _ : Unit => ⟨[(1, .ptr 0 (t + 1) 0)], [some ⟨25, t + 1, [bks s.bs, rps s.rs]⟩], t + 1⟩) (fun _ => s.bs.all smallB = true) ?_ ?_
  · refine AW_block ?_
    refine AW_loop_w (fun k : Nat => ⟨[(1, .ptr 0 (t + 1) 0), (3, int k)], [some ⟨25, t + 1, [bks s.bs, rps s.rs]⟩], t + 1⟩) (fun k => s.bs.length - k) (fun k => k ≤ s.bs.length ∧ ∀ j x, j < k → s.bs[j]? = some x → smallB x = true) 0 ⟨Nat.zero_le _, fun j x hj => absurd hj (Nat.not_lt_zero _)⟩ (by (simp (disch := omega) only [StLe, tmLe, hpLe_refl, hpLe, bl, bb, bt, zDs, zD, eqCells, simprocAttr])) fun k ⟨hk, hin⟩ => ?_
    by_cases hlt : k < s.bs.length
    · obtain ⟨b, hb⟩ : ∃ y, s.bs[k]? = some y := ⟨_, List.getElem?_eq_getElem hlt⟩
      have hnm := bkC_name s.bs k b hb
      ((refine ggb0 (F := _∧_∧_) ⟨@Int.ofNat_lt, hlt, hdb⟩ ?_))
      ((repeat refine AW_seq ?_))
      refine AW_block ?_
      by_cases hz : 60 < (b.nm.size : Int)
      · have ho : smallS s = false := by
          have : smallB b = false := by simp only [smallB, decide_eq_false_iff_not]; omega
          simp only [smallS, all_not hb this, Bool.and_false, Bool.false_and]
        ((refine ggb0 (F := _∧_∧_∧_) ⟨hdb, hlt, hnm, hz⟩ ?_))
        ((repeat refine AW_seq ?_); (refine wta ?_); simp (disch := omega) only [retQ, resD, oneD, rsv, rs, rsL, rsL_eq_map, List.map_map, bb, bt, zDs, zD, eqCells, simprocAttr, Try.results33, ho])
      · ((refine ggb0 (F := _∧_∧_∧_) ⟨hdb, hlt, hnm, hz⟩ ?_))
        refine ⟨k + 1, ⟨hlt, fun j x hj hx => ?_⟩, by omega, ?_⟩
        · by_cases e : j = k
          · subst e; rw [hb] at hx; cases hx; simp only [smallB, decide_eq_true_eq]; omega
          · exact hin j x (by omega) hx
        (simp (disch := omega) only [StLe, tmLe, hpLe_refl, hpLe, bl, bb, bt, zDs, zD, eqCells, simprocAttr])
    · have hke : k = s.bs.length := by omega
      subst hke
      ((refine ggb0 (F := _∧_) ⟨@Int.lt_irrefl, hdb⟩ ?_))
      exact ⟨(), all_of_get fun j x hx => hin j x (List.getElem?_eq_some_iff.1 hx).1 hx, by (simp (disch := omega) only [StLe, tmLe, hpLe_refl, hpLe, bl, bb, bt, zDs, zD, eqCells, simprocAttr])⟩
  rintro - hbs
  ((refine gga0 ?_))
  ((repeat refine AW_seq ?_))
  refine AW_mid (fun _ : Unit => ⟨[], [], t + 1⟩) (fun _ => s.rs.all smallR = true) ?_ ?_
  · refine AW_block ?_
    refine AW_loop_w (fun k : Nat => ⟨[(1, .ptr 0 (t + 1) 0), (4, int k)], [some ⟨25, t + 1, [bks s.bs, rps s.rs]⟩], t + 1⟩) (fun k => s.rs.length - k) (fun k => k ≤ s.rs.length ∧ ∀ j x, j < k → s.rs[j]? = some x → smallR x = true) 0 ⟨Nat.zero_le _, fun j x hj => absurd hj (Nat.not_lt_zero _)⟩ (by (simp (disch := omega) only [StLe, tmLe, hpLe_refl, hpLe, bl, bb, bt, zDs, zD, eqCells, simprocAttr])) fun k ⟨hk, hin⟩ => ?_
    by_cases hlt : k < s.rs.length
    · obtain ⟨r, hr⟩ : ∃ y, s.rs[k]? = some y := ⟨_, List.getElem?_eq_getElem hlt⟩
      have hnm := rpC_name s.rs k r hr
      have hhs : (rpC s.rs)[k * 3 + 1]? = some (hds r.hs) := rpC_cell s.rs k r hr 1 (by decide)
      have hdh := hdC_div r.hs
      have hlh := hdC_len r.hs
      ((refine ggb0 (F := _∧_∧_) ⟨@Int.ofNat_lt, hlt, hdr⟩ ?_))
      ((repeat refine AW_seq ?_))
      refine AW_block ?_
      have hno : smallR r = false → smallS s = false := fun h => by simp only [smallS, all_not hr h, Bool.and_false]
      by_cases hz : 60 < (r.nm.size : Int)
      · have ho := hno (by
          have : ¬ r.nm.size ≤ 60 := by omega
          simp only [smallR, this, decide_false, Bool.false_and])
        ((refine ggb0 (F := _∧_∧_∧_) ⟨hdr, hlt, hnm, hz⟩ ?_))
        ((repeat refine AW_seq ?_); (refine wta ?_); simp (disch := omega) only [retQ, resD, oneD, rsv, rs, rsL, rsL_eq_map, List.map_map, bb, bt, zDs, zD, eqCells, simprocAttr, Try.results33, ho])
      by_cases hz2 : 13 < (r.hs.length : Int)
      · have ho := hno (by
          have : ¬ r.hs.length ≤ 13 := by omega
          simp only [smallR, this, decide_false, Bool.false_and, Bool.and_false])
        ((refine ggb0 (F := _∧_∧_∧_∧_∧_∧_) ⟨hdr, hlt, hnm, hz, hhs, hdh, hz2⟩ ?_))
        ((repeat refine AW_seq ?_); (refine wta ?_); simp (disch := omega) only [retQ, resD, oneD, rsv, rs, rsL, rsL_eq_map, List.map_map, bb, bt, zDs, zD, eqCells, simprocAttr, Try.results33, ho])
      ((refine ggb0 (F := _∧_∧_∧_∧_∧_∧_) ⟨hdr, hlt, hnm, hz, hhs, hdh, hz2⟩ ?_))
      · ((repeat refine AW_seq ?_))
        refine AW_block ?_
        refine AW_loop_w (fun i : Nat => ⟨[(1, .ptr 0 (t + 1) 0), (4, int k), (5, int i)], [some ⟨25, t + 1, [bks s.bs, rps s.rs]⟩], t + 1⟩) (fun i => r.hs.length - i) (fun i => i ≤ r.hs.length ∧ ∀ j x, j < i → r.hs[j]? = some x → decide (x.b.size ≤ 60) = true) 0 ⟨Nat.zero_le _, fun j x hj => absurd hj (Nat.not_lt_zero _)⟩ (by (simp (disch := omega) only [StLe, tmLe, hpLe_refl, hpLe, bl, bb, bt, zDs, zD, eqCells, simprocAttr])) fun i ⟨hi, hjn⟩ => ?_
        by_cases hli : i < r.hs.length
        · obtain ⟨h, hh⟩ : ∃ y, r.hs[i]? = some y := ⟨_, List.getElem?_eq_getElem hli⟩
          have hhn := hdC_name r.hs i h hh
          ((refine ggb0 (F := _∧_∧_∧_∧_∧_) ⟨@Int.ofNat_lt, hli, hdr, hlt, hhs, hdh⟩ ?_))
          ((repeat refine AW_seq ?_))
          refine AW_block ?_
          by_cases hz3 : 60 < (h.b.size : Int)
          · have ho := hno (by
              have : decide (h.b.size ≤ 60) = false := by simp only [decide_eq_false_iff_not]; omega
              simp only [smallR, smallH, all_not (p := fun h : Hd => decide (h.b.size ≤ 60)) hh this, Bool.and_false])
            ((refine ggb0 (F := _∧_∧_∧_∧_∧_∧_) ⟨hdr, hlt, hhs, hdh, hli, hhn, hz3⟩ ?_))
            ((repeat refine AW_seq ?_); (refine wta ?_); simp (disch := omega) only [retQ, resD, oneD, rsv, rs, rsL, rsL_eq_map, List.map_map, bb, bt, zDs, zD, eqCells, simprocAttr, Try.results33, ho])
          · ((refine ggb0 (F := _∧_∧_∧_∧_∧_∧_) ⟨hdr, hlt, hhs, hdh, hli, hhn, hz3⟩ ?_))
            refine ⟨i + 1, ⟨hli, fun j x hj hx => ?_⟩, by omega, ?_⟩
            · by_cases e : j = i
              · subst e; rw [hh] at hx; cases hx; simp only [decide_eq_true_eq]; omega
              · exact hjn j x (by omega) hx
            (simp (disch := omega) only [StLe, tmLe, hpLe_refl, hpLe, bl, bb, bt, zDs, zD, eqCells, simprocAttr])
        · have hie : i = r.hs.length := by omega
          subst hie
          ((refine ggb0 (F := _∧_∧_∧_∧_) ⟨@Int.lt_irrefl, hdr, hlt, hhs, hdh⟩ ?_))
          have hall : smallH r.hs = true := all_of_get fun j x hx => hjn j x (List.getElem?_eq_some_iff.1 hx).1 hx
          refine ⟨k + 1, ⟨hlt, fun j x hj hx => ?_⟩, by omega, ?_⟩
          · by_cases e : j = k
            · subst e; rw [hr] at hx; cases hx
              have h1 : r.nm.size ≤ 60 := by omega
              have h2 : r.hs.length ≤ 13 := by omega
              simp only [smallR, h1, h2, hall, decide_true, Bool.and_self]
            · exact hin j x (by omega) hx
          (simp (disch := omega) only [StLe, tmLe, hpLe_refl, hpLe, bl, bb, bt, zDs, zD, eqCells, simprocAttr])
    · have hke : k = s.rs.length := by omega
      subst hke
      ((refine ggb0 (F := _∧_) ⟨@Int.lt_irrefl, hdr⟩ ?_))
      exact ⟨(), all_of_get fun j x hx => hin j x (List.getElem?_eq_some_iff.1 hx).1 hx, by (simp (disch := omega) only [StLe, tmLe, hpLe_refl, hpLe, bl, bb, bt, zDs, zD, eqCells, simprocAttr])⟩
  rintro - hrs
  have ho : smallS s = true := by
    have : s.bs.length ≤ 9 ∧ s.rs.length ≤ 9 := by omega
    simp only [smallS, this, hbs, hrs, and_self, decide_true, Bool.and_self]
  ((refine gga0 ?_))
  ((repeat refine AW_seq ?_); (refine wta ?_); simp (disch := omega) only [retQ, resD, oneD, rsv, rs, rsL, rsL_eq_map, List.map_map, bb, bt, zDs, zD, eqCells, simprocAttr, Try.results33, ho])
end Go.Proofs.Ytpcakodemleoiaa.T
end

section
namespace Go.Proofs.Ytpcakodemleoiaa.T
open Go Go.RowKit Lin
set_option linter.unusedSimpArgs false

/-! Chapter 11: the example, and the law of tensions. -/
def hB : ByteArray := ⟨#[98]⟩
def hR : ByteArray := ⟨#[114]⟩
def hE : ByteArray := ⟨#[]⟩
end Go.Proofs.Ytpcakodemleoiaa.T
end

