import Derived.Test.YtjjpjgnoanfaoaaYSASHJ
import Derived.Test.YtjjpjgnoanfaoaaYWZLHF
import Derived.Test.YtjjpjgnoanfaoaaWRS
import Derived.Test.YtjjpjgnoanfaoaaWPJ
import Derived.Test.YtjjpjgnoanfaoaaWC
import Derived.Test.YtjjpjgnoanfaoaaSPQ
import Derived.Test.YtjjpjgnoanfaoaaSPT
import Derived.Test.YtjjpjgnoanfaoaaTJ
import Derived.Test.YtjjpjgnoanfaoaaWA
import Derived.Test.YtjjpjgnoanfaoaaWJK
import Derived.Test.YtjjpjgnoanfaoaaRows
import Derived.Lib.SmallJoins
import Derived.ProofKit
set_option linter.all false
section
namespace Go.Proofs.Ytjjpjgnoanfaoaa.T
open Go Go.RowKit Lin
theorem gdza3_SKM {C1 C2 C3 P Q : Prop} (c1 : C1) (c2 : C2) (c3 : C3) (q : Q) (h : C1 → C2 → C3 → Q → P := by
  intro cc1 cc2 cc3 hq
  (try with_reducible intro KR hKR)
  (repeat refine AW_seq ?_); (repeat refine AW_seq ?_); (refine AW_drawn_k tab_ok follows_mixed 0 fun KR hKR => ?_); simp only [List.replicate_succ, List.replicate_zero, List.append_nil, List.nil_append, List.cons_append, List.length_cons, List.length_nil, Nat.reduceAdd]; (repeat' ((first | refine awD_n rfl fun KK hKK => ?_ | refine awD_g rfl rfl fun KK hKK => ?_ | refine awD_gc rfl fun KK hKK => ?_ | refine awD_nc fun KK hKK => ?_); simp (disch := omega) only [bb, bt, zDs, zD, eqCells, simprocAttr, bne_self_eq_false, Int.reduceBNe, Int.reduceBEq, Bool.bne_false, Bool.bne_true, Bool.false_bne, Bool.true_bne, goCDS, callDS_fn, argsZ, argsD, ufa, uf]; (try ((first | with_reducible refine PGive.ret (cc1) ?_ | with_reducible refine PGive.ret (cc2) ?_ | with_reducible refine PGive.ret (cc3) ?_); simp (disch := omega) only [bb, bt, zDs, zD, eqCells, simprocAttr, afterDS, bne_self_eq_false, Int.reduceBNe, Int.reduceBEq, Bool.bne_false, Bool.bne_true, Bool.false_bne, Bool.true_bne])); refine hKK _ _ _ ?_; clear hKK KK)); (refine awD_nil ?_); simp only [List.reverse_cons, List.reverse_nil, List.nil_append, List.cons_append]; (refine hKR _ _ (by first | rfl | kernel_rfl) ?_); (try clear hKR KR); (repeat (with_reducible first | refine q1 ?_ | refine q2 ?_ | refine q3 ?_ | refine q4 ?_ | refine q5 ?_ | refine q6 ?_ | (refine q7 ?_ ?_; (focus (with_unfolding_all rfl)))))
  (first | exact hq | (revert hKR; revert KR; exact hq))) : P := h c1 c2 c3 q
theorem gga4_SKM {C1 C2 C3 C4 P Q : Prop} (c1 : C1) (c2 : C2) (c3 : C3) (c4 : C4) (q : Q) (h : C1 → C2 → C3 → C4 → Q → P := by
  intro cc1 cc2 cc3 cc4 hq
  (try with_reducible intro KR hKR)
  (repeat' (first | (with_reducible refine AW_seq ?_) | (with_reducible refine AW_region_k tab_ok fun KR hKR => ?_) | ((first | with_reducible refine AW_skip ?_ | with_reducible refine AW_exit ?_ | ((with_reducible refine awOps_nil ?_); refine hKR _ ?_; (try clear hKR KR))); (repeat (with_reducible first | refine q1 ?_ | refine q2 ?_ | refine q3 ?_ | refine q4 ?_ | refine q5 ?_ | refine q6 ?_ | (refine q7 ?_ ?_; (focus (with_unfolding_all rfl)))))) | ((first | ((with_reducible refine at_ops ?_); (first | refine awOps_n rfl fun KK hKK => ?_ | refine awOps_g rfl rfl fun KK hKK => ?_ | refine awOps_gc rfl fun KK hKK => ?_ | refine awOps_nc fun KK hKK => ?_)) | with_reducible refine AW_cond_k (tab := tab) fun KK hKK => ?_); simp (disch := omega) only [bb, bt, zDs, zD, eqCells, simprocAttr, bne_self_eq_false, Int.reduceBNe, Int.reduceBEq, Bool.bne_false, Bool.bne_true, Bool.false_bne, Bool.true_bne, goC, callO_fn, argsD, and_self]; (try ((first | (with_reducible refine ACall.of_pret (cc1) ?_ ?_; (focus (first | (simp only [um]; done) | rfl))) | (with_reducible refine ACall.of_pret (cc2) ?_ ?_; (focus (first | (simp only [um]; done) | rfl))) | (with_reducible refine ACall.of_pret (cc3) ?_ ?_; (focus (first | (simp only [um]; done) | rfl))) | (with_reducible refine ACall.of_pret (cc4) ?_ ?_; (focus (first | (simp only [um]; done) | rfl)))); simp only [afterC, St.put, putTM, ↓reduceIte, Nat.reduceEqDiff])); refine hKK _ ?_; clear hKK KK; (first | with_reducible refine at_ops ?_ | with_reducible refine i1 ?_ | with_reducible refine i0 ?_))))
  (first | exact hq | (revert hKR; revert KR; exact hq))) : P := h c1 c2 c3 c4 q
set_option linter.unusedSimpArgs false

theorem tidy_fr (l : List (Int × Int)) : tidyL (frC l) = true := tidyL_all fun d hd => by
  obtain ⟨x, _, hx⟩ := List.mem_flatMap.1 hd
  simp only [List.mem_cons, List.not_mem_nil, or_false] at hx
  rcases hx with rfl | rfl <;> rfl
/-! Tensions. -/
theorem solveP_mv {m : List (List Int)} {right : List Int} (hv : validP m = true) (hr : right.length = m.length) (hw : withinP right 67108864 = true) : solveP m right = solF (elimBy mvR (copyP m right) (wid m)) (wid m) := by
  have hb := both_small hv hr hw
  have j1 := elim_inv (ups_mover (copyP m right) (wid m + 1)) hb.lens (wid m) (by omega)
  have j2 := elim_inv (mvR_mover (copyP m right) (wid m + 1)) hb.lens (wid m) (by omega)
  have jp := pivots_agree (ups_mover (copyP m right) (wid m + 1)) (mvR_mover (copyP m right) (wid m + 1)) hb.lens (wid m) (by omega)
  unfold solveP
  rw [if_pos hv, if_pos hr, if_pos hw, elim_by, solF_same j1 j2 jp (by omega)]
def tensP (s : Sy) : List (Int × Int) × Int := if validS s = true then solveP (matS s) (wtsS s) else ([], 1)
theorem OkS.sol_len {s : Sy} (ok : OkS s) (hz : (solveP (matS s) (wtsS s)).2 = 0) : (solveP (matS s) (wtsS s)).1.length = s.rs.length := by
  have e := solveP_in ok.mat_valid (by rw [ok.wts_len, ok.mat_len]) ok.wts_in
  rw [e] at hz ⊢
  rw [(sol_num ok.mat_valid (by rw [ok.wts_len, ok.mat_len]) ok.wts_in hz).1, ok.mat_wid]
theorem tensP_le (s : Sy) : (tensP s).1.length ≤ 1000 := by
  unfold tensP
  split
  · rename_i h; exact solveP_le _ _ (validS_ok h).mat_valid
  · simp
theorem tensP_len {s : Sy} (h : (tensP s).2 = 0) : validS s = true ∧ (tensP s).1.length = s.rs.length := by
  unfold tensP at h ⊢
  split
  · rename_i hv
    rw [if_pos hv] at h
    exact ⟨hv, (validS_ok hv).sol_len h⟩
  · rename_i hv
    rw [if_neg hv] at h
    simp at h
theorem OkS.mat_fit {s : Sy} (ok : OkS s) : (matS s).length ≤ 1000000 ∧ (∀ r ∈ matS s, r.length ≤ 1000000) ∧ (wtsS s).length ≤ 1000000 := by
  have := ok.b6
  have := ok.r6
  refine ⟨by rw [ok.mat_len]; omega, fun r hr => ?_, by rw [ok.wts_len]; omega⟩
  obtain ⟨b, _, rfl⟩ := List.mem_map.1 hr
  simp; omega
theorem tens_prog (s : Sy) (hf : Fits s) : PRet Try.prog 33 [syD s] (fse (tensP s)) := by
  refine PRet.intro 1 fun t => ACall.enter tab_ok Try.func33 rfl rfl Try.ntmps33 (by simp) ?_
  simp only [enterTM]
  have hM := matrix_prog s hf
  have hW := weights_prog s hf
  cases hv : validS s
  · rw [hv] at hM
    simp only [Bool.false_eq_true, if_false] at hM
    have e : tensP s = ([], 1) := by simp [tensP, hv]
    have f0 : frC [] = [] := rfl
    ((refine gga1 hM ?_))
    ((repeat refine AW_seq ?_); (refine wta ?_); simp (disch := omega) only [retQ, resD, oneD, rsv, rs, rsL, rsL_eq_map, List.map_map, bb, bt, zDs, zD, eqCells, simprocAttr, Try.results33, e, f0])
    rfl
  · rw [hv] at hM hW
    simp only [if_true] at hM hW
    have ok := validS_ok hv
    obtain ⟨g1, g2, g3⟩ := ok.mat_fit
    have hS := solve (matS s) (wtsS s) g1 g2 g3
    have e : tensP s = solveP (matS s) (wtsS s) := by simp [tensP, hv]
    rw [← e] at hS
    generalize tensP s = X at *
    ((refine gga3 hM hW hS ?_))
    ((repeat refine AW_seq ?_); (refine wta ?_); simp (disch := omega) only [retQ, resD, oneD, bb, bt, zDs, zD, eqCells, simprocAttr, Try.results33])
    exact rsv_tidy _ _ (by simp only [tidyD, tidyL, tidy_fr, Bool.not_false, Bool.and_self])
def hix (s : Sy) : Int := idx (fun r : Rp => r.hl) s.rs 0
def haulP (s : Sy) : (Int × Int) × Int := if (tensP s).2 = 0 then (if hix s < 0 then ((0, 0), 12) else ((tensP s).1.getD (hix s).toNat (0, 0), 0)) else ((0, 0), (tensP s).2)
theorem hix_hit {s : Sy} (h : ¬ hix s < 0) : ∃ (i : Nat) (r : Rp), hix s = i ∧ s.rs[i]? = some r ∧ r.hl = true := by
  obtain ⟨h1, h2⟩ := idx_lt (fun r : Rp => r.hl) s.rs 0
  cases ha : s.rs.any (fun r : Rp => r.hl)
  · unfold hix at h; rw [h2 ha] at h; omega
  · obtain ⟨i, x, e, hi, hx⟩ := h1 ha
    exact ⟨i, x, by unfold hix; rw [e, Nat.zero_add], hi, hx⟩
theorem haul1 (r : Rp) : PRet Try.prog 122 [.agg (rp1 r)] (bool r.hl) := by
  refine PRet.intro 1 fun t => ACall.enter tab_ok Try.func122 rfl rfl Try.ntmps122 (by simp) ?_
  simp only [enterTM]
  ((refine gga0 ?_))
  ((repeat refine AW_seq ?_); (refine wta ?_); simp (disch := omega) only [retQ, resD, oneD, rsv, rs, rsL, rsL_eq_map, List.map_map, bb, bt, zDs, zD, eqCells, simprocAttr, Try.results122])
theorem haul_prog (s : Sy) (hf : Fits s) : PRet Try.prog 60 [syD s] (fe (haulP s)) := by
  refine PRet.intro 1 fun t => ACall.enter tab_ok Try.func60 rfl rfl Try.ntmps60 (by simp) ?_
  simp only [enterTM]
  have hT := tens_prog s hf
  have hI := indexFuncRp s.rs 122 [] (fun r => r.hl) hf.nr (fun x _ => haul1 x)
  have e0 : hix s = idx (fun r : Rp => r.hl) s.rs 0 := rfl
  try rw [← e0] at hI
  have hlen := tensP_len (s := s)
  have eh : haulP s = if (tensP s).2 = 0 then (if hix s < 0 then ((0, 0), 12) else ((tensP s).1.getD (hix s).toNat (0, 0), 0)) else ((0, 0), (tensP s).2) := rfl
  have hle := tensP_le s
  generalize tensP s = X at *
  cases hz : (X.2 == 0)
  · have hz' : (X.2 != 0) = true := by simpa using hz
    have ez : ¬ X.2 = 0 := by simpa using hz
    rw [if_neg ez] at eh
    ((refine ggb1 hz' hT ?_))
    ((repeat refine AW_seq ?_); (refine wta ?_); simp (disch := omega) only [retQ, resD, oneD, rsv, rs, rsL, rsL_eq_map, List.map_map, bb, bt, zDs, zD, eqCells, simprocAttr, Try.results60, eh])
  have hz' : (X.2 != 0) = false := by simpa using hz
  have ez : X.2 = 0 := by simpa using hz
  rw [if_pos ez] at eh
  by_cases hi : hix s < 0
  · rw [if_pos hi] at eh
    ((refine ggb2 (F := _∧_) ⟨hz', hi⟩ hT hI ?_))
    ((repeat refine AW_seq ?_); (refine wta ?_); simp (disch := omega) only [retQ, resD, oneD, rsv, rs, rsL, rsL_eq_map, List.map_map, bb, bt, zDs, zD, eqCells, simprocAttr, Try.results60, eh])
  rw [if_neg hi] at eh
  obtain ⟨i, r, hie, hri, _⟩ := hix_hit hi
  rw [hie] at hI eh
  have hil := (List.getElem?_eq_some_iff.1 hri).1
  obtain ⟨_, hl⟩ := hlen ez
  obtain ⟨x, hx⟩ : ∃ x, X.1[i]? = some x := ⟨_, List.getElem?_eq_getElem (by omega)⟩
  rw [Int.toNat_natCast, List.getD_eq_getElem?_getD, hx, Option.getD_some] at eh
  have hra := frC_read X.1 i x hx
  have hfl := frC_len X.1
  have hi0 : ¬ (i : Int) < 0 := by omega
  have hix1 : i < X.1.length := by omega
  ((refine ggb2 (F := _∧_∧_∧_) ⟨hz', hi0, hix1, hra⟩ hT hI ?_))
  ((repeat refine AW_seq ?_); (refine wta ?_); simp (disch := omega) only [retQ, resD, oneD, rsv, rs, rsL, rsL_eq_map, List.map_map, bb, bt, zDs, zD, eqCells, simprocAttr, Try.results60, eh])
end Go.Proofs.Ytjjpjgnoanfaoaa.T
end

section
namespace Go.Proofs.Ytjjpjgnoanfaoaa.T
open Go Go.RowKit Lin
set_option linter.unusedSimpArgs false

/-! Small systems. -/
def smallH (l : List Hd) : Bool := l.all fun h => decide (h.b.size ≤ 60)
def smallR (r : Rp) : Bool := decide (r.nm.size ≤ 60) && decide (r.hs.length ≤ 13) && smallH r.hs
def smallB (b : Bk) : Bool := decide (b.nm.size ≤ 60)
def smallS (s : Sy) : Bool := decide (s.bs.length ≤ 9 ∧ s.rs.length ≤ 9) && s.bs.all smallB && s.rs.all smallR
theorem all_not {α : Type} {p : α → Bool} {l : List α} {k : Nat} {x : α} (hx : l[k]? = some x) (h : p x = false) : l.all p = false := by
  rw [← Bool.not_eq_true, List.all_eq_true]
  intro hh
  rw [hh x (List.mem_of_getElem? hx)] at h
  cases h
theorem all_of_get {α : Type} {p : α → Bool} {l : List α} (h : ∀ (k : Nat) (x : α), l[k]? = some x → p x = true) : l.all p = true := List.all_eq_true.2 fun x hx => by
  obtain ⟨i, hi⟩ := List.mem_iff_getElem?.1 hx
  exact h i x hi
theorem small_fits {s : Sy} (h : smallS s = true) : Fits s := by
  simp only [smallS, Bool.and_eq_true, decide_eq_true_eq, List.all_eq_true] at h
  obtain ⟨⟨⟨h1, h2⟩, h3⟩, h4⟩ := h
  refine ⟨by omega, by omega, fun b hb => ?_, fun r hr => ?_⟩
  · have := h3 b hb
    simp only [smallB, decide_eq_true_eq] at this
    omega
  · have := h4 r hr
    simp only [smallR, Bool.and_eq_true, decide_eq_true_eq] at this
    omega
set_option maxHeartbeats 2000000 in
theorem small_ref (s : Sy) : PRet Try.prog 87 [syD s] (bool (smallS s)) := by
  refine PRet.intro 1 fun t => ACall.enter tab_ok Try.func87 rfl rfl Try.ntmps87 (by simp) ?_
  simp only [enterTM]
  have hlb := bkC_len s.bs
  have hdb := bkC_div s.bs
  have hlr := rpC_len s.rs
  have hdr := rpC_div s.rs
  by_cases a1 : 9 < (s.bs.length : Int)
  · have ho : smallS s = false := by
      have : ¬ (s.bs.length ≤ 9 ∧ s.rs.length ≤ 9) := by omega
      simp only [smallS, this, decide_false, Bool.false_and]
    ((refine ggb0 (F := _∧_) ⟨hdb, a1⟩ ?_))
    ((repeat refine AW_seq ?_); (refine wta ?_); simp (disch := omega) only [retQ, resD, oneD, rsv, rs, rsL, rsL_eq_map, List.map_map, bb, bt, zDs, zD, eqCells, simprocAttr, Try.results87, ho])
  by_cases a2 : 9 < (s.rs.length : Int)
  · have ho : smallS s = false := by
      have : ¬ (s.bs.length ≤ 9 ∧ s.rs.length ≤ 9) := by omega
      simp only [smallS, this, decide_false, Bool.false_and]
    ((refine ggb0 (F := _∧_∧_∧_) ⟨hdb, hdr, a1, a2⟩ ?_))
    ((repeat refine AW_seq ?_); (refine wta ?_); simp (disch := omega) only [retQ, resD, oneD, rsv, rs, rsL, rsL_eq_map, List.map_map, bb, bt, zDs, zD, eqCells, simprocAttr, Try.results87, ho])
  ((refine ggb0 (F := _∧_∧_∧_) ⟨hdb, hdr, a1, a2⟩ ?_))
  ((repeat refine AW_seq ?_))
  refine AW_mid (fun _ : Unit => ⟨[(1, .ptr 0 (t + 1) 0)], [some ⟨49, t + 1, [bks s.bs, rps s.rs]⟩], t + 1⟩) (fun _ => s.bs.all smallB = true) ?_ ?_
  · refine AW_block ?_
    refine AW_loop_w (fun k : Nat => ⟨[(1, .ptr 0 (t + 1) 0), (3, int k)], [some ⟨49, t + 1, [bks s.bs, rps s.rs]⟩], t + 1⟩) (fun k => s.bs.length - k) (fun k => k ≤ s.bs.length ∧ ∀ j x, j < k → s.bs[j]? = some x → smallB x = true) 0 ⟨Nat.zero_le _, fun j x hj => absurd hj (Nat.not_lt_zero _)⟩ (by (simp (disch := omega) only [StLe, tmLe, hpLe_refl, hpLe, bl, bb, bt, zDs, zD, eqCells, simprocAttr])) fun k ⟨hk, hin⟩ => ?_
    by_cases hlt : k < s.bs.length
    · obtain ⟨b, hb⟩ : ∃ y, s.bs[k]? = some y := ⟨_, List.getElem?_eq_getElem hlt⟩
      have hnm := bkC_name s.bs k b hb
      ((refine ggb0 (F := _∧_∧_) ⟨@Int.ofNat_lt, hlt, hdb⟩ ?_))
      ((repeat refine AW_seq ?_))
      refine AW_block ?_
      by_cases hz : 60 < (b.nm.size : Int)
      · have ho : smallS s = false := by
          have : smallB b = false := by simp only [smallB, decide_eq_false_iff_not]; omega
          simp only [smallS, all_not hb this, Bool.and_false, Bool.false_and]
        ((refine ggb0 (F := _∧_∧_∧_) ⟨hdb, hlt, hnm, hz⟩ ?_))
        ((repeat refine AW_seq ?_); (refine wta ?_); simp (disch := omega) only [retQ, resD, oneD, rsv, rs, rsL, rsL_eq_map, List.map_map, bb, bt, zDs, zD, eqCells, simprocAttr, Try.results87, ho])
      · ((refine ggb0 (F := _∧_∧_∧_) ⟨hdb, hlt, hnm, hz⟩ ?_))
        refine ⟨k + 1, ⟨hlt, fun j x hj hx => ?_⟩, by omega, ?_⟩
        · by_cases e : j = k
          · subst e; rw [hb] at hx; cases hx; simp only [smallB, decide_eq_true_eq]; omega
          · exact hin j x (by omega) hx
        (simp (disch := omega) only [StLe, tmLe, hpLe_refl, hpLe, bl, bb, bt, zDs, zD, eqCells, simprocAttr])
    · have hke : k = s.bs.length := by omega
      subst hke
      ((refine ggb0 (F := _∧_) ⟨@Int.lt_irrefl, hdb⟩ ?_))
      exact ⟨(), all_of_get fun j x hx => hin j x (List.getElem?_eq_some_iff.1 hx).1 hx, by (simp (disch := omega) only [StLe, tmLe, hpLe_refl, hpLe, bl, bb, bt, zDs, zD, eqCells, simprocAttr])⟩
  rintro - hbs
  ((refine gga0 ?_))
  ((repeat refine AW_seq ?_))
  refine AW_mid (fun _ : Unit => ⟨[], [], t + 1⟩) (fun _ => s.rs.all smallR = true) ?_ ?_
  · refine AW_block ?_
    refine AW_loop_w (fun k : Nat => ⟨[(1, .ptr 0 (t + 1) 0), (4, int k)], [some ⟨49, t + 1, [bks s.bs, rps s.rs]⟩], t + 1⟩) (fun k => s.rs.length - k) (fun k => k ≤ s.rs.length ∧ ∀ j x, j < k → s.rs[j]? = some x → smallR x = true) 0 ⟨Nat.zero_le _, fun j x hj => absurd hj (Nat.not_lt_zero _)⟩ (by (simp (disch := omega) only [StLe, tmLe, hpLe_refl, hpLe, bl, bb, bt, zDs, zD, eqCells, simprocAttr])) fun k ⟨hk, hin⟩ => ?_
    by_cases hlt : k < s.rs.length
    · obtain ⟨r, hr⟩ : ∃ y, s.rs[k]? = some y := ⟨_, List.getElem?_eq_getElem hlt⟩
      have hnm := rpC_name s.rs k r hr
      have hhs : (rpC s.rs)[k * 3 + 1]? = some (hds r.hs) := rpC_cell s.rs k r hr 1 (by decide)
      have hdh := hdC_div r.hs
      have hlh := hdC_len r.hs
      ((refine ggb0 (F := _∧_∧_) ⟨@Int.ofNat_lt, hlt, hdr⟩ ?_))
      ((repeat refine AW_seq ?_))
      refine AW_block ?_
      have hno : smallR r = false → smallS s = false := fun h => by simp only [smallS, all_not hr h, Bool.and_false]
      by_cases hz : 60 < (r.nm.size : Int)
      · have ho := hno (by
          have : ¬ r.nm.size ≤ 60 := by omega
          simp only [smallR, this, decide_false, Bool.false_and])
        ((refine ggb0 (F := _∧_∧_∧_) ⟨hdr, hlt, hnm, hz⟩ ?_))
        ((repeat refine AW_seq ?_); (refine wta ?_); simp (disch := omega) only [retQ, resD, oneD, rsv, rs, rsL, rsL_eq_map, List.map_map, bb, bt, zDs, zD, eqCells, simprocAttr, Try.results87, ho])
      by_cases hz2 : 13 < (r.hs.length : Int)
      · have ho := hno (by
          have : ¬ r.hs.length ≤ 13 := by omega
          simp only [smallR, this, decide_false, Bool.false_and, Bool.and_false])
        ((refine ggb0 (F := _∧_∧_∧_∧_∧_∧_) ⟨hdr, hlt, hnm, hz, hhs, hdh, hz2⟩ ?_))
        ((repeat refine AW_seq ?_); (refine wta ?_); simp (disch := omega) only [retQ, resD, oneD, rsv, rs, rsL, rsL_eq_map, List.map_map, bb, bt, zDs, zD, eqCells, simprocAttr, Try.results87, ho])
      ((refine ggb0 (F := _∧_∧_∧_∧_∧_∧_) ⟨hdr, hlt, hnm, hz, hhs, hdh, hz2⟩ ?_))
      · ((repeat refine AW_seq ?_))
        refine AW_block ?_
        refine AW_loop_w (fun i : Nat => ⟨[(1, .ptr 0 (t + 1) 0), (4, int k), (5, int i)], [some ⟨49, t + 1, [bks s.bs, rps s.rs]⟩], t + 1⟩) (fun i => r.hs.length - i) (fun i => i ≤ r.hs.length ∧ ∀ j x, j < i → r.hs[j]? = some x → decide (x.b.size ≤ 60) = true) 0 ⟨Nat.zero_le _, fun j x hj => absurd hj (Nat.not_lt_zero _)⟩ (by (simp (disch := omega) only [StLe, tmLe, hpLe_refl, hpLe, bl, bb, bt, zDs, zD, eqCells, simprocAttr])) fun i ⟨hi, hjn⟩ => ?_
        by_cases hli : i < r.hs.length
        · obtain ⟨h, hh⟩ : ∃ y, r.hs[i]? = some y := ⟨_, List.getElem?_eq_getElem hli⟩
          have hhn := hdC_name r.hs i h hh
          ((refine ggb0 (F := _∧_∧_∧_∧_∧_) ⟨@Int.ofNat_lt, hli, hdr, hlt, hhs, hdh⟩ ?_))
          ((repeat refine AW_seq ?_))
          refine AW_block ?_
          by_cases hz3 : 60 < (h.b.size : Int)
          · have ho := hno (by
              have : decide (h.b.size ≤ 60) = false := by simp only [decide_eq_false_iff_not]; omega
              simp only [smallR, smallH, all_not (p := fun h : Hd => decide (h.b.size ≤ 60)) hh this, Bool.and_false])
            ((refine ggb0 (F := _∧_∧_∧_∧_∧_∧_) ⟨hdr, hlt, hhs, hdh, hli, hhn, hz3⟩ ?_))
            ((repeat refine AW_seq ?_); (refine wta ?_); simp (disch := omega) only [retQ, resD, oneD, rsv, rs, rsL, rsL_eq_map, List.map_map, bb, bt, zDs, zD, eqCells, simprocAttr, Try.results87, ho])
          · ((refine ggb0 (F := _∧_∧_∧_∧_∧_∧_) ⟨hdr, hlt, hhs, hdh, hli, hhn, hz3⟩ ?_))
            refine ⟨i + 1, ⟨hli, fun j x hj hx => ?_⟩, by omega, ?_⟩
            · by_cases e : j = i
              · subst e; rw [hh] at hx; cases hx; simp only [decide_eq_true_eq]; omega
              · exact hjn j x (by omega) hx
            (simp (disch := omega) only [StLe, tmLe, hpLe_refl, hpLe, bl, bb, bt, zDs, zD, eqCells, simprocAttr])
        · have hie : i = r.hs.length := by omega
          subst hie
          ((refine ggb0 (F := _∧_∧_∧_∧_) ⟨@Int.lt_irrefl, hdr, hlt, hhs, hdh⟩ ?_))
          have hall : smallH r.hs = true := all_of_get fun j x hx => hjn j x (List.getElem?_eq_some_iff.1 hx).1 hx
          refine ⟨k + 1, ⟨hlt, fun j x hj hx => ?_⟩, by omega, ?_⟩
          · by_cases e : j = k
            · subst e; rw [hr] at hx; cases hx
              have h1 : r.nm.size ≤ 60 := by omega
              have h2 : r.hs.length ≤ 13 := by omega
              simp only [smallR, h1, h2, hall, decide_true, Bool.and_self]
            · exact hin j x (by omega) hx
          (simp (disch := omega) only [StLe, tmLe, hpLe_refl, hpLe, bl, bb, bt, zDs, zD, eqCells, simprocAttr])
    · have hke : k = s.rs.length := by omega
      subst hke
      ((refine ggb0 (F := _∧_) ⟨@Int.lt_irrefl, hdr⟩ ?_))
      exact ⟨(), all_of_get fun j x hx => hin j x (List.getElem?_eq_some_iff.1 hx).1 hx, by (simp (disch := omega) only [StLe, tmLe, hpLe_refl, hpLe, bl, bb, bt, zDs, zD, eqCells, simprocAttr])⟩
  rintro - hrs
  have ho : smallS s = true := by
    have : s.bs.length ≤ 9 ∧ s.rs.length ≤ 9 := by omega
    simp only [smallS, this, hbs, hrs, and_self, decide_true, Bool.and_self]
  ((refine gga0 ?_))
  ((repeat refine AW_seq ?_); (refine wta ?_); simp (disch := omega) only [retQ, resD, oneD, rsv, rs, rsL, rsL_eq_map, List.map_map, bb, bt, zDs, zD, eqCells, simprocAttr, Try.results87, ho])
end Go.Proofs.Ytjjpjgnoanfaoaa.T
end

section
namespace Go.Proofs.Ytjjpjgnoanfaoaa.T
open Go Go.RowKit Lin
set_option linter.unusedSimpArgs false

/-! Chapter 11: the example, and the law of tensions. -/
theorem whole11 (n : Int) : PRet Try.prog 86 [int n] (frD (n, 1)) := by
  refine PRet.intro 1 fun t => ACall.enter tab_ok Try.func86 rfl rfl Try.ntmps86 (by simp) ?_
  simp only [enterTM]
  ((refine gga0 ?_))
  ((repeat refine AW_seq ?_); (refine wta ?_); simp (disch := omega) only [retQ, resD, oneD, rsv, rs, rsL, rsL_eq_map, List.map_map, bb, bt, zDs, zD, eqCells, simprocAttr, Try.results86])
theorem few11 (s : Sy) (l : List (Int × Int)) (hl : l.length ≤ 1000000) : PRet Try.prog 32 [syD s, frs l] (bool (smallS s && decide (l.length ≤ 10))) := by
  refine PRet.intro 1 fun t => ACall.enter tab_ok Try.func32 rfl rfl Try.ntmps32 (by simp) ?_
  simp only [enterTM]
  have hS := small_ref s
  have hfl := frC_len l
  have hf2 : (frC l).length / 2 = l.length := by omega
  have he : decide ((l.length : Int) ≤ 10) = decide (l.length ≤ 10) := by rw [decide_eq_decide]; omega
  cases hs : smallS s
  · rw [hs] at hS
    ((refine gga1 hS ?_))
    ((repeat refine AW_seq ?_); (refine wta ?_); simp (disch := omega) only [retQ, resD, oneD, rsv, rs, rsL, rsL_eq_map, List.map_map, bb, bt, zDs, zD, eqCells, simprocAttr, Try.results32])
  · rw [hs] at hS
    ((refine ggb1 (F := _∧_) ⟨hf2, he⟩ hS ?_))
    ((repeat refine AW_seq ?_); (refine wta ?_); simp (disch := omega) only [retQ, resD, oneD, rsv, rs, rsL, rsL_eq_map, List.map_map, bb, bt, zDs, zD, eqCells, simprocAttr, Try.results32])
def hB : ByteArray := ⟨#[98]⟩
def hR : ByteArray := ⟨#[114]⟩
def hE : ByteArray := ⟨#[]⟩
def tack : Bool → Sy
  | false => ⟨[⟨hB, 60⟩], [⟨hR, [⟨hE, 0, 1, 1⟩, ⟨hB, 2, 1, 1⟩, ⟨hE, 0, 1, 1⟩], true⟩]⟩
  | true => ⟨[⟨hB, 60⟩], [⟨hR, [⟨hB, 1, 1, 1⟩, ⟨hE, 0, 1, 1⟩, ⟨hB, 2, 1, 1⟩, ⟨hE, 0, 1, 1⟩], true⟩]⟩
theorem tackle11 (b : Bool) : PRet Try.prog 85 [bool b] (syD (tack b)) := by
  refine PRet.intro 3 fun t => ACall.enter tab_ok Try.func85 rfl rfl Try.ntmps85 (by simp) ?_
  simp only [enterTM]
  have hw := whole11 1
  cases b
  · ((refine gga1 hw ?_))
    ((repeat refine AW_seq ?_); (refine wta ?_); simp (disch := omega) only [retQ, resD, oneD, rsv, rs, rsL, rsL_eq_map, List.map_map, bb, bt, zDs, zD, eqCells, simprocAttr, Try.results85])
    rfl
  · ((refine gga1 hw ?_))
    ((repeat refine AW_seq ?_); (refine wta ?_); simp (disch := omega) only [retQ, resD, oneD, rsv, rs, rsL, rsL_eq_map, List.map_map, bb, bt, zDs, zD, eqCells, simprocAttr, Try.results85])
    rfl
theorem tack_fits (b : Bool) : Fits (tack b) := small_fits (by cases b <;> decide +kernel)
theorem tack_haul : haulP (tack false) = ((30, 1), 0) := by decide +kernel
theorem tack_tens : tensP (tack true) = ([(20, 1)], 0) := by decide +kernel
theorem awake11 : PRet Try.prog 31 [] (bool true) := by
  refine PRet.intro 1 fun t => ACall.enter tab_ok Try.func31 rfl rfl Try.ntmps31 (by simp) ?_
  simp only [enterTM]
  have hH := haul_prog (tack false) (tack_fits false)
  have hT := tens_prog (tack true) (tack_fits true)
  rw [tack_haul] at hH
  rw [tack_tens] at hT
  have t1 := tackle11 false
  have t2 := tackle11 true
  have w1 := whole11 30
  have w2 := whole11 20
  have hE : PRet Try.prog 38 [frs [(20, 1)], .sl 2 [int 20, int 1] false] (bool true) := equalFr [(20, 1)] [(20, 1)] (by simp) (by simp)
  ((refine gga4_SKM t1 t2 hH hT ?_))
  ((repeat refine AW_seq ?_); (refine gdza3_SKM w1 w2 hE ?_))
  ((repeat refine AW_seq ?_); (refine wta ?_); simp (disch := omega) only [retQ, resD, oneD, rsv, rs, rsL, rsL_eq_map, List.map_map, bb, bt, zDs, zD, eqCells, simprocAttr, Try.results31])
end Go.Proofs.Ytjjpjgnoanfaoaa.T
end

section
section
namespace Go.Proofs.Ytjjpjgnoanfaoaa.T
open Go Go.RowKit Lin
set_option linter.unusedSimpArgs false

/-! Differences, sums of products. -/
theorem AW_scope {P : Program} {n : Nat} {c : Code} {Q : Exit → St → Prop} {st : St} (hq : ∀ l s, ¬ Q (.goto l) s) (h : AW P n c Q st) : AW P n (.scope c) Q st := fun w0 F G a w hs => by
  refine wp_scope_straight (wp_mono (h w0 F G a w hs) fun e a' w' l => ?_)
  cases e with
  | goto l' => obtain ⟨_, _, s, _, _, h3⟩ := l; exact absurd h3 (hq _ _)
  | _ => exact l
theorem AW_label {P : Program} {n l : Nat} {Q : Exit → St → Prop} {st : St} (h : Q .normal st) : AW P n (.label l) Q st := fun _w0 F G _ _ hs => wp_label ⟨F, G, st, .refl _ _ _, hs, h⟩
theorem vfrac_neg {a b : Int} (h : vfrac a b = true) : vfrac (-a) b = true := by
  unfold vfrac at h ⊢
  simp only [Bool.and_eq_true, decide_eq_true_eq, Int.natAbs_neg] at h ⊢
  omega
def subP (a b : Int × Int) : (Int × Int) × Int := if vfrac a.1 a.2 = true ∧ vfrac b.1 b.2 = true then addR a (-b.1, b.2) else ((0, 0), 1)
theorem subP_valid {a b : Int × Int} (ha : vfrac a.1 a.2 = true) (hb : vfrac b.1 b.2 = true) (h : (subP a b).2 = 0) : vfrac (subP a b).1.1 (subP a b).1.2 = true := by
  unfold subP at h ⊢
  rw [if_pos ⟨ha, hb⟩] at h ⊢
  exact addR_valid ha (vfrac_neg hb) h
def plusP (s : Int × Int) (n : Int) (f : Int × Int) : (Int × Int) × Int := if (mulP (n, 1) f).2 = 0 then addP s (mulP (n, 1) f).1 else ((0, 0), (mulP (n, 1) f).2)
theorem dotF_plus {r : List Int} {x : List (Int × Int)} {k : Nat} {n : Int} {f : Int × Int} (hr : r[k]? = some n) (hx : x[k]? = some f) (s : Int × Int) : dotF (r.drop k) (x.drop k) s = if (plusP s n f).2 = 0 then dotF (r.drop (k + 1)) (x.drop (k + 1)) (plusP s n f).1 else ((0, 0), (plusP s n f).2) := by
  rw [dotF_step hr hx]
  unfold plusP
  split
  · rfl
  · rfl
theorem plusP_valid {s f : Int × Int} {n : Int} (hs : vfrac s.1 s.2 = true) (hf : vfrac f.1 f.2 = true) (hn : -1152921504606846976 ≤ n ∧ n ≤ 1152921504606846976) (h : (plusP s n f).2 = 0) : vfrac (plusP s n f).1.1 (plusP s n f).1.2 = true := by
  have h1 : vfrac n 1 = true := vfrac_one (by omega)
  unfold plusP at h ⊢
  split at h
  · rename_i h2
    rw [if_pos h2]
    rw [mulP_ok h1 hf] at *
    have hv := mulR_valid (a := (n, 1)) h1 hf h2
    rw [addP_ok hs hv] at *
    exact addR_valid hs hv h
  · rename_i h2; exact absurd h h2
theorem allV_at {l : List (Int × Int)} {k : Nat} {f : Int × Int} (h : allV l = true) (hk : l[k]? = some f) : vfrac f.1 f.2 = true := by
  unfold allV at h
  rw [List.all_eq_true] at h
  exact h f (List.mem_of_getElem? hk)
theorem allV_any (l : List (Int × Int)) : (l.any fun x => !vfrac x.1 x.2) = !allV l := by
  unfold allV
  induction l with
  | nil => rfl
  | cons x l ih => simp only [List.any_cons, List.all_cons, ih, Bool.not_and]
/-! What is given. -/
def givE (s : Sy) (l : List (Int × Int)) : Int := if validS s = true ∧ allV l = true then (if l.length = s.rs.length then 0 else 3) else 1
end Go.Proofs.Ytjjpjgnoanfaoaa.T
end

section
namespace Go.Proofs.Ytjjpjgnoanfaoaa.T
open Go Go.RowKit Lin
set_option linter.unusedSimpArgs false

/-! The total of tensions. -/
def pulN (m : List (List Int)) (k i : Nat) : Int := ((m.take i).map fun r => r.getD k 0).sum
def colS (m : List (List Int)) (w : Nat) : List Int := (List.range w).map fun k => pulN m k m.length
theorem pulN_zero (m : List (List Int)) (k : Nat) : pulN m k 0 = 0 := by simp [pulN]
theorem pulN_step {m : List (List Int)} {k i : Nat} {r : List Int} {n : Int} (hr : m[i]? = some r) (hn : r[k]? = some n) : pulN m k (i + 1) = pulN m k i + n := by
  unfold pulN
  rw [List.take_add_one, hr]
  simp [List.getD, hn]
theorem pulN_le {m : List (List Int)} {k : Nat} (h : ∀ r ∈ m, ∀ x ∈ r, -32 ≤ x ∧ x ≤ 32) (hk : ∀ r ∈ m, k < r.length) : ∀ i, i ≤ m.length → -32 * (i : Int) ≤ pulN m k i ∧ pulN m k i ≤ 32 * (i : Int)
  | 0, _ => by rw [pulN_zero]; omega
  | i + 1, hi => by
    obtain ⟨r, hr⟩ : ∃ r, m[i]? = some r := ⟨_, List.getElem?_eq_getElem (by omega)⟩
    have hm := List.mem_of_getElem? hr
    obtain ⟨n, hn⟩ : ∃ n, r[k]? = some n := ⟨_, List.getElem?_eq_getElem (hk r hm)⟩
    have hb := h r hm n (List.mem_of_getElem? hn)
    have ih := pulN_le h hk i (by omega)
    rw [pulN_step hr hn]
    omega
theorem colS_at {m : List (List Int)} {w k : Nat} (h : k < w) : (colS m w)[k]? = some (pulN m k m.length) := by
  unfold colS
  rw [List.getElem?_map, List.getElem?_range h]
  rfl
theorem givE_zero {s : Sy} {l : List (Int × Int)} (h : givE s l = 0) : validS s = true ∧ allV l = true ∧ l.length = s.rs.length := by
  unfold givE at h
  split at h
  · rename_i h1
    split at h
    · rename_i h2; exact ⟨h1.1, h1.2, h2⟩
    · cases h
  · cases h
def totP (s : Sy) (l : List (Int × Int)) : (Int × Int) × Int := if givE s l = 0 then dotF (colS (matS s) s.rs.length) l (0, 1) else ((0, 0), givE s l)
end Go.Proofs.Ytjjpjgnoanfaoaa.T
end

section
namespace Go.Proofs.Ytjjpjgnoanfaoaa.T
open Go Go.RowKit Lin
set_option linter.unusedSimpArgs false

/-! The total of tensions, by the reference. -/
theorem fz_frS (b g : Nat) (cs : List D) : ∀ l : List (Int × Int), fzL b g cs (frC l) = frC l
  | [] => by simp only [frC, List.flatMap_nil, fzL]
  | x :: l => by have := fz_frS b g cs l; simp only [frC, List.flatMap_cons, List.cons_append, List.nil_append, fzL, fz] at this ⊢; rw [this]
theorem colS_len (m : List (List Int)) (w : Nat) : (colS m w).length = w := by simp [colS]
theorem colS_take {m : List (List Int)} {w k : Nat} (h : k < w) : (colS m w).take (k + 1) = (colS m w).take k ++ [pulN m k m.length] := by
  rw [List.take_add_one, colS_at h]; rfl
end Go.Proofs.Ytjjpjgnoanfaoaa.T
end

section
namespace Go.Proofs.Ytjjpjgnoanfaoaa.T
open Go Go.RowKit Lin
set_option linter.unusedSimpArgs false

/-! Chapter 11: the law of totals. -/
theorem few11L (s : Sy) (l : List (Int × Int)) : PRet Try.prog 32 [syD s, frs l] (bool (smallS s && decide (l.length ≤ 10))) := by
  refine PRet.intro 1 fun t => ACall.enter tab_ok Try.func32 rfl rfl Try.ntmps32 (by simp) ?_
  simp only [enterTM]
  have hS := small_ref s
  have hfl := frC_len l
  have hf2 : (frC l).length / 2 = l.length := by omega
  have he : decide ((l.length : Int) ≤ 10) = decide (l.length ≤ 10) := by rw [decide_eq_decide]; omega
  cases hs : smallS s
  · rw [hs] at hS
    ((refine gga1 hS ?_))
    ((repeat refine AW_seq ?_); (refine wta ?_); simp (disch := omega) only [retQ, resD, oneD, rsv, rs, rsL, rsL_eq_map, List.map_map, bb, bt, zDs, zD, eqCells, simprocAttr, Try.results32])
  · rw [hs] at hS
    ((refine ggb1 (F := _∧_) ⟨hf2, he⟩ hS ?_))
    ((repeat refine AW_seq ?_); (refine wta ?_); simp (disch := omega) only [retQ, resD, oneD, rsv, rs, rsL, rsL_eq_map, List.map_map, bb, bt, zDs, zD, eqCells, simprocAttr, Try.results32])
end Go.Proofs.Ytjjpjgnoanfaoaa.T
end
end

section
section
namespace Go.Proofs.Ytjjpjgnoanfaoaa.T
open Go Go.RowKit Lin
set_option linter.unusedSimpArgs false

/-! The residuals. -/
def resA (l : List (Int × Int)) : List (List Int) → List Int → List (Int × Int) → List (Int × Int) × Int
  | r :: m, w :: ws, acc => if (dotF r l (0, 1)).2 = 0 then (if (subP (w, 1) (dotF r l (0, 1)).1).2 = 0 then resA l m ws (acc ++ [(subP (w, 1) (dotF r l (0, 1)).1).1]) else ([], (subP (w, 1) (dotF r l (0, 1)).1).2)) else ([], (dotF r l (0, 1)).2)
  | _, _, acc => (acc, 0)
theorem resA_step {l : List (Int × Int)} {m : List (List Int)} {ws : List Int} {k : Nat} {r : List Int} {w : Int} (hr : m[k]? = some r) (hw : ws[k]? = some w) (acc : List (Int × Int)) : resA l (m.drop k) (ws.drop k) acc = if (dotF r l (0, 1)).2 = 0 then (if (subP (w, 1) (dotF r l (0, 1)).1).2 = 0 then resA l (m.drop (k + 1)) (ws.drop (k + 1)) (acc ++ [(subP (w, 1) (dotF r l (0, 1)).1).1]) else ([], (subP (w, 1) (dotF r l (0, 1)).1).2)) else ([], (dotF r l (0, 1)).2) := by
  obtain ⟨a1, a2⟩ := List.getElem?_eq_some_iff.1 hr
  obtain ⟨b1, b2⟩ := List.getElem?_eq_some_iff.1 hw
  rw [List.drop_eq_getElem_cons a1, List.drop_eq_getElem_cons b1, a2, b2]
  rfl
def resP (s : Sy) (l : List (Int × Int)) : List (Int × Int) × Int := if givE s l = 0 then resA l (matS s) (wtsS s) [] else ([], givE s l)
theorem dotF_valid : ∀ {r : List Int} {x : List (Int × Int)} {s : Int × Int}, (∀ n ∈ r, -1000 ≤ n ∧ n ≤ 1000) → allV x = true → vfrac s.1 s.2 = true → (dotF r x s).2 = 0 → vfrac (dotF r x s).1.1 (dotF r x s).1.2 = true
  | [], x, s, _, _, hs, _ => by cases x <;> exact hs
  | n :: r, [], s, _, _, hs, _ => hs
  | n :: r, f :: x, s, hr, hx, hs, h => by
    have hvf : vfrac f.1 f.2 = true := allV_at (k := 0) hx rfl
    have hx' : allV x = true := by unfold allV at hx ⊢; simp only [List.all_cons, Bool.and_eq_true] at hx; exact hx.2
    have hp := plusP_valid hs hvf (n := n) (by have := hr n (by simp); omega)
    have e := dotF_plus (r := n :: r) (x := f :: x) (k := 0) rfl rfl s
    simp only [List.drop_zero, List.drop_succ_cons, Nat.zero_add] at e
    rw [e] at h ⊢
    split at h
    · rename_i hz
      rw [if_pos hz]
      exact dotF_valid (fun m hm => hr m (List.mem_cons_of_mem _ hm)) hx' (hp hz) h
    · rename_i hz; exact absurd h hz
end Go.Proofs.Ytjjpjgnoanfaoaa.T
end

section
namespace Go.Proofs.Ytjjpjgnoanfaoaa.T
open Go Go.RowKit Lin
set_option linter.unusedSimpArgs false

/-! The residuals, by the reference. -/
end Go.Proofs.Ytjjpjgnoanfaoaa.T
end

section
namespace Go.Proofs.Ytjjpjgnoanfaoaa.T
open Go Go.RowKit Lin
set_option linter.unusedSimpArgs false

/-! The residuals, by the program. -/
end Go.Proofs.Ytjjpjgnoanfaoaa.T
end

section
namespace Go.Proofs.Ytjjpjgnoanfaoaa.T
open Go Go.RowKit Lin
set_option linter.unusedSimpArgs false

/-! Checks. -/
theorem resA_allV {l : List (Int × Int)} (hl : allV l = true) : ∀ (m : List (List Int)) (ws : List Int) (acc : List (Int × Int)), (∀ r ∈ m, ∀ n ∈ r, -1000 ≤ n ∧ n ≤ 1000) → (∀ w ∈ ws, vfrac w 1 = true) → allV acc = true → allV (resA l m ws acc).1 = true
  | [], ws, acc, _, _, ha => by simp only [resA]; exact ha
  | r :: m, [], acc, _, _, ha => by simp only [resA]; exact ha
  | r :: m, w :: ws, acc, hm, hw, ha => by
    simp only [resA]
    split
    · rename_i h1
      split
      · rename_i h2
        refine resA_allV hl m ws _ (fun x hx => hm x (List.mem_cons_of_mem _ hx)) (fun x hx => hw x (List.mem_cons_of_mem _ hx)) ?_
        have hv := subP_valid (hw w (by simp)) (dotF_valid (hm r (by simp)) hl (by decide) h1) h2
        unfold allV at ha ⊢
        rw [List.all_append, ha]
        simp [hv]
      · rfl
    · rfl
theorem resA_len {l : List (Int × Int)} : ∀ (m : List (List Int)) (ws : List Int) (acc : List (Int × Int)), (resA l m ws acc).1.length ≤ acc.length + m.length
  | [], ws, acc => by simp [resA]
  | r :: m, [], acc => by simp [resA]
  | r :: m, w :: ws, acc => by
    simp only [resA]
    split
    · split
      · have := resA_len (l := l) m ws (acc ++ [(subP (w, 1) (dotF r l (0, 1)).1).1])
        simp only [List.length_append, List.length_cons, List.length_nil] at this ⊢
        omega
      · simp
    · simp
theorem resP_len (s : Sy) (hb : s.bs.length ≤ 1000) (l : List (Int × Int)) : (resP s l).1.length ≤ 1000 := by
  unfold resP
  split
  · have := resA_len (l := l) (matS s) (wtsS s) []
    have e : (matS s).length = s.bs.length := by simp [matS]
    simp only [List.length_nil] at this
    omega
  · simp
def chkP (s : Sy) (l : List (Int × Int)) : Bool × Int := if (resP s l).2 = 0 then (!(resP s l).1.any (fun x => x.1 != 0), 0) else (false, (resP s l).2)
end Go.Proofs.Ytjjpjgnoanfaoaa.T
end

section
namespace Go.Proofs.Ytjjpjgnoanfaoaa.T
open Go Go.RowKit Lin
set_option linter.unusedSimpArgs false

/-! The reference's check. -/
theorem vfrac_zero {x : Int × Int} (h : vfrac x.1 x.2 = true) (h0 : x.1 = 0) : x.2 = 1 := by
  unfold vfrac at h
  simp only [Bool.and_eq_true, decide_eq_true_eq, h0, Int.natAbs_zero, Nat.gcd_zero_left] at h
  omega
end Go.Proofs.Ytjjpjgnoanfaoaa.T
end

section
namespace Go.Proofs.Ytjjpjgnoanfaoaa.T
open Go Go.RowKit Lin
set_option linter.unusedSimpArgs false

/-! The reference's check; the law of checks. -/
theorem any_take {α : Type} {p : α → Bool} {l : List α} {k : Nat} {x : α} (h : l[k]? = some x) : (l.take (k + 1)).any p = ((l.take k).any p || p x) := by
  rw [List.take_add_one, h]
  simp
theorem any_hit {α : Type} {p : α → Bool} {l : List α} {k : Nat} {x : α} (h : l[k]? = some x) (hp : p x = true) : l.any p = true := List.any_eq_true.2 ⟨x, List.mem_of_getElem? h, hp⟩
theorem resP_allV (s : Sy) (l : List (Int × Int)) : allV (resP s l).1 = true := by
  unfold resP
  split
  · rename_i hg
    obtain ⟨hv, ha, hz⟩ := givE_zero hg
    have ok := validS_ok hv
    obtain ⟨m1, m2, m3⟩ := validP_iff.1 ok.mat_valid
    refine resA_allV ha _ _ _ (fun r hr n hn => by have := (m3 r hr).2 n hn; omega) (fun w hw => vfrac_one (by have := withinP_spec ok.wts_in w hw; omega)) rfl
  · rfl
end Go.Proofs.Ytjjpjgnoanfaoaa.T
end
end

section
namespace Go.Proofs.Ytjjpjgnoanfaoaa.T
open Go Go.RowKit Lin
set_option linter.unusedSimpArgs false

/-! What fractions are worth (plain): x in lowest terms is p over q. -/
structure Val (x : Int × Int) (p q : Int) : Prop where
  v : vfrac x.1 x.2 = true
  n0 : q ≠ 0
  e : x.1 * q = p * x.2
theorem vfrac_ne {x : Int × Int} (h : vfrac x.1 x.2 = true) : x.2 ≠ 0 := by
  have := (fr_bounds h).1
  omega
theorem Val.self {x : Int × Int} (h : vfrac x.1 x.2 = true) : Val x x.1 x.2 := ⟨h, vfrac_ne h, rfl⟩
theorem Val.one {n : Int} (h : -1152921504606846976 ≤ n ∧ n ≤ 1152921504606846976) : Val (n, 1) n 1 := ⟨vfrac_one h, by decide, rfl⟩
theorem Val.d {x : Int × Int} {p q : Int} (h : Val x p q) : x.2 ≠ 0 := vfrac_ne h.v
theorem Val.same {x : Int × Int} {p q r s : Int} (h : Val x p q) (k : Val x r s) : p * s = r * q := by
  refine cancel (c := x.2) h.d ?_
  have h1 := h.e
  have h2 := k.e
  grind
theorem Val.eq {x y : Int × Int} {p q r s : Int} (h : Val x p q) (k : Val y r s) (e : p * s = r * q) : x = y := by
  refine frac_eq h.v k.v (cancel (c := q * s) (Int.mul_ne_zero h.n0 k.n0) ?_)
  have h1 := h.e
  have h2 := k.e
  calc x.1 * y.2 * (q * s) = (x.1 * q) * (y.2 * s) := by ac_rfl
    _ = (p * x.2) * (y.2 * s) := by rw [h1]
    _ = (p * s) * (x.2 * y.2) := by ac_rfl
    _ = (r * q) * (x.2 * y.2) := by rw [e]
    _ = (r * y.2) * (q * x.2) := by ac_rfl
    _ = (y.1 * s) * (q * x.2) := by rw [h2]
    _ = y.1 * x.2 * (q * s) := by ac_rfl
theorem Val.to {x : Int × Int} {p q r s : Int} (h : Val x p q) (hs : s ≠ 0) (e : p * s = r * q) : Val x r s := by
  refine ⟨h.v, hs, cancel (c := q) h.n0 ?_⟩
  have h1 := h.e
  calc x.1 * s * q = (x.1 * q) * s := by ac_rfl
    _ = (p * x.2) * s := by rw [h1]
    _ = (p * s) * x.2 := by ac_rfl
    _ = (r * q) * x.2 := by rw [e]
    _ = r * x.2 * q := by ac_rfl
theorem Val.scale {x : Int × Int} {p q k : Int} (h : Val x p q) (hk : k ≠ 0) : Val x (p * k) (q * k) := h.to (Int.mul_ne_zero h.n0 hk) (by ac_rfl)
theorem Val.add {a b : Int × Int} {p q r s : Int} (h : Val a p q) (k : Val b r s) (ok : (addR a b).2 = 0) : Val (addR a b).1 (p * s + r * q) (q * s) := by
  have hq := add_q h.v k.v ok
  refine ⟨addR_valid h.v k.v ok, Int.mul_ne_zero h.n0 k.n0, cancel (c := a.2 * b.2) (Int.mul_ne_zero h.d k.d) ?_⟩
  generalize (addR a b).1 = c at *
  have h1 := h.e
  have h2 := k.e
  calc c.1 * (q * s) * (a.2 * b.2) = (c.1 * (a.2 * b.2)) * (q * s) := by ac_rfl
    _ = ((a.1 * b.2 + b.1 * a.2) * c.2) * (q * s) := by rw [hq]
    _ = ((a.1 * q) * (b.2 * s) + (b.1 * s) * (a.2 * q)) * c.2 := by grind
    _ = ((p * a.2) * (b.2 * s) + (r * b.2) * (a.2 * q)) * c.2 := by rw [h1, h2]
    _ = (p * s + r * q) * c.2 * (a.2 * b.2) := by grind
theorem Val.neg {a : Int × Int} {p q : Int} (h : Val a p q) : Val (-a.1, a.2) (-p) q := ⟨vfrac_neg h.v, h.n0, by have := h.e; simp only [Int.neg_mul, this]⟩
theorem subP_ok {a b : Int × Int} (ha : vfrac a.1 a.2 = true) (hb : vfrac b.1 b.2 = true) : subP a b = addR a (-b.1, b.2) := by unfold subP; rw [if_pos ⟨ha, hb⟩]
theorem Val.sub {a b : Int × Int} {p q r s : Int} (h : Val a p q) (k : Val b r s) (ok : (subP a b).2 = 0) : Val (subP a b).1 (p * s - r * q) (q * s) := by
  rw [subP_ok h.v k.v] at ok ⊢
  exact (h.add k.neg ok).to (Int.mul_ne_zero h.n0 k.n0) (by rw [Int.neg_mul, Int.sub_eq_add_neg])
theorem Val.mul {a b : Int × Int} {p q r s : Int} (h : Val a p q) (k : Val b r s) (ok : (mulR a b).2 = 0) : Val (mulR a b).1 (p * r) (q * s) := by
  have hq := mul_q h.v k.v ok
  refine ⟨mulR_valid h.v k.v ok, Int.mul_ne_zero h.n0 k.n0, cancel (c := a.2 * b.2) (Int.mul_ne_zero h.d k.d) ?_⟩
  generalize (mulR a b).1 = c at *
  have h1 := h.e
  have h2 := k.e
  calc c.1 * (q * s) * (a.2 * b.2) = (c.1 * (a.2 * b.2)) * (q * s) := by ac_rfl
    _ = (a.1 * b.1 * c.2) * (q * s) := by rw [hq]
    _ = ((a.1 * q) * (b.1 * s)) * c.2 := by ac_rfl
    _ = ((p * a.2) * (r * b.2)) * c.2 := by rw [h1, h2]
    _ = (p * r) * c.2 * (a.2 * b.2) := by ac_rfl
theorem madeP_err {a d : Nat} {b : Bool} (hd : 0 < d) : (madeP a b d).2 = 0 ∨ (madeP a b d).2 = 5 := by
  unfold madeP signP
  rw [if_neg (by omega)]
  split <;> simp
theorem mulR_err {a b : Int × Int} (ha : vfrac a.1 a.2 = true) (hb : vfrac b.1 b.2 = true) : (mulR a b).2 = 0 ∨ (mulR a b).2 = 5 := by
  have h1 := (fr_bounds ha).1
  have h2 := (fr_bounds hb).1
  exact madeP_err (Nat.mul_pos (by omega) (by omega))
theorem addR_err {a b : Int × Int} (ha : vfrac a.1 a.2 = true) (hb : vfrac b.1 b.2 = true) : (addR a b).2 = 0 ∨ (addR a b).2 = 5 := by
  have h1 := (fr_bounds ha).1
  have h2 := (fr_bounds hb).1
  have hp : 0 < a.2.natAbs * b.2.natAbs := Nat.mul_pos (by omega) (by omega)
  unfold addR
  split
  · exact madeP_err hp
  · split <;> exact madeP_err hp
theorem subP_err {a b : Int × Int} (ha : vfrac a.1 a.2 = true) (hb : vfrac b.1 b.2 = true) : (subP a b).2 = 0 ∨ (subP a b).2 = 5 := by
  rw [subP_ok ha hb]
  exact addR_err ha (vfrac_neg hb)
theorem Val.int {x : Int × Int} {p q n : Int} (h : Val x p q) (e : p = n * q) : x = (n, 1) := by
  refine whole h.v h.n0 ?_
  rw [h.e, e]
/-- One denominator for all. -/
theorem dens : ∀ (x : List (Int × Int)), allV x = true → ∃ (X : Nat → Int) (D : Int), D ≠ 0 ∧ ∀ (k : Nat) (f : Int × Int), x[k]? = some f → Val f (X k) D
  | [], _ => ⟨fun _ => 0, 1, by decide, fun k f h => by simp at h⟩
  | f :: x, h => by
    have hxs : allV (f :: x) = (vfrac f.1 f.2 && allV x) := rfl
    rw [hxs, Bool.and_eq_true] at h
    obtain ⟨X, D, hD, hX⟩ := dens x h.2
    have hf := vfrac_ne h.1
    refine ⟨fun k => match k with | 0 => f.1 * D | k + 1 => f.2 * X k, f.2 * D, Int.mul_ne_zero hf hD, fun k g hg => ?_⟩
    cases k with
    | zero =>
      simp only [List.getElem?_cons_zero, Option.some.injEq] at hg
      subst hg
      exact (Val.self h.1).scale hD
    | succ k =>
      simp only [List.getElem?_cons_succ] at hg
      have := (hX k g hg).scale hf
      rw [Int.mul_comm (X k), Int.mul_comm D] at this
      exact this
theorem allV_of {x : List (Int × Int)} {X : Nat → Int} {D : Int} (h : ∀ (k : Nat) (f : Int × Int), x[k]? = some f → Val f (X k) D) : allV x = true := by
  unfold allV
  rw [List.all_eq_true]
  intro f hf
  obtain ⟨k, hk⟩ := List.mem_iff_getElem?.1 hf
  exact (h k f hk).v
theorem dot_valsW {D : Int} : ∀ (r : List Int) (x : List (Int × Int)) (X : Nat → Int) (s : Int × Int) (S : Int), r.length = x.length → (∀ n ∈ r, -1152921504606846976 ≤ n ∧ n ≤ 1152921504606846976) → (∀ (k : Nat) (f : Int × Int), x[k]? = some f → Val f (X k) D) → Val s S D →
    ((dotF r x s).2 = 0 ∧ Val (dotF r x s).1 (S + sumN (fun k => Lin.at_ r k * X k) r.length) D) ∨ (dotF r x s).2 = 5
  | [], [], X, s, S, _, _, _, hs => .inl ⟨rfl, by simp only [dotF, List.length_nil, sumN, Int.add_zero]; exact hs⟩
  | [], _ :: _, _, _, _, h, _, _, _ => by simp at h
  | _ :: _, [], _, _, _, h, _, _, _ => by simp at h
  | n :: r, f :: x, X, s, S, hl, hr, hx, hs => by
    have hn : Val (n, 1) n 1 := .one (hr n (by simp))
    have hf := hx 0 f (by simp)
    simp only [dotF]
    rw [mulP_ok (a := (n, 1)) hn.v hf.v]
    rcases mulR_err hn.v hf.v with z1 | z1
    rotate_left 1
    · rw [if_neg (by omega)]
      exact .inr z1
    rw [if_pos z1]
    have ht := hn.mul hf z1
    generalize (mulR (n, 1) f).1 = t at *
    rw [addP_ok hs.v ht.v]
    rcases addR_err hs.v ht.v with z2 | z2
    rotate_left 1
    · rw [if_neg (by omega)]
      exact .inr z2
    rw [if_pos z2]
    have hw := (hs.add ht z2).to (r := S + n * X 0) hs.n0 (by grind)
    generalize (addR s t).1 = w at *
    have ih := dot_valsW r x (fun k => X (k + 1)) w (S + n * X 0) (by simpa using hl) (fun y hy => hr y (List.mem_cons_of_mem _ hy)) (fun k g hg => hx (k + 1) g (by simpa using hg)) hw
    refine ih.imp ?_ id
    rintro ⟨k1, k2⟩
    refine ⟨k1, ?_⟩
    rw [List.length_cons, sumN_head]
    have e0 : Lin.at_ (n :: r) 0 = n := rfl
    have e1 : (fun k => Lin.at_ (n :: r) (k + 1) * X (k + 1)) = fun k => Lin.at_ r k * X (k + 1) := by
      funext k; simp [Lin.at_]
    rw [e0, e1, ← Int.add_assoc]
    exact k2
theorem dot_vals {D : Int} : ∀ (r : List Int) (x : List (Int × Int)) (X : Nat → Int) (s : Int × Int) (S : Int), r.length = x.length → (∀ n ∈ r, -1000 ≤ n ∧ n ≤ 1000) → (∀ (k : Nat) (f : Int × Int), x[k]? = some f → Val f (X k) D) → Val s S D →
    ((dotF r x s).2 = 0 ∧ Val (dotF r x s).1 (S + sumN (fun k => Lin.at_ r k * X k) r.length) D) ∨ (dotF r x s).2 = 5 := fun r x X s S hl hr hx hs => dot_valsW r x X s S hl (fun n hn => by have := hr n hn; omega) hx hs
theorem dot_val {r : List Int} {x : List (Int × Int)} {X : Nat → Int} {D : Int} (hD : D ≠ 0) (hl : r.length = x.length) (hr : ∀ n ∈ r, -1000 ≤ n ∧ n ≤ 1000) (hx : ∀ (k : Nat) (f : Int × Int), x[k]? = some f → Val f (X k) D) :
    ((dotF r x (0, 1)).2 = 0 ∧ Val (dotF r x (0, 1)).1 (sumN (fun k => Lin.at_ r k * X k) r.length) D) ∨ (dotF r x (0, 1)).2 = 5 := by
  have := dot_vals r x X (0, 1) 0 hl hr hx ⟨vfrac_one (by omega), hD, by simp⟩
  rwa [Int.zero_add] at this
theorem dot_valW {r : List Int} {x : List (Int × Int)} {X : Nat → Int} {D : Int} (hD : D ≠ 0) (hl : r.length = x.length) (hr : ∀ n ∈ r, -1152921504606846976 ≤ n ∧ n ≤ 1152921504606846976) (hx : ∀ (k : Nat) (f : Int × Int), x[k]? = some f → Val f (X k) D) :
    ((dotF r x (0, 1)).2 = 0 ∧ Val (dotF r x (0, 1)).1 (sumN (fun k => Lin.at_ r k * X k) r.length) D) ∨ (dotF r x (0, 1)).2 = 5 := by
  have := dot_valsW r x X (0, 1) 0 hl hr hx ⟨vfrac_one (by omega), hD, by simp⟩
  rwa [Int.zero_add] at this
/-- Numbers over D that solve the equations. -/
def SolQ (m : List (List Int)) (right : List Int) (Z : Nat → Int) (D : Int) : Prop := ∀ (i : Nat) (r : List Int) (b : Int), m[i]? = some r → right[i]? = some b → sumN (fun k => Lin.at_ r k * Z k) (wid m) = D * b
section
variable {m : List (List Int)} {right : List Int}
theorem SolQ.phi (hv : validP m = true) (hr : right.length = m.length) {Z : Nat → Int} {D : Int} (h : SolQ m right Z D) : ∀ s ∈ copyP m right, T.phi Z D (wid m) (Lin.at_ s) = 0 := fun s hs => by
  obtain ⟨_, _, h3⟩ := validP_iff.1 hv
  obtain ⟨i, r, b, hi, hb, rfl⟩ := copy_row hr hs
  rw [phi_row (h3 r (List.mem_of_getElem? hi)).1, h i r b hi hb]
  omega
theorem van_of_sol {M : List (List Int)} {n : Nat} {f : Frm} (h : Lin.Inv M (n + 1) n f) {Z : Nat → Int} {D : Int} (hD : D ≠ 0) (hZ : ∀ s ∈ M, T.phi Z D n (Lin.at_ s) = 0) : Van (M.map Lin.at_) (SS M f) (CC f) n := by
  have hSS : ∀ r ∈ SS M f, T.phi Z D n r = 0 := fun r hr => by
    obtain ⟨s, hs, rfl⟩ := SS_mem h r hr
    exact hZ s hs
  intro r hr
  obtain ⟨s, hs, rfl⟩ := List.mem_map.1 hr
  have hsp : Span (Lin.at_ s :: SS M f) fun j => E (SS M f) (CC f) (Lin.at_ s) j := w_span (Lin.at_ s :: SS M f) (CC f)
  have h0 := phi_span hsp fun x hx => by
    rcases List.mem_cons.1 hx with rfl | hx
    · exact hZ s hs
    · exact hSS x hx
  unfold T.phi at h0
  simp only at h0
  rw [sumN_congr (G := fun _ => 0) n fun j hj => by
    rw [h.van_lt hj (Lin.at_ s) hr, Int.zero_mul], sumN_zero] at h0
  have : D * E (SS M f) (CC f) (Lin.at_ s) n = 0 := by omega
  rcases Int.mul_eq_zero.1 this with e | e
  · exact absurd e hD
  · exact e
/-- A solution, where no row is left over: the free ones 0. -/
def solZ (f : Frm) (n : Nat) (j : Nat) : Int := sumN (fun k => if (f.pivots[k]?).getD 0 = j then Lin.at_ (Lin.row f.rows k) n else 0) f.pivots.length
theorem sumN_swap (F : Nat → Nat → Int) (n : Nat) : ∀ k, sumN (fun j => sumN (fun i => F i j) k) n = sumN (fun i => sumN (fun j => F i j) n) k
  | 0 => by simp only [sumN]; exact sumN_zero n
  | k + 1 => by simp only [sumN]; rw [sumN_add, sumN_swap F n k]
theorem sumN_pick (g : Nat → Int) (c : Nat) (d : Int) (n : Nat) (h : c < n) : sumN (fun j => g j * (if c = j then d else 0)) n = g c * d := by
  rw [← sumN_one g c d n h]
  exact sumN_congr n fun j _ => by
    by_cases e : j = c
    · subst e; simp
    · rw [if_neg e, if_neg (Ne.symm e)]
theorem sol_exists {M : List (List Int)} {n : Nat} {f : Frm} (h : Lin.Inv M (n + 1) n f) (hv : Van (M.map Lin.at_) (SS M f) (CC f) n) : ∀ s ∈ M, T.phi (solZ f n) f.den n (Lin.at_ s) = 0 := fun s hs => by
  have hsum := van_sum h (Nat.lt_succ_self n) hv hs
  unfold T.phi
  have e : sumN (fun k => Lin.at_ s k * solZ f n k) n = sumN (fun k => Lin.at_ s ((f.pivots[k]?).getD 0) * Lin.at_ (Lin.row f.rows k) n) f.pivots.length := by
    have e1 : ∀ j, j < n → Lin.at_ s j * solZ f n j = sumN (fun k => Lin.at_ s j * (if (f.pivots[k]?).getD 0 = j then Lin.at_ (Lin.row f.rows k) n else 0)) f.pivots.length := fun j _ => by
      unfold solZ
      rw [sumN_mul]
    rw [sumN_congr n e1, sumN_swap]
    refine sumN_congr _ fun k hk => ?_
    have hp : f.pivots[k]? = some f.pivots[k] := List.getElem?_eq_getElem hk
    rw [hp, Option.getD_some]
    exact sumN_pick (Lin.at_ s) _ _ n (h.lt _ (List.getElem_mem hk))
  rw [e, ← hsum, Int.mul_comm]
  omega
theorem SolQ.of_phi (hv : validP m = true) {Z : Nat → Int} {D : Int} (h : ∀ s ∈ copyP m right, T.phi Z D (wid m) (Lin.at_ s) = 0) : SolQ m right Z D := fun i r b hi hb => by
  obtain ⟨_, _, h3⟩ := validP_iff.1 hv
  have := h _ (copy_mem hi hb)
  rw [phi_row (h3 r (List.mem_of_getElem? hi)).1] at this
  omega
variable (hv : validP m = true) (hr : right.length = m.length) (hw : withinP right 67108864 = true)
include hv hr hw
theorem van_left : (((solM m right).rows.drop (solM m right).pivots.length).any fun r => Lin.at_ r (wid m) != 0) = false ↔ ∃ Z D, D ≠ 0 ∧ SolQ m right Z D := by
  have iv := sol_inv hv hr hw
  rw [any_drop, iv.nr, ← iv.van (by omega)]
  constructor
  · intro h
    exact ⟨_, _, iv.den0, .of_phi hv (sol_exists iv h)⟩
  · rintro ⟨Z, D, hD, hZ⟩
    exact van_of_sol iv hD (hZ.phi hv hr)
/-- What Solve answers. -/
theorem solve_gap : (solveP m right).2 = 22 ↔ ¬ ∃ Z D, D ≠ 0 ∧ SolQ m right Z D := by
  rw [solveP_in hv hr hw, ← van_left hv hr hw]
  unfold solF
  split
  · rename_i h; simp [h]
  · rename_i h
    split <;> simp [h]
theorem solve_free : (solveP m right).2 = 21 ↔ (∃ Z D, D ≠ 0 ∧ SolQ m right Z D) ∧ rankP m (wid m) < wid m := by
  have hb : (solM m right).pivots.length = rankP m (wid m) := both_rank hv hr hw
  rw [solveP_in hv hr hw, ← van_left hv hr hw, ← hb]
  unfold solF
  split
  · rename_i h; simp [h]
  · rename_i h
    split
    · rename_i h2; simp [h]; omega
    · rename_i h2; simp [h]; omega
theorem solve_ok : (solveP m right).2 = 0 ↔ (∃ Z D, D ≠ 0 ∧ SolQ m right Z D) ∧ ¬ rankP m (wid m) < wid m := by
  have hb : (solM m right).pivots.length = rankP m (wid m) := both_rank hv hr hw
  rw [solveP_in hv hr hw, ← van_left hv hr hw, ← hb]
  unfold solF
  split
  · rename_i h; simp [h]
  · rename_i h
    split
    · rename_i h2; simp [h]; omega
    · rename_i h2; simp [h]; omega
theorem solve_cases : (solveP m right).2 = 0 ∨ (solveP m right).2 = 21 ∨ (solveP m right).2 = 22 := by
  rw [solveP_in hv hr hw]
  unfold solF
  split
  · simp
  · split <;> simp
theorem solve_nil (h : (solveP m right).2 ≠ 0) : (solveP m right).1 = [] := by
  rw [solveP_in hv hr hw] at h ⊢
  unfold solF at h ⊢
  split
  · rfl
  · rename_i h1
    rw [if_neg h1] at h
    split
    · rfl
    · rename_i h2
      rw [if_neg h2] at h
      exact absurd rfl h
theorem rank_le : rankP m (wid m) ≤ wid m := by
  have iv := sol_inv hv hr hw
  rw [← both_rank hv hr hw]
  have nd : (solM m right).pivots.Nodup := iv.nd.imp fun hlt => Nat.ne_of_lt hlt
  have hle := nd.length_le_of_subset (l₂ := List.range (wid m)) fun x hx => List.mem_range.2 (iv.lt x hx)
  simpa using hle
/-- The solution is worth numbers that solve the equations. -/
theorem solve_val (h : (solveP m right).2 = 0) : ∃ Z D, D ≠ 0 ∧ SolQ m right Z D ∧ (solveP m right).1.length = wid m ∧ ∀ (k : Nat) (f : Int × Int), (solveP m right).1[k]? = some f → Val f (Z k) D := by
  have hn := h
  rw [solveP_in hv hr hw] at h
  obtain ⟨s1, s2, s3⟩ := sol_eq hv hr hw h
  have iv := sol_inv hv hr hw
  have hb := both_small hv hr hw
  have in2 := iv.small2 hb (Nat.le_refl _)
  have hd2 := iv.den_small2 hb (Nat.le_refl _)
  refine ⟨solX m right, (solM m right).den, iv.den0, s2, by rw [solveP_in hv hr hw, s3]; simp, fun k f hf => ?_⟩
  rw [solveP_in hv hr hw, s3] at hf
  have hkl : k < wid m := by have := (List.getElem?_eq_some_iff.1 hf).1; simpa using this
  rw [List.getElem?_map, List.getElem?_range hkl] at hf
  simp only [Option.map_some, Option.some.injEq] at hf
  subst hf
  have hq := makeP_q iv.den0 (makeP_ok (in2 k (wid m) (by omega) (by omega)) hd2 iv.den0)
  exact ⟨hq.1, iv.den0, hq.2⟩
/-- There is one solution. -/
theorem sol_uniq (hfull : ¬ rankP m (wid m) < wid m) {Z Z' : Nat → Int} {D D' : Int} (hD : D ≠ 0) (hD' : D' ≠ 0) (hZ : SolQ m right Z D) (hZ' : SolQ m right Z' D') : ∀ k, k < wid m → Z k * D' = Z' k * D := fun k hk => by
  have hf : rankP m (wid m) = wid m := by have := rank_le hv hr hw; omega
  have a1 := (sol_of hv hr hw hf hD hZ).2 k hk
  have a2 := (sol_of hv hr hw hf hD' hZ').2 k hk
  have iv := sol_inv hv hr hw
  refine cancel (c := (solM m right).den) iv.den0 ?_
  calc Z k * D' * (solM m right).den = (Z k * (solM m right).den) * D' := by ac_rfl
    _ = (D * solX m right k) * D' := by rw [a1]
    _ = (D' * solX m right k) * D := by ac_rfl
    _ = (Z' k * (solM m right).den) * D := by rw [a2]
    _ = Z' k * D * (solM m right).den := by ac_rfl
/-- Fractions that solve the equations are the solution. -/
theorem solve_is (h : (solveP m right).2 = 0) {x : List (Int × Int)} (hx : x.length = wid m) {Z : Nat → Int} {D : Int} (hD : D ≠ 0) (hZ : SolQ m right Z D) (hX : ∀ (k : Nat) (f : Int × Int), x[k]? = some f → Val f (Z k) D) : (solveP m right).1 = x := by
  obtain ⟨Z', D', hD', hZ', hl, hX'⟩ := solve_val hv hr hw h
  have hfull := ((solve_ok hv hr hw).1 h).2
  refine List.ext_getElem? fun k => ?_
  by_cases hk : k < wid m
  · have e1 : (solveP m right).1[k]? = some (solveP m right).1[k] := List.getElem?_eq_getElem (by omega)
    have e2 : x[k]? = some x[k] := List.getElem?_eq_getElem (by omega)
    rw [e1, e2]
    exact congrArg some ((hX' k _ e1).eq (hX k _ e2) (sol_uniq hv hr hw hfull hD' hD hZ' hZ k hk))
  · rw [List.getElem?_eq_none (by omega), List.getElem?_eq_none (by omega)]
end
end Go.Proofs.Ytjjpjgnoanfaoaa.T
end

section
namespace Go.Proofs.Ytjjpjgnoanfaoaa.T
open Go Go.RowKit Lin
set_option linter.unusedSimpArgs false

/-! The rank by what vanishes; the order of rows and columns (plain). -/
def Ker (m : List (List Int)) (Z : Nat → Int) : Prop := ∀ r ∈ m, sumN (fun k => Lin.at_ r k * Z k) (wid m) = 0
theorem nX_one {f : Frm} {c : Nat} (hc : f.pivots.contains c = false) : ∀ k, k ≤ f.pivots.length → nX f c k c = f.den
  | 0, _ => by simp [nX]
  | k + 1, hk => by
    simp only [nX]
    rw [if_neg, nX_one hc k (by omega)]
    intro e
    rw [List.getElem?_eq_getElem (show k < f.pivots.length by omega), Option.getD_some] at e
    have : f.pivots.contains c = true := List.contains_iff_mem.2 (by rw [e]; exact List.getElem_mem _)
    rw [hc] at this; cases this
theorem free_col {l : List Nat} {n : Nat} (h : l.length < n) : ∃ c, c < n ∧ l.contains c = false := Classical.byContradiction fun hno => by
  have hs : List.range n ⊆ l := fun c hc => by
    refine Classical.byContradiction fun hne => hno ⟨c, List.mem_range.1 hc, ?_⟩
    rw [← Bool.not_eq_true, List.contains_iff_mem]
    exact hne
  have := (List.nodup_range (n := n)).length_le_of_subset hs
  simp at this
  omega
theorem ker_sol {m : List (List Int)} {Z : Nat → Int} (h : Ker m Z) : SolQ m (List.replicate m.length 0) Z 1 := fun i r b hi hb => by
  have : b = 0 := by
    have := List.mem_of_getElem? hb
    exact List.eq_of_mem_replicate this
  rw [h r (List.mem_of_getElem? hi), this]
  rfl
theorem rank_null {m : List (List Int)} (hv : validP m = true) : rankP m (wid m) < wid m ↔ ∃ Z, Ker m Z ∧ ∃ k, k < wid m ∧ Z k ≠ 0 := by
  have hs := valid_small hv
  have iv := elim_inv (ups_mover m (wid m)) hs.lens (wid m) (Nat.le_refl _)
  rw [← elim_by] at iv
  constructor
  · intro h
    unfold rankP at h
    generalize elim m (wid m) = f at *
    obtain ⟨c, hcn, hc⟩ := free_col h
    refine ⟨nX f c f.pivots.length, fun r hr => ?_, c, hcn, ?_⟩
    · rw [nX_sum iv hcn hc (Lin.at_ r) f.pivots.length (Nat.le_refl _), van_sum iv hcn (iv.van_lt hcn) hr]
      omega
    · rw [nX_one hc _ (Nat.le_refl _)]
      exact iv.den0
  · rintro ⟨Z, hZ, k, hk, hne⟩
    refine Nat.lt_of_not_le fun hge => hne ?_
    have hw0 : withinP (List.replicate m.length (0 : Int)) 67108864 = true := withinP_of fun n hn => by rw [List.eq_of_mem_replicate hn]; omega
    have h0 : Ker m (fun _ => 0) := fun r _ => by
      rw [sumN_congr (G := fun _ => 0) _ fun k _ => Int.mul_zero _]
      exact sumN_zero _
    have := sol_uniq hv (by simp) hw0 (by omega) (by decide) (by decide) (ker_sol hZ) (ker_sol h0) k hk
    simpa using this
theorem sumN_rev (F : Nat → Int) : ∀ n, sumN (fun k => F (n - 1 - k)) n = sumN F n
  | 0 => rfl
  | n + 1 => by
    rw [sumN_head]
    simp only [sumN, Nat.add_sub_cancel, Nat.sub_zero]
    rw [← sumN_rev F n]
    congr 1
    exact sumN_congr n fun k hk => by rw [show n - (k + 1) = n - 1 - k by omega]
def revM (m : List (List Int)) : List (List Int) := (m.map List.reverse).reverse
theorem revM_len (m : List (List Int)) : (revM m).length = m.length := by simp [revM]
theorem revM_mem {m : List (List Int)} {r : List Int} : r ∈ revM m ↔ ∃ q ∈ m, r = q.reverse := by
  unfold revM
  rw [List.mem_reverse, List.mem_map]
  exact ⟨fun ⟨q, h, e⟩ => ⟨q, h, e.symm⟩, fun ⟨q, h, e⟩ => ⟨q, h, e.symm⟩⟩
theorem revM_valid {m : List (List Int)} (hv : validP m = true) : validP (revM m) = true ∧ wid (revM m) = wid m := by
  obtain ⟨h1, h2, h3⟩ := validP_iff.1 hv
  have hw : wid (revM m) = wid m := by
    have hl := revM_len m
    obtain ⟨r, rs, e⟩ : ∃ r rs, revM m = r :: rs := by
      cases hr : revM m with
      | nil => rw [hr] at hl; simp at hl; omega
      | cons a b => exact ⟨a, b, rfl⟩
    have hm : r ∈ revM m := by rw [e]; simp
    obtain ⟨q, hq, rfl⟩ := revM_mem.1 hm
    unfold wid
    rw [e, List.headD_cons, List.length_reverse]
    exact (h3 q hq).1
  refine ⟨validP_iff.2 ⟨by rw [revM_len]; exact h1, by rw [hw]; exact h2, fun r hr => ?_⟩, hw⟩
  obtain ⟨q, hq, rfl⟩ := revM_mem.1 hr
  rw [hw, List.length_reverse]
  exact ⟨(h3 q hq).1, fun x hx => (h3 q hq).2 x (List.mem_reverse.1 hx)⟩
theorem at_rev {q : List Int} {k : Nat} (h : k < q.length) : Lin.at_ q.reverse k = Lin.at_ q (q.length - 1 - k) := by
  unfold Lin.at_
  rw [List.getElem?_reverse h]
theorem sum_rev {m : List (List Int)} (hv : validP m = true) {q : List Int} (hq : q ∈ m) (Z : Nat → Int) : sumN (fun k => Lin.at_ q.reverse k * Z (wid m - 1 - k)) (wid m) = sumN (fun k => Lin.at_ q k * Z k) (wid m) := by
  obtain ⟨_, _, h3⟩ := validP_iff.1 hv
  rw [← sumN_rev (fun k => Lin.at_ q k * Z k)]
  exact sumN_congr _ fun k hk => by rw [at_rev (by rw [(h3 q hq).1]; exact hk), (h3 q hq).1]
theorem rev_get {α : Type} {l : List α} {i : Nat} {x : α} (h : l.reverse[i]? = some x) : l[l.length - 1 - i]? = some x := by
  have hi := (List.getElem?_eq_some_iff.1 h).1
  rw [List.length_reverse] at hi
  rwa [List.getElem?_reverse hi] at h
theorem SolQ.rev {m : List (List Int)} {right : List Int} (hv : validP m = true) (hr : right.length = m.length) {Z : Nat → Int} {D : Int} (h : SolQ m right Z D) : SolQ (revM m) right.reverse (fun k => Z (wid m - 1 - k)) D := fun i r b hi hb => by
  have h1 := rev_get hi
  have h2 := rev_get hb
  rw [List.length_map] at h1
  rw [List.getElem?_map] at h1
  cases hq : m[m.length - 1 - i]? with
  | none => rw [hq] at h1; simp at h1
  | some q =>
    rw [hq] at h1
    simp only [Option.map_some, Option.some.injEq] at h1
    subst h1
    rw [(revM_valid hv).2, sum_rev hv (List.mem_of_getElem? hq)]
    exact h _ q b hq (by rw [← hr]; exact h2)
theorem revM_rev (m : List (List Int)) : revM (revM m) = m := by
  unfold revM
  rw [List.map_reverse, List.reverse_reverse, List.map_map]
  have : (List.reverse ∘ List.reverse : List Int → List Int) = id := by funext l; simp
  rw [this, List.map_id]
theorem Ker.rev {m : List (List Int)} (hv : validP m = true) {Z : Nat → Int} (h : Ker m Z) : Ker (revM m) (fun k => Z (wid m - 1 - k)) := fun r hr => by
  obtain ⟨q, hq, rfl⟩ := revM_mem.1 hr
  rw [(revM_valid hv).2, sum_rev hv hq]
  exact h q hq
theorem sol_rev_iff {m : List (List Int)} {right : List Int} (hv : validP m = true) (hr : right.length = m.length) : (∃ Z D, D ≠ 0 ∧ SolQ (revM m) right.reverse Z D) ↔ ∃ Z D, D ≠ 0 ∧ SolQ m right Z D := by
  constructor
  · rintro ⟨Z, D, hD, h⟩
    have := h.rev (revM_valid hv).1 (by rw [revM_len]; simpa using hr)
    rw [revM_rev, List.reverse_reverse] at this
    exact ⟨_, D, hD, this⟩
  · rintro ⟨Z, D, hD, h⟩
    exact ⟨_, D, hD, h.rev hv hr⟩
theorem rank_rev {m : List (List Int)} (hv : validP m = true) : rankP (revM m) (wid (revM m)) < wid (revM m) ↔ rankP m (wid m) < wid m := by
  obtain ⟨v2, w2⟩ := revM_valid hv
  rw [rank_null v2, rank_null hv]
  have flip : ∀ {m : List (List Int)}, validP m = true → (∃ Z, Ker m Z ∧ ∃ k, k < wid m ∧ Z k ≠ 0) → ∃ Z, Ker (revM m) Z ∧ ∃ k, k < wid (revM m) ∧ Z k ≠ 0 := fun {m} hv ⟨Z, hZ, k, hk, hne⟩ => by
    refine ⟨_, hZ.rev hv, wid m - 1 - k, by rw [(revM_valid hv).2]; omega, ?_⟩
    rwa [show wid m - 1 - (wid m - 1 - k) = k by omega]
  constructor
  · intro h
    have := flip v2 h
    rwa [revM_rev] at this
  · exact flip hv
theorem within_rev {right : List Int} {x : Int} (h : withinP right x = true) : withinP right.reverse x = true := withinP_of fun n hn => withinP_spec h n (List.mem_reverse.1 hn)
/-- The solution with all in the reverse order. -/
theorem solve_rev {m : List (List Int)} {right : List Int} (hv : validP m = true) (hr : right.length = m.length) (hw : withinP right 67108864 = true) : solveP (revM m) right.reverse = ((solveP m right).1.reverse, (solveP m right).2) := by
  obtain ⟨v2, w2⟩ := revM_valid hv
  have r2 : right.reverse.length = (revM m).length := by rw [revM_len]; simpa using hr
  have hw2 := within_rev hw
  have e2 : (solveP (revM m) right.reverse).2 = (solveP m right).2 := by
    rcases solve_cases hv hr hw with k | k | k
    · rw [k, solve_ok v2 r2 hw2, sol_rev_iff hv hr, rank_rev hv]
      exact (solve_ok hv hr hw).1 k
    · rw [k, solve_free v2 r2 hw2, sol_rev_iff hv hr, rank_rev hv]
      exact (solve_free hv hr hw).1 k
    · rw [k, solve_gap v2 r2 hw2, sol_rev_iff hv hr]
      exact (solve_gap hv hr hw).1 k
  refine Prod.ext ?_ e2
  by_cases h0 : (solveP m right).2 = 0
  · obtain ⟨Z, D, hD, hZ, hl, hX⟩ := solve_val hv hr hw h0
    refine solve_is v2 r2 hw2 (by rw [e2]; exact h0) (by simp only [List.length_reverse]; rw [hl, w2]) hD (hZ.rev hv hr) fun k f hf => ?_
    have := hX _ _ (rev_get hf)
    rwa [hl] at this
  · rw [solve_nil v2 r2 hw2 (by rw [e2]; exact h0), solve_nil hv hr hw h0]
    rfl
end Go.Proofs.Ytjjpjgnoanfaoaa.T
end

section
namespace Go.Proofs.Ytjjpjgnoanfaoaa.T
open Go Go.RowKit Lin
theorem plainL_frC (l : List (Int × Int)) : plainL (frC l) = true := by
  induction l with
  | nil => rfl
  | cons x r ih => simp only [frC, List.flatMap_cons, List.cons_append, List.nil_append, plainL, plainD, Bool.true_and] at ih ⊢; exact ih
end Go.Proofs.Ytjjpjgnoanfaoaa.T
end

section
namespace Go.Proofs.Ytjjpjgnoanfaoaa.T
open Go Go.RowKit Lin
theorem OkS.rows {s : Sy} (ok : OkS s) : ∀ r ∈ matS s, r.length = wid (matS s) ∧ ∀ x ∈ r, -1000 ≤ x ∧ x ≤ 1000 := fun r hr => by
  obtain ⟨_, _, h3⟩ := validP_iff.1 ok.mat_valid
  refine ⟨(h3 r hr).1, fun x hx => ?_⟩
  have := (h3 r hr).2 x hx
  omega
theorem OkS.wv {s : Sy} (ok : OkS s) : ∀ w ∈ wtsS s, vfrac w 1 = true := fun w hw => vfrac_one (by have := withinP_spec ok.wts_in w hw; omega)
theorem OkS.len {s : Sy} (ok : OkS s) : (wtsS s).length = (matS s).length := by rw [ok.wts_len, ok.mat_len]
/-- The tensions hold. -/
theorem tens_own {s : Sy} (h : (tensP s).2 = 0) : givE s (tensP s).1 = 0 ∧ ∃ Z D, D ≠ 0 ∧ SolQ (matS s) (wtsS s) Z D ∧ ∀ (k : Nat) (f : Int × Int), (tensP s).1[k]? = some f → Val f (Z k) D := by
  obtain ⟨hv, hl⟩ := tensP_len h
  have ok := validS_ok hv
  have e : tensP s = solveP (matS s) (wtsS s) := by unfold tensP; rw [if_pos hv]
  rw [e] at h hl ⊢
  obtain ⟨Z, D, hD, hZ, _, hX⟩ := solve_val ok.mat_valid ok.len ok.wts_in h
  exact ⟨by unfold givE; rw [if_pos ⟨hv, allV_of hX⟩, if_pos hl], Z, D, hD, hZ, hX⟩
abbrev zipA (x y : List Int) : List Int := List.zipWith (· + ·) x y
theorem zip_get {x y : List Int} {i : Nat} {b : Int} (h : (zipA x y)[i]? = some b) : ∃ p q, x[i]? = some p ∧ y[i]? = some q ∧ b = p + q := by
  unfold zipA at h
  rw [List.getElem?_zipWith] at h
  cases hx : x[i]? with
  | none => rw [hx] at h; simp at h
  | some p =>
    cases hy : y[i]? with
    | none => rw [hx, hy] at h; simp at h
    | some q =>
      rw [hx, hy] at h
      exact ⟨p, q, rfl, rfl, by simpa using h.symm⟩
theorem sum_two (g X Y : Nat → Int) (a b : Int) (n : Nat) : sumN (fun k => g k * (X k * a + Y k * b)) n = sumN (fun k => g k * X k) n * a + sumN (fun k => g k * Y k) n * b := by
  rw [Int.mul_comm _ a, Int.mul_comm _ b, ← sumN_mul, ← sumN_mul, ← sumN_add]
  exact sumN_congr n fun k _ => by rw [Int.mul_add]; ac_rfl
end Go.Proofs.Ytjjpjgnoanfaoaa.T
end

namespace Go.Proofs.Ytjjpjgnoanfaoaa.T
open Go Go.RowKit
theorem gdoa2_SPF {C1 C2 P Q : Prop} (c1 : C1) (c2 : C2) (q : Q) (h : C1 → C2 → Q → P := by
  intro cc1 cc2 hq
  (try with_reducible intro KR hKR)
  (repeat refine AW_seq ?_); (repeat refine AW_seq ?_); (refine AW_drawn_k tab_ok follows_mixed 1 fun KR hKR => ?_); simp only [List.replicate_succ, List.replicate_zero, List.append_nil, List.nil_append, List.cons_append, List.length_cons, List.length_nil, Nat.reduceAdd]; (repeat' ((first | refine awD_n rfl fun KK hKK => ?_ | refine awD_g rfl rfl fun KK hKK => ?_ | refine awD_gc rfl fun KK hKK => ?_ | refine awD_nc fun KK hKK => ?_); simp (disch := omega) only [bb, bt, zDs, zD, eqCells, simprocAttr, bne_self_eq_false, Int.reduceBNe, Int.reduceBEq, Bool.bne_false, Bool.bne_true, Bool.false_bne, Bool.true_bne, goCDS, callDS_fn, argsZ, argsD, ufa, uf]; (try ((first | with_reducible refine PGive.ret (cc1) ?_ | with_reducible refine PGive.ret (cc2) ?_); simp (disch := omega) only [bb, bt, zDs, zD, eqCells, simprocAttr, afterDS, bne_self_eq_false, Int.reduceBNe, Int.reduceBEq, Bool.bne_false, Bool.bne_true, Bool.false_bne, Bool.true_bne])); refine hKK _ _ _ ?_; clear hKK KK)); (refine awD_nil ?_); simp only [List.reverse_cons, List.reverse_nil, List.nil_append, List.cons_append]; (refine hKR _ _ (by first | rfl | kernel_rfl) ?_); (try clear hKR KR); (repeat (with_reducible first | refine q1 ?_ | refine q2 ?_ | refine q3 ?_ | refine q4 ?_ | refine q5 ?_ | refine q6 ?_ | (refine q7 ?_ ?_; (focus (with_unfolding_all rfl)))))
  (first | exact hq | (revert hKR; revert KR; exact hq))) : P := h c1 c2 q
set_option linter.unusedSimpArgs false

/-! Spans of fractions. -/
theorem floor_plain {n d : Int} (hd : 0 < d) : (if n.tmod d < 0 then n.tdiv d - 1 else n.tdiv d) = n / d := by
  rcases Int.lt_or_le n 0 with h | h
  · obtain ⟨m, rfl⟩ : ∃ m, n = -m := ⟨-n, by omega⟩
    have hm : 0 ≤ m := by omega
    have e1 : (-m).tdiv d = -(m / d) := by rw [Int.neg_tdiv, Int.tdiv_eq_ediv_of_nonneg hm]
    have e2 : (-m).tmod d = -(m % d) := by rw [Int.neg_tmod, Int.tmod_eq_emod_of_nonneg hm]
    have h3 := neg_div (m := m) hd
    have h4 := Int.emod_nonneg m (show d ≠ 0 by omega)
    rw [e1, e2]
    by_cases h5 : m % d = 0
    · rw [if_neg (by omega), h3.1 h5]
    · rw [if_pos (by omega), h3.2 (by omega)]
  · have e1 : n.tdiv d = n / d := Int.tdiv_eq_ediv_of_nonneg h
    have e2 : n.tmod d = n % d := Int.tmod_eq_emod_of_nonneg h
    have h4 := Int.emod_nonneg n (show d ≠ 0 by omega)
    rw [e1, e2, if_neg (by omega)]
theorem quo_bounds {n d : Int} (hd : 0 < d) (h1 : -1152921504606846976 ≤ n) (h2 : n ≤ 1152921504606846976) : -1152921504606846976 ≤ n.tdiv d ∧ n.tdiv d ≤ 1152921504606846976 ∧ -1152921504606846977 ≤ n / d ∧ n / d ≤ 1152921504606846976 ∧ -1152921504606846976 ≤ n.tmod d ∧ n.tmod d ≤ 1152921504606846976 := by
  have f := floor_plain (n := n) hd
  have a : (n.tdiv d).natAbs ≤ n.natAbs := by rw [Int.natAbs_tdiv]; exact Nat.div_le_self _ _
  have b : (n.tmod d).natAbs ≤ n.natAbs := by rw [Int.natAbs_tmod]; exact Nat.mod_le _ _
  refine ⟨by omega, by omega, ?_, ?_, by omega, by omega⟩
  · rw [← f]; split <;> omega
  · rw [← f]; split <;> omega
theorem rfloor (n d : Int) (hd : 0 < d) (h1 : -1152921504606846976 ≤ n) (h2 : n ≤ 1152921504606846976) : PRet Try.prog 83 [int n, int d] (int (n / d)) := by
  have hb := quo_bounds hd h1 h2
  rw [← floor_plain hd]
  have hd0 : ¬ d = 0 := by omega
  have w1 := wr64 (n.tdiv d) (by omega)
  have w2 := wr64 (n.tmod d) (by omega)
  refine PRet.intro 1 fun t => ACall.enter tab_ok Try.func83 rfl rfl Try.ntmps83 (by simp) ?_
  simp only [enterTM]
  by_cases h : n.tmod d < 0
  · rw [if_pos h]
    ((refine ggb0 (F := _∧_∧_∧_) ⟨hd0, w1, w2, h⟩ ?_))
    ((repeat refine AW_seq ?_); (refine wta ?_); simp (disch := omega) only [retQ, resD, oneD, rsv, rs, rsL, rsL_eq_map, List.map_map, bb, bt, zDs, zD, eqCells, simprocAttr, Try.results83])
  · rw [if_neg h]
    ((refine ggb0 (F := _∧_∧_∧_) ⟨hd0, w1, w2, h⟩ ?_))
    ((repeat refine AW_seq ?_); (refine wta ?_); simp (disch := omega) only [retQ, resD, oneD, rsv, rs, rsL, rsL_eq_map, List.map_map, bb, bt, zDs, zD, eqCells, simprocAttr, Try.results83])
theorem rFloor (a : Int × Int) (ha : vfrac a.1 a.2 = true) : PRet Try.prog 28 [frD a] (.tup [int (a.1 / a.2), int 0]) := by
  obtain ⟨n, d⟩ := a
  obtain ⟨b1, b2, b3, b4, b5⟩ := fr_bounds ha
  have hV := rValid n d
  simp only at ha b1 b3 b4
  rw [ha] at hV
  have hF := rfloor n d (by omega) b3 b4
  refine PRet.intro 1 fun t => ACall.enter tab_ok Try.func28 rfl rfl Try.ntmps28 (by simp) ?_
  simp only [enterTM]
  ((refine gga2 hV hF ?_))
  ((repeat refine AW_seq ?_); (refine wta ?_); simp (disch := omega) only [retQ, resD, oneD, rsv, rs, rsL, rsL_eq_map, List.map_map, bb, bt, zDs, zD, eqCells, simprocAttr, Try.results28])
theorem rCeil (a : Int × Int) (ha : vfrac a.1 a.2 = true) : PRet Try.prog 29 [frD a] (.tup [int (-((-a.1) / a.2)), int 0]) := by
  obtain ⟨n, d⟩ := a
  obtain ⟨b1, b2, b3, b4, b5⟩ := fr_bounds ha
  have hV := rValid n d
  simp only at ha b1 b3 b4
  rw [ha] at hV
  have hF := rfloor (-n) d (by omega) (by omega) (by omega)
  have hb := quo_bounds (n := -n) (d := d) (by omega) (by omega) (by omega)
  refine PRet.intro 1 fun t => ACall.enter tab_ok Try.func29 rfl rfl Try.ntmps29 (by simp) ?_
  simp only [enterTM]
  ((refine gga2 hV hF ?_))
  ((repeat refine AW_seq ?_); (refine wta ?_); simp (disch := omega) only [retQ, resD, oneD, rsv, rs, rsL, rsL_eq_map, List.map_map, bb, bt, zDs, zD, eqCells, simprocAttr, Try.results29])
/-- A fraction's product with a unit, where it fits. -/
theorem mul_unit {n d u : Int} (HV : vfrac n d = true) (u1 : 1 ≤ u) (u2 : u ≤ 1099511627776) :
    (mulP (n, d) (u, 1)).2 = 5 ∨ ((mulP (n, d) (u, 1)).2 = 0 ∧ vfrac (mulP (n, d) (u, 1)).1.1 (mulP (n, d) (u, 1)).1.2 = true ∧ (n * u) / d = (mulP (n, d) (u, 1)).1.1 / (mulP (n, d) (u, 1)).1.2 ∧ (-(n * u)) / d = (-(mulP (n, d) (u, 1)).1.1) / (mulP (n, d) (u, 1)).1.2 ∧ ((mulP (n, d) (u, 1)).1.2 = 1 ↔ (n * u) % d = 0) ∧ ∃ q : Nat, q ≤ 1152921504606846976 ∧ (n * u).natAbs ≤ q * d.natAbs) := by
  have hu : Val (u, 1) u 1 := Val.one (by omega)
  have hn := Val.self (x := (n, d)) HV
  rw [mulP_ok (a := (n, d)) HV hu.v]
  rcases mulR_err (a := (n, d)) HV hu.v with e | e
  rotate_left 1
  · exact .inl e
  right
  have hv := hn.mul hu e
  generalize (mulR (n, d) (u, 1)).1 = p at *
  obtain ⟨x, y⟩ := p
  have he := hv.e
  simp only [Int.mul_one] at he
  obtain ⟨b1, b2, b3, b4, b5⟩ := fr_bounds hv.v
  have d1 := (fr_bounds HV).1
  simp only at he b1 b2 b3 b4 b5 d1 ⊢
  have q1 : (n * u) / d = x / y := by
    rw [← Int.mul_ediv_mul_of_pos_left (n * u) d (show 0 < y by omega), ← he, Int.mul_comm d y, Int.mul_ediv_mul_of_pos_left x y (show 0 < d by omega)]
  have q2 : (-(n * u)) / d = (-x) / y := by
    rw [← Int.mul_ediv_mul_of_pos_left (-(n * u)) d (show 0 < y by omega), Int.neg_mul, ← he, ← Int.neg_mul, Int.mul_comm d y, Int.mul_ediv_mul_of_pos_left (-x) y (show 0 < d by omega)]
  refine ⟨e, hv.v, q1, q2, ⟨fun h => ?_, fun h => ?_⟩, x.natAbs, by omega, ?_⟩
  · subst h
    rw [Int.mul_one] at he
    rw [← he]
    exact Int.mul_emod_left x d
  · obtain ⟨k, hk⟩ := Int.dvd_of_emod_eq_zero h
    rw [hk] at he
    have hx : x = k * y := cancel (c := d) (by omega) (by rw [he]; ac_rfl)
    have hg : y.natAbs ∣ x.natAbs := ⟨k.natAbs, by rw [hx, Int.natAbs_mul, Nat.mul_comm]⟩
    have : Nat.gcd x.natAbs y.natAbs = y.natAbs := Nat.gcd_eq_right hg
    have b5' : Nat.gcd x.natAbs y.natAbs = 1 := b5
    omega
  · have h2 := congrArg Int.natAbs he
    rw [Int.natAbs_mul, Int.natAbs_mul] at h2
    have : (n * u).natAbs * 1 ≤ (n * u).natAbs * y.natAbs := Nat.mul_le_mul_left _ (by omega)
    omega
set_option maxRecDepth 100000 in
set_option maxHeartbeats 8000000 in
theorem law_fractions (n : Int × Int) (u : Int) : PRet Try.prog 4 [.agg [int n.1, int n.2], int u] (bool true) := by
  refine PRet.intro 1 fun t => ACall.enter tab_ok Try.func4 rfl rfl Try.ntmps4 (by simp) ?_
  simp only [enterTM]
  obtain ⟨n, d⟩ := n
  have hV := refFValid n d
  cases hv : vfrac n d
  · rw [hv] at hV
    ((refine gga2 l3awake hV ?_))
    ((repeat refine AW_seq ?_); (refine wta ?_); simp (disch := omega) only [retQ, resD, oneD, rsv, rs, rsL, rsL_eq_map, List.map_map, bb, bt, zDs, zD, eqCells, simprocAttr, Try.results4])
  rw [hv] at hV
  by_cases hu1 : u < 1
  · ((refine ggb2 hu1 l3awake hV ?_))
    ((repeat refine AW_seq ?_); (refine wta ?_); simp (disch := omega) only [retQ, resD, oneD, rsv, rs, rsL, rsL_eq_map, List.map_map, bb, bt, zDs, zD, eqCells, simprocAttr, Try.results4])
  by_cases hu2 : 1099511627776 < u
  · ((refine ggb2 (F := _∧_) ⟨hu1, hu2⟩ l3awake hV ?_))
    ((repeat refine AW_seq ?_); (refine wta ?_); simp (disch := omega) only [retQ, resD, oneD, rsv, rs, rsL, rsL_eq_map, List.map_map, bb, bt, zDs, zD, eqCells, simprocAttr, Try.results4])
  have u1 : 1 ≤ u := by omega
  have u2 : u ≤ 1099511627776 := by omega
  obtain ⟨d1, d2, n1, n2, _⟩ := vfrac_bounds hv
  have oc := of_cases hv u1 u2 (s0 := (ofS n d u).1) (s1 := (ofS n d u).2.1) (s2 := (ofS n d u).2.2) rfl
  have oo := of_cases hv (u := 1) (by omega) (by omega) (s0 := (ofS n d 1).1) (s1 := (ofS n d 1).2.1) (s2 := (ofS n d 1).2.2) rfl
  have mc := mul_unit hv u1 u2
  have hO := sOf n d u
  have hO1 := sOf n d 1
  have hM := rMul (n, d) (u, 1)
  have hw := round_width (m := n * u) (d := d) (by omega)
  have hof := l3of u u
  rw [Int.min_self, Int.max_self] at hof
  rw [Int.mul_one] at oo
  have oo' : (ofS n d 1).2.2 = 0 ∧ (ofS n d 1).1 = n / d ∧ (ofS n d 1).2.1 = -((-n) / d) ∧ vspan (ofS n d 1).1 (ofS n d 1).2.1 = true := by
    rcases oo with ⟨_, h⟩ | ⟨h1, h2, h3, h4, h5, h6⟩
    · exact absurd ⟨n.natAbs, by omega, by have := Nat.mul_le_mul_left n.natAbs (show 1 ≤ d.natAbs by omega); omega⟩ h
    · exact ⟨h1, h2, h3, by simp [vspan]; omega⟩
  obtain ⟨o1, o2, o3, o4⟩ := oo'
  have hws := wide_same o4 u1 u2
  have hT := sTimes (ofS n d 1).1 (ofS n d 1).2.1 u 1
  have hMu := sMul (ofS n d 1).1 (ofS n d 1).2.1 u u
  rw [← hws] at hT
  have hin := fun w0 w1 h => of_in_wide (n := n) (d := d) (u := u) (s0 := (n * u) / d) (s1 := -((-(n * u)) / d)) (o0 := (ofS n d 1).1) (o1 := (ofS n d 1).2.1) (w0 := w0) (w1 := w1) (by omega) (by omega) o4 rfl rfl o2 o3 u2 h
  generalize mulS (ofS n d 1).1 (ofS n d 1).2.1 u u = W at *
  generalize ofS n d 1 = O at *
  generalize ofS n d u = S at *
  generalize mulP (n, d) (u, 1) = P at *
  obtain ⟨s0, s1, s2⟩ := S
  obtain ⟨w0, w1, w2⟩ := W
  obtain ⟨⟨x, y⟩, pe⟩ := P
  obtain ⟨p0, p1, p2⟩ := O
  simp only at oc mc o1 o2 o3 o4 hO hO1 hM hT hMu hin
  have hI := r3Inside s0 s1 w0 w1
  rcases oc with ⟨e1, e2⟩ | ⟨e1, e2, e3, b1, b2, b3⟩
  · have e4 : pe = 5 := by
      rcases mc with h | ⟨_, _, _, _, _, h⟩
      · exact h
      · exact absurd h e2
    subst e1
    subst e4
    ((refine ggb4 (F := _∧_) ⟨hu1, hu2⟩ l3awake hV hO hM ?_))
    ((repeat refine AW_seq ?_); (refine wta ?_); simp (disch := omega) only [retQ, resD, oneD, rsv, rs, rsL, rsL_eq_map, List.map_map, bb, bt, zDs, zD, eqCells, simprocAttr, Try.results4])
  subst e1
  ((refine ggb4 (F := _∧_) ⟨hu1, hu2⟩ l3awake hV hO hM ?_))
  ((repeat refine AW_seq ?_))
  refine AW_mid (fun x : Nat => ⟨[(1, int u), (2, .ptr 0 (t + 1) 0), (5, .ptr 1 (t + 1 + 1) 0), (6, int 0)], [some ⟨37, t + 1, [int n, int d]⟩, some ⟨23, t + 1 + 1, [int s0, int s1]⟩], x⟩) (fun _ => True) ?_ ?_
  · rcases mc with h | ⟨h0, vp, mq1, mq2, mq3, _⟩
    · subst h
      ((refine gga0 ?_))
      exact ⟨t + 1 + 1 + 1, trivial, by (simp (disch := omega) only [StLe, tmLe, hpLe_refl, hpLe, bl, bb, bt, zDs, zD, eqCells, simprocAttr])⟩
    · subst h0
      have hfl := rFloor (x, y) vp
      have hce := rCeil (x, y) vp
      simp only at hfl hce
      rw [← mq1, ← e2] at hfl
      rw [← mq2, ← e3] at hce
      have hof2 := l3of s0 s1
      rw [Int.min_eq_left b2, Int.max_eq_right b2] at hof2
      have g1 : ¬ (1 : Int) < s1 - s0 := by omega
      by_cases hy : y = 1
      · have k1 : (y == 1) = true := by simp [hy]
        have k2 : (s0 == s1) = true := by
          have := hw.2.2.2 (mq3.1 hy)
          simp only [beq_iff_eq]
          omega
        ((refine gga1 hfl ?_))
        ((refine gga1 hce ?_))
        ((repeat refine AW_seq ?_); (refine gdzb1 (F := _∧_∧_) ⟨g1, k1, k2⟩ hof2 ?_))
        ((refine gga0 ?_))
        exact ⟨t + 1 + 1 + 1 + 1, trivial, by (simp (disch := omega) only [StLe, tmLe, hpLe_refl, hpLe, bl, bb, bt, zDs, zD, eqCells, simprocAttr])⟩
      · have k1 : (y == 1) = false := by simp [hy]
        have k2 : (s0 == s1) = false := by
          simp only [beq_eq_false_iff_ne]
          intro h
          exact hy (mq3.2 (hw.2.2.1 (by omega)))
        ((refine gga2 hfl hce ?_))
        ((repeat refine AW_seq ?_); (refine gdzb1 (F := _∧_∧_) ⟨g1, k1, k2⟩ hof2 ?_))
        ((refine gga0 ?_))
        exact ⟨t + 1 + 1 + 1 + 1, trivial, by (simp (disch := omega) only [StLe, tmLe, hpLe_refl, hpLe, bl, bb, bt, zDs, zD, eqCells, simprocAttr])⟩
  rintro t2 -
  subst o1
  ((refine gga1 hO1 ?_))
  ((repeat refine AW_seq ?_); (refine gdoa2_SPF hof hMu ?_))
  ((refine gga1 hT ?_))
  have ee : (w2 == w2) = true := by simp
  have e0 : (w0 == w0) = true := by simp
  have e1 : (w1 == w1) = true := by simp
  by_cases hz : w2 = 0
  · subst hz
    obtain ⟨m1, m2⟩ := hin w0 w1 rfl
    rw [hasS_inside (by omega) (by omega)] at hI
    ((refine gga1 hI ?_))
    ((repeat refine AW_seq ?_); (refine wta ?_); simp (disch := omega) only [retQ, resD, oneD, rsv, rs, rsL, rsL_eq_map, List.map_map, bb, bt, zDs, zD, eqCells, simprocAttr, Try.results4])
  · have hz' : (w2 != 0) = true := by simpa using hz
    ((refine ggb1 (F := _∧_∧_∧_) ⟨hz', ee, e0, e1⟩ hI ?_))
    ((repeat refine AW_seq ?_); (refine wta ?_); simp (disch := omega) only [retQ, resD, oneD, rsv, rs, rsL, rsL_eq_map, List.map_map, bb, bt, zDs, zD, eqCells, simprocAttr, Try.results4])
end Go.Proofs.Ytjjpjgnoanfaoaa.T

/- What the arguments of chapter 4's laws stand for. -/
section
namespace Go.Proofs.Ytjjpjgnoanfaoaa.T
open Go Go.RowKit Go.ChangeShapes

theorem slice_one {P : Program} {w : World} {r : Reach} {base : Nat} {t e : TypeId} {v : Value} (ht : P.underlying t = some (.slice e)) (h : Value.okWide P w r base t v) : v.cells = #[v] := by
  simp only [Value.okWide, ht, Cell.okWide] at h
  cases v <;> simp_all [Value.cells, Cell.ok]
theorem ints_of : ∀ {rows : List (List D)}, (∀ r ∈ rows, (∃ n, r = [int n] ∧ (Lit.int .i64 n).wf = true) ∧ r.length = 1) → ∃ l : List Int, rows.flatten = l.map int ∧ ∀ x ∈ l, (Lit.int .i64 x).wf = true
  | [], _ => ⟨[], rfl, by simp⟩
  | r :: rows, h => by
    obtain ⟨⟨n, rfl, hw⟩, _⟩ := h r (by simp)
    obtain ⟨l, e, hl⟩ := ints_of fun x hx => h x (List.mem_cons_of_mem _ hx)
    exact ⟨n :: l, by simp [e], fun x hx => by
      rcases List.mem_cons.1 hx with rfl | hx
      · exact hw
      · exact hl x hx⟩
theorem rows_of : ∀ {rows : List (List D)}, (∀ r ∈ rows, (∃ l : List Int, r = [ints l] ∧ ∀ x ∈ l, (Lit.int .i64 x).wf = true) ∧ r.length = 1) → ∃ m : List (List Int), rows.flatten = m.map ints ∧ ∀ l ∈ m, ∀ x ∈ l, (Lit.int .i64 x).wf = true
  | [], _ => ⟨[], rfl, by simp⟩
  | r :: rows, h => by
    obtain ⟨⟨n, rfl, hw⟩, _⟩ := h r (by simp)
    obtain ⟨l, e, hl⟩ := rows_of fun x hx => h x (List.mem_cons_of_mem _ hx)
    exact ⟨n :: l, by simp [e], fun x hx => by
      rcases List.mem_cons.1 hx with rfl | hx
      · exact hw
      · exact hl x hx⟩

theorem u8_of {x : Int} (h : (Lit.int .u8 x).wf = true) : 0 ≤ x ∧ x < 256 := by
  rw [Lit.wf, Bool.and_eq_true] at h
  have h1 := of_decide_eq_true h.1
  have h2 := of_decide_eq_true h.2
  have e1 : IntKind.u8.min = 0 := rfl
  have e2 : IntKind.u8.max = 255 := rfl
  rw [e1] at h1
  rw [e2] at h2
  exact ⟨h1, by omega⟩
theorem cellsInt : Try.prog.cellsOf 3 = 1 := by kernel_rfl
theorem cellsInts : Try.prog.cellsOf 81 = 1 := by kernel_rfl
section
variable {H : Type} {enc : TypeId × Value → H} {W : World}
theorem opn_ints : Opn enc Try.prog W 81 fun ds => ∃ l : List Int, ds = [ints l] ∧ ∀ x ∈ l, (Lit.int .i64 x).wf = true :=
  (Opn.slice Try.underlying81 cellsInt (by decide) (Opn.int Try.underlying3)).mono fun ds ⟨rows, e, h, _⟩ => by
    obtain ⟨l, e2, hl⟩ := ints_of h
    exact ⟨l, by rw [e, e2], hl⟩
theorem opn_mat : Opn enc Try.prog W 118 fun ds => ∃ m : List (List Int), ds = [mat m] ∧ ∀ l ∈ m, ∀ x ∈ l, (Lit.int .i64 x).wf = true :=
  (Opn.slice Try.underlying118 cellsInts (by decide) opn_ints).mono fun ds ⟨rows, e, h, _⟩ => by
    obtain ⟨l, e2, hl⟩ := rows_of h
    exact ⟨l, by rw [e, e2], hl⟩
end
end Go.Proofs.Ytjjpjgnoanfaoaa.T
end

/- Arguments that are lists of fractions. -/
section
namespace Go.Proofs.Ytjjpjgnoanfaoaa.T
open Go Go.RowKit Go.ChangeShapes

theorem fracs_of : ∀ {rows : List (List D)}, (∀ r ∈ rows, (∃ a b, r = [int a, int b]) ∧ r.length = 2) → ∃ l : List (Int × Int), rows.flatten = frC l
  | [], _ => ⟨[], rfl⟩
  | r :: rows, h => by
    obtain ⟨⟨a, b, rfl⟩, _⟩ := h r (by simp)
    obtain ⟨l, e⟩ := fracs_of fun x hx => h x (List.mem_cons_of_mem _ hx)
    exact ⟨(a, b) :: l, by simp [e, frC]⟩
theorem cellsFrac : Try.prog.cellsOf 37 = 2 := by kernel_rfl
section
variable {H : Type} {enc : TypeId × Value → H} {W : World}
theorem opn_frac : Opn enc Try.prog W 37 fun ds => ∃ a b, ds = [int a, int b] :=
  (Opn.struct Try.underlying37 ⟨_, _, rfl, rfl, Opn.int Try.underlying3, _, _, rfl, by simp only [cellsInt], Opn.int Try.underlying3, rfl⟩ (by kernel_rfl)).mono fun ds h => by
    obtain ⟨d1, r1, rfl, ⟨a, rfl, _⟩, d2, r2, rfl, ⟨b, rfl, _⟩, rfl⟩ := h
    exact ⟨a, b, rfl⟩
theorem opn_fracs : Opn enc Try.prog W 51 fun ds => ∃ l : List (Int × Int), ds = [frs l] ∧ True :=
  (Opn.slice Try.underlying51 cellsFrac (by decide) opn_frac).mono fun ds ⟨rows, e, h, _⟩ => by
    obtain ⟨l, e2⟩ := fracs_of h
    exact ⟨l, by rw [e, e2], trivial⟩
end
end Go.Proofs.Ytjjpjgnoanfaoaa.T
end

/- Arguments that are systems. -/
section
namespace Go.Proofs.Ytjjpjgnoanfaoaa.T
open Go Go.RowKit Go.ChangeShapes

theorem flats_of {α : Type} {f : α → List D} {n : Nat} : ∀ {rows : List (List D)}, (∀ r ∈ rows, (∃ x, r = f x) ∧ r.length = n) → ∃ l : List α, rows.flatten = l.flatMap f
  | [], _ => ⟨[], rfl⟩
  | r :: rows, h => by
    obtain ⟨⟨x, rfl⟩, _⟩ := h r (by simp)
    obtain ⟨l, e⟩ := flats_of fun x hx => h x (List.mem_cons_of_mem _ hx)
    exact ⟨x :: l, by simp [e]⟩
theorem cellsHold : Try.prog.cellsOf 66 = 4 := by kernel_rfl
theorem cellsRope : Try.prog.cellsOf 61 = 3 := by kernel_rfl
theorem cellsBlock : Try.prog.cellsOf 57 = 2 := by kernel_rfl
theorem agg_of {P : Program} {w : World} {r : Reach} {base : Nat} {t : TypeId} {fs : Array Field} {v : Value} (ht : P.underlying t = some (.struct fs)) (h : Value.okWide P w r base t v) : ∃ cs, v = .agg cs := by
  simp only [Value.okWide, ht] at h
  obtain ⟨cs, e, _⟩ := h
  exact ⟨cs, e⟩
section
variable {H : Type} {enc : TypeId × Value → H} {W : World}
theorem opn_hold : Opn enc Try.prog W 66 fun ds => ∃ h : Hd, ds = hd1 h :=
  (Opn.struct Try.underlying66 ⟨_, _, rfl, (by kernel_rfl), Opn.str Try.underlying9, _, _, rfl, (by kernel_rfl), Opn.int Try.underlying3, _, _, rfl, (by kernel_rfl), opn_frac, rfl⟩ (by kernel_rfl)).mono fun ds h => by
    obtain ⟨d1, r1, rfl, ⟨s, rfl, _⟩, d2, r2, rfl, ⟨p, rfl, _⟩, d3, r3, rfl, ⟨a, b, rfl⟩, rfl⟩ := h
    exact ⟨⟨s, p, a, b⟩, rfl⟩
theorem opn_holds : Opn enc Try.prog W 59 fun ds => ∃ l : List Hd, ds = [hds l] :=
  (Opn.slice Try.underlying59 cellsHold (by decide) opn_hold).mono fun ds ⟨rows, e, h, _⟩ => by
    obtain ⟨l, e2⟩ := flats_of h
    exact ⟨l, by rw [e, e2]; rfl⟩
theorem opn_rope : Opn enc Try.prog W 61 fun ds => ∃ r : Rp, ds = rp1 r :=
  (Opn.struct Try.underlying61 ⟨_, _, rfl, (by kernel_rfl), Opn.str Try.underlying9, _, _, rfl, (by kernel_rfl), opn_holds, _, _, rfl, (by kernel_rfl), Opn.bool Try.underlying4, rfl⟩ (by kernel_rfl)).mono fun ds h => by
    obtain ⟨d1, r1, rfl, ⟨s, rfl, _⟩, d2, r2, rfl, ⟨l, rfl⟩, d3, r3, rfl, ⟨b, rfl⟩, rfl⟩ := h
    exact ⟨⟨s, l, b⟩, rfl⟩
theorem opn_ropes : Opn enc Try.prog W 47 fun ds => ∃ l : List Rp, ds = [rps l] :=
  (Opn.slice Try.underlying47 cellsRope (by decide) opn_rope).mono fun ds ⟨rows, e, h, _⟩ => by
    obtain ⟨l, e2⟩ := flats_of h
    exact ⟨l, by rw [e, e2]; rfl⟩
theorem opn_block : Opn enc Try.prog W 57 fun ds => ∃ b : Bk, ds = bk1 b :=
  (Opn.struct Try.underlying57 ⟨_, _, rfl, (by kernel_rfl), Opn.str Try.underlying9, _, _, rfl, (by kernel_rfl), Opn.int Try.underlying3, rfl⟩ (by kernel_rfl)).mono fun ds h => by
    obtain ⟨d1, r1, rfl, ⟨s, rfl, _⟩, d2, r2, rfl, ⟨p, rfl, _⟩, rfl⟩ := h
    exact ⟨⟨s, p⟩, rfl⟩
theorem opn_blocks : Opn enc Try.prog W 46 fun ds => ∃ l : List Bk, ds = [bks l] :=
  (Opn.slice Try.underlying46 cellsBlock (by decide) opn_block).mono fun ds ⟨rows, e, h, _⟩ => by
    obtain ⟨l, e2⟩ := flats_of h
    exact ⟨l, by rw [e, e2]; rfl⟩
theorem opn_sys : Opn enc Try.prog W 49 fun ds => ∃ s : Sy, ds = [bks s.bs, rps s.rs] :=
  (Opn.struct Try.underlying49 ⟨_, _, rfl, (by kernel_rfl), opn_blocks, _, _, rfl, (by kernel_rfl), opn_ropes, rfl⟩ (by kernel_rfl)).mono fun ds h => by
    obtain ⟨d1, r1, rfl, ⟨a, rfl⟩, d2, r2, rfl, ⟨b, rfl⟩, rfl⟩ := h
    exact ⟨⟨a, b⟩, rfl⟩
theorem arg_sys {v : Value} {base : Nat} {r : Reach} {d : DataW H} {p : List MemPlace} (h : DataW.Trod enc Try.prog W 0 (fun _ => true) true 49 v d p) (hv : Value.okWide Try.prog W r base 49 v) : ∃ s : Sy, Rep (memOf W) [] (syD s) v := by
  obtain ⟨cs, rfl⟩ : ∃ cs, v = .agg cs := by
    simp only [Value.okWide, Try.underlying49] at hv
    obtain ⟨cs, e, _⟩ := hv
    exact ⟨cs, e⟩
  obtain ⟨ds, hr, s, rfl⟩ := arg_agg opn_sys h
  exact ⟨s, hr⟩
theorem cellsSys : Try.prog.cellsOf 49 = 2 := by kernel_rfl
theorem opn_syss : Opn enc Try.prog W 89 fun ds => ∃ l : List Sy, ds = [sys l] ∧ True :=
  (Opn.slice Try.underlying89 cellsSys (by decide) opn_sys).mono fun ds ⟨rows, e, h, _⟩ => by
    obtain ⟨l, e2⟩ := flats_of (f := sy1) h
    exact ⟨l, by rw [e, e2], trivial⟩
theorem arg_rope {v : Value} {base : Nat} {r : Reach} {d : DataW H} {p : List MemPlace} (h : DataW.Trod enc Try.prog W 0 (fun _ => true) true 61 v d p) (hv : Value.okWide Try.prog W r base 61 v) : ∃ s : Rp, Rep (memOf W) [] (.agg (rp1 s)) v := by
  obtain ⟨cs, rfl⟩ : ∃ cs, v = .agg cs := by
    simp only [Value.okWide, Try.underlying61] at hv
    obtain ⟨cs, e, _⟩ := hv
    exact ⟨cs, e⟩
  obtain ⟨ds, hr, s, rfl⟩ := arg_agg opn_rope h
  exact ⟨s, hr⟩
theorem arg_frac {v : Value} {base : Nat} {r : Reach} {d : DataW H} {p : List MemPlace} (h : DataW.Trod enc Try.prog W 0 (fun _ => true) true 37 v d p) (hv : Value.okWide Try.prog W r base 37 v) : ∃ s : Int × Int, Rep (memOf W) [] (frD s) v := by
  obtain ⟨cs, rfl⟩ : ∃ cs, v = .agg cs := by
    simp only [Value.okWide, Try.underlying37] at hv
    obtain ⟨cs, e, _⟩ := hv
    exact ⟨cs, e⟩
  obtain ⟨ds, hr, a, b, rfl⟩ := arg_agg opn_frac h
  exact ⟨(a, b), hr⟩
abbrev u16s (l : List Int) : D := .sl 1 (l.map fun n => .v (.int .u16 n)) false
theorem u16_of {x : Int} (h : (Lit.int .u16 x).wf = true) : 0 ≤ x ∧ x < 65536 := by
  rw [Lit.wf, Bool.and_eq_true] at h
  have h1 := of_decide_eq_true h.1
  have h2 := of_decide_eq_true h.2
  have e1 : IntKind.u16.min = 0 := rfl
  have e2 : IntKind.u16.max = 65535 := rfl
  rw [e1] at h1
  rw [e2] at h2
  exact ⟨h1, by omega⟩
theorem u16_rows : ∀ {rows : List (List D)}, (∀ r ∈ rows, (∃ n, r = [.v (.int .u16 n)] ∧ (Lit.int .u16 n).wf = true) ∧ r.length = 1) → ∃ l : List Int, rows.flatten = l.map (fun n => .v (.int .u16 n)) ∧ ∀ x ∈ l, (Lit.int .u16 x).wf = true
  | [], _ => ⟨[], rfl, by simp⟩
  | r :: rows, h => by
    obtain ⟨⟨n, rfl, hw⟩, _⟩ := h r (by simp)
    obtain ⟨l, e, hl⟩ := u16_rows fun x hx => h x (List.mem_cons_of_mem _ hx)
    exact ⟨n :: l, by simp [e], fun x hx => by
      rcases List.mem_cons.1 hx with rfl | hx
      · exact hw
      · exact hl x hx⟩
theorem cellsU16 : Try.prog.cellsOf 69 = 1 := by kernel_rfl
theorem opn_u16s : Opn enc Try.prog W 68 fun ds => ∃ l : List Int, ds = [u16s l] ∧ ∀ x ∈ l, (Lit.int .u16 x).wf = true :=
  (Opn.slice Try.underlying68 cellsU16 (by decide) (Opn.int Try.underlying69)).mono fun ds ⟨rows, e, h, _⟩ => by
    obtain ⟨l, e2, hl⟩ := u16_rows h
    exact ⟨l, by rw [e, e2], hl⟩
theorem opn_span : Opn enc Try.prog W 23 fun ds => ∃ a b, ds = [int a, int b] :=
  (Opn.struct Try.underlying23 ⟨_, _, rfl, rfl, Opn.int Try.underlying3, _, _, rfl, by simp only [cellsInt], Opn.int Try.underlying3, rfl⟩ (by kernel_rfl)).mono fun ds h => by
    obtain ⟨d1, r1, rfl, ⟨a, rfl, _⟩, d2, r2, rfl, ⟨b, rfl, _⟩, rfl⟩ := h
    exact ⟨a, b, rfl⟩
theorem arg_span {v : Value} {base : Nat} {r : Reach} {d : DataW H} {p : List MemPlace} (h : DataW.Trod enc Try.prog W 0 (fun _ => true) true 23 v d p) (hv : Value.okWide Try.prog W r base 23 v) : ∃ s : Int × Int, Rep (memOf W) [] (frD s) v := by
  obtain ⟨cs, rfl⟩ : ∃ cs, v = .agg cs := by
    simp only [Value.okWide, Try.underlying23] at hv
    obtain ⟨cs, e, _⟩ := hv
    exact ⟨cs, e⟩
  obtain ⟨ds, hr, a, b, rfl⟩ := arg_agg opn_span h
  exact ⟨(a, b), hr⟩
theorem u64_of {x : Int} (h : (Lit.int .u64 x).wf = true) : 0 ≤ x ∧ x ≤ 18446744073709551615 := by
  rw [Lit.wf, Bool.and_eq_true] at h
  have h1 := of_decide_eq_true h.1
  have h2 := of_decide_eq_true h.2
  have e1 : IntKind.u64.min = 0 := rfl
  have e2 : IntKind.u64.max = 18446744073709551615 := rfl
  rw [e1] at h1
  rw [e2] at h2
  exact ⟨h1, h2⟩
end
end Go.Proofs.Ytjjpjgnoanfaoaa.T
end

/- The signs of the head's word (printed by mkmake.py): the kernel need not take a long string apart. -/
namespace Go.Proofs.Ytjjpjgnoanfaoaa.T
open Go Go.RowKit Go.Joins
def wordSigns0 : List Char := [104,97,114,110,101,115,115,32,49,97,49,101,98,56,101,56,98,53,99,50,97,51,50,48,50,55,97,48,50,57,50,56,50,52,50,48,51,54,53,50,102,99,100,97,56,49,48,52,99,54,49,55,102,57,51,55,49,101,102,53,98,52,56,56].map Char.ofNat
def wordSigns1 : List Char := [51,100,51,102,57,52,53,98,32,99,117,116,32,97,116,32,108,111,102,116,98,108,111,99,107,47,108,111,102,116,98,108,111,99,107,108,97,119,48,51,46,83,112,97,110,78,97,114,114,111,119,32,108,111,102,116,98,108,111,99,107,47,108,111].map Char.ofNat
def wordSigns2 : List Char := [102,116,98,108,111,99,107,108,97,119,48,51,46,83,112,97,110,70,114,97,99,116,105,111,110,115,32,108,111,102,116,98,108,111,99,107,47,108,111,102,116,98,108,111,99,107,108,97,119,49,49,46,83,116,97,116,105,99,115,84,117,114,110,115].map Char.ofNat
def wordSigns3 : List Char := [32,108,111,102,116,98,108,111,99,107,47,108,111,102,116,98,108,111,99,107,108,97,119,49,49,46,83,116,97,116,105,99,115,65,100,100,115,32,108,111,102,116,98,108,111,99,107,47,108,111,102,116,98,108,111,99,107,108,97,119,49,54,46,77].map Char.ofNat
def wordSigns4 : List Char := [111,98,105,108,105,116,121,79,114,100,101,114,32,108,111,102,116,98,108,111,99,107,47,108,111,102,116,98,108,111,99,107,108,97,119,49,51,46,65,100,118,97,110,116,97,103,101,83,97,109,101,32,108,111,102,116,98,108,111,99,107,47,108,111].map Char.ofNat
def wordSigns5 : List Char := [102,116,98,108,111,99,107,108,97,119,49,51,46,65,100,118,97,110,116,97,103,101,69,113,117,97,108,32,108,111,102,116,98,108,111,99,107,47,108,111,102,116,98,108,111,99,107,108,97,119,49,51,46,65,100,118,97,110,116,97,103,101,79,119].map Char.ofNat
def wordSigns6 : List Char := [110,32,108,111,102,116,98,108,111,99,107,47,108,111,102,116,98,108,111,99,107,108,97,119,49,51,46,65,100,118,97,110,116,97,103,101,72,111,108,100,115,32,108,111,102,116,98,108,111,99,107,47,108,111,102,116,98,108,111,99,107,108,97,119].map Char.ofNat
def wordSigns7 : List Char := [49,52,46,76,111,115,115,101,115,84,119,105,99,101,32,108,111,102,116,98,108,111,99,107,47,108,111,102,116,98,108,111,99,107,108,97,119,49,52,46,76,111,115,115,101,115,65,108,111,110,103].map Char.ofNat
def wordSigns : List Char := wordSigns0 ++ wordSigns1 ++ wordSigns2 ++ wordSigns3 ++ wordSigns4 ++ wordSigns5 ++ wordSigns6 ++ wordSigns7
theorem word_is : Try.prog.initOrder.toList = wordSigns := by
  have h : Try.prog.initOrder = String.ofList wordSigns := by kernel_rfl
  rw [h, String.toList_ofList]
theorem word_cut : behindMainWord (wordsSigns wordSigns) = "cut".toList :: (behindMainWord (wordsSigns wordSigns)).tail := by kernel_rfl
theorem make_of (P : Program) (l : List Char) (h : P.initOrder.toList = l) (r : List (List Char)) (hr : behindMainWord (wordsSigns l) = "cut".toList :: r) : P.make = some .cut := by
  unfold Program.make
  rw [h, hr]
  rfl
theorem enter_of (P : Program) (l : List Char) (h : P.initOrder.toList = l) (r : List (List Char)) (hr : behindMainWord (wordsSigns l) = "cut".toList :: r) (h1 : P.laysLater = false) (h2 : P.bearsReflect = false) (h3 : P.doorFits [] = true) (hs : stripLifts liftWords ("cut".toList :: r) = ([], "cut".toList :: r)) : P.mayEnter = true := by
  unfold Program.mayEnter
  rw [h, hr]
  simp only [hs, h1, h2, h3]
  rfl
theorem word_make : Try.prog.make = some .cut := make_of _ wordSigns word_is _ word_cut
theorem word_enter : Try.prog.mayEnter = true := enter_of _ wordSigns word_is _ word_cut (by kernel_rfl) (by kernel_rfl) (by kernel_rfl) (by kernel_rfl)
theorem word_lifts : Try.prog.liftsFinal = false := by
  unfold Program.liftsFinal Program.headLifts
  rw [word_is]
  kernel_rfl
theorem word_enterP : Try.pinned.checked.prog.mayEnter = true := word_enter
theorem word_liftsP : Try.pinned.checked.prog.liftsFinal = false := word_lifts
theorem word_makeP : Try.pinned.checked.prog.make = some .cut := word_make
end Go.Proofs.Ytjjpjgnoanfaoaa.T

