import Derived.Test.YtjjpjgnoanfaoaaGreatSFJ
import Derived.Test.YtjjpjgnoanfaoaaGreatSHJ
import Derived.Test.YtjjpjgnoanfaoaaGreatWPJ
import Derived.Test.YtjjpjgnoanfaoaaGreatPSKM
set_option linter.all false
section
section
namespace Go.Proofs.YtjjpjgnoanfaoaaGreat.T
open Go Go.RowKit Lin
set_option linter.unusedSimpArgs false

/-! Differences, sums of products. -/
theorem vfrac_neg {a b : Int} (h : vfrac a b = true) : vfrac (-a) b = true := by
  unfold vfrac at h ⊢
  simp only [Bool.and_eq_true, decide_eq_true_eq, Int.natAbs_neg] at h ⊢
  omega
def subP (a b : Int × Int) : (Int × Int) × Int := if vfrac a.1 a.2 = true ∧ vfrac b.1 b.2 = true then addR a (-b.1, b.2) else ((0, 0), 1)
def plusP (s : Int × Int) (n : Int) (f : Int × Int) : (Int × Int) × Int := if (mulP (n, 1) f).2 = 0 then addP s (mulP (n, 1) f).1 else ((0, 0), (mulP (n, 1) f).2)
theorem dotF_plus {r : List Int} {x : List (Int × Int)} {k : Nat} {n : Int} {f : Int × Int} (hr : r[k]? = some n) (hx : x[k]? = some f) (s : Int × Int) : dotF (r.drop k) (x.drop k) s = if (plusP s n f).2 = 0 then dotF (r.drop (k + 1)) (x.drop (k + 1)) (plusP s n f).1 else ((0, 0), (plusP s n f).2) := by
  rw [dotF_step hr hx]
  unfold plusP
  split
  · rfl
  · rfl
theorem plusP_valid {s f : Int × Int} {n : Int} (hs : vfrac s.1 s.2 = true) (hf : vfrac f.1 f.2 = true) (hn : -1152921504606846976 ≤ n ∧ n ≤ 1152921504606846976) (h : (plusP s n f).2 = 0) : vfrac (plusP s n f).1.1 (plusP s n f).1.2 = true := by
  have h1 : vfrac n 1 = true := vfrac_one (by omega)
  unfold plusP at h ⊢
  split at h
  · rename_i h2
    rw [if_pos h2]
    rw [mulP_ok h1 hf] at *
    have hv := mulR_valid (a := (n, 1)) h1 hf h2
    rw [addP_ok hs hv] at *
    exact addR_valid hs hv h
  · rename_i h2; exact absurd h h2
theorem allV_at {l : List (Int × Int)} {k : Nat} {f : Int × Int} (h : allV l = true) (hk : l[k]? = some f) : vfrac f.1 f.2 = true := by
  unfold allV at h
  rw [List.all_eq_true] at h
  exact h f (List.mem_of_getElem? hk)
set_option maxHeartbeats 1000000 in
theorem sum_ref (a : List Int) (l : List (Int × Int)) (hl : l.length ≤ 1000) (hal : l.length ≤ a.length) (hla : a.length ≤ 1000) (ha : ∀ x ∈ a, -1152921504606846976 ≤ x ∧ x ≤ 1152921504606846976) (hv : allV l = true) : PRet Tryz.prog 101 [ints a, frs l] (fe (dotF a l (0, 1))) := by
  refine PRet.intro 1 fun t => ACall.enter tab_ok Tryz.func101 rfl rfl Tryz.ntmps101 (by simp) ?_
  simp only [enterTM]
  have hfl := frC_len l
  have hf2 : (frC l).length / 2 = l.length := by omega
  have hO := refOf 0
  ((refine gga1 hO ?_))
  ((repeat refine AW_seq ?_))
  refine AW_block ?_
  refine AW_loop_w (fun x : (Int × Int) × Nat × Nat => ⟨[(0, ints a), (1, frs l), (4, .ptr 0 (t + 1) 0), (6, .ptr 1 (t + 1 + 1) 0), (7, int x.2.1)], [some ⟨43, t + 1, [int 0, int 0]⟩, some ⟨43, t + 1 + 1, [int x.1.1, int x.1.2]⟩], x.2.2⟩) (fun x => l.length - x.2.1) (fun x => x.2.1 ≤ l.length ∧ vfrac x.1.1 x.1.2 = true ∧ dotF a l (0, 1) = dotF (a.drop x.2.1) (l.drop x.2.1) x.1) ((0, 1), 0, t + 1 + 1) ⟨Nat.zero_le _, (show vfrac 0 1 = true by decide), rfl⟩ (by (simp (disch := omega) only [StLe, tmLe, hpLe_refl, hpLe, bl, bb, bt, zDs, zD, eqCells, simprocAttr])) ?_
  rintro ⟨s, k, tt⟩ ⟨hk, hs, hd⟩
  simp only at hk hs hd
  by_cases hlt : k < l.length
  · obtain ⟨f, hf⟩ : ∃ y, l[k]? = some y := ⟨_, List.getElem?_eq_getElem hlt⟩
    obtain ⟨n, hn⟩ : ∃ y, a[k]? = some y := ⟨_, List.getElem?_eq_getElem (by omega)⟩
    have hka : k < a.length := by omega
    have hvf := allV_at hv hf
    have hnb := ha n (List.mem_of_getElem? hn)
    have h1 : vfrac n 1 = true := vfrac_one (by omega)
    have hra := frC_read l k f hf
    have hO2 := refOf n
    have hT := refTimes (n, 1) f h1 hvf
    rw [dotF_plus hn hf] at hd
    have hpv := plusP_valid hs hvf hnb
    unfold plusP at hd hpv
    rw [mulP_ok (a := (n, 1)) h1 hvf] at hd hpv
    have hmv := mulR_valid (a := (n, 1)) h1 hvf
    generalize mulR (n, 1) f = y at *
    ((refine ggb0 (F := _∧_∧_) ⟨@Int.ofNat_lt, hlt, hf2⟩ ?_))
    ((repeat refine AW_seq ?_))
    refine AW_block ?_
    ((repeat refine AW_seq ?_); (refine gdob2 (F := _∧_∧_∧_∧_) ⟨hka, hlt, hf2, hn, hra⟩ hO2 hT ?_))
    cases hy : (y.2 == 0)
    · have hy' : (y.2 != 0) = true := by simpa using hy
      have hy0 : ¬ y.2 = 0 := by simpa using hy
      rw [if_neg hy0, if_neg hy0] at hd
      ((refine ggb0 hy' ?_))
      ((repeat refine AW_seq ?_); (refine wta ?_); simp (disch := omega) only [retQ, resD, oneD, rsv, rs, rsL, rsL_eq_map, List.map_map, bb, bt, zDs, zD, eqCells, simprocAttr, Tryz.results101, hd])
    have hy' : (y.2 != 0) = false := by simpa using hy
    have hy0 : y.2 = 0 := by simpa using hy
    rw [if_pos hy0] at hd hpv
    have hv2 := hmv hy0
    have hA := refAdd s y.1 hs hv2
    rw [addP_ok hs hv2] at hd hpv
    generalize addR s y.1 = z at *
    cases hz : (z.2 == 0)
    · have hz' : (z.2 != 0) = true := by simpa using hz
      rw [if_neg (by simpa using hz)] at hd
      ((refine ggb1 (F := _∧_) ⟨hy', hz'⟩ hA ?_))
      ((repeat refine AW_seq ?_); (refine wta ?_); simp (disch := omega) only [retQ, resD, oneD, rsv, rs, rsL, rsL_eq_map, List.map_map, bb, bt, zDs, zD, eqCells, simprocAttr, Tryz.results101, hd])
    have hz' : (z.2 != 0) = false := by simpa using hz
    have hz0 : z.2 = 0 := by simpa using hz
    rw [if_pos hz0] at hd
    ((refine ggb1 (F := _∧_) ⟨hy', hz'⟩ hA ?_))
    refine ⟨(z.1, k + 1, tt + 1), ⟨hlt, hpv hz0, hd⟩, by show l.length - (k + 1) < l.length - k; omega, ?_⟩
    (simp (disch := omega) only [StLe, tmLe, hpLe_refl, hpLe, bl, bb, bt, zDs, zD, eqCells, simprocAttr])
  · have hke : k = l.length := by omega
    subst hke
    have hde : dotF (a.drop l.length) (l.drop l.length) s = (s, 0) := by
      have hdn : l.drop l.length = [] := by simp
      rw [hdn]
      cases a.drop l.length <;> rfl
    rw [hde] at hd
    ((refine ggb0 (F := _∧_) ⟨@Int.lt_irrefl, hf2⟩ ?_))
    ((repeat refine AW_seq ?_); (refine wta ?_); simp (disch := omega) only [retQ, resD, oneD, rsv, rs, rsL, rsL_eq_map, List.map_map, bb, bt, zDs, zD, eqCells, simprocAttr, Tryz.results101, hd])

/-! What is given. -/
def givE (s : Sy) (l : List (Int × Int)) : Int := if validS s = true ∧ allV l = true then (if l.length = s.rs.length then 0 else 3) else 1
end Go.Proofs.YtjjpjgnoanfaoaaGreat.T
end

section
namespace Go.Proofs.YtjjpjgnoanfaoaaGreat.T
open Go Go.RowKit Lin
set_option linter.unusedSimpArgs false

/-! The total of tensions. -/
end Go.Proofs.YtjjpjgnoanfaoaaGreat.T
end

section
namespace Go.Proofs.YtjjpjgnoanfaoaaGreat.T
open Go Go.RowKit Lin
set_option linter.unusedSimpArgs false

/-! The total of tensions, by the reference. -/
end Go.Proofs.YtjjpjgnoanfaoaaGreat.T
end

section
namespace Go.Proofs.YtjjpjgnoanfaoaaGreat.T
open Go Go.RowKit Lin
set_option linter.unusedSimpArgs false

/-! Chapter 11: the law of totals. -/
end Go.Proofs.YtjjpjgnoanfaoaaGreat.T
end
end

section
section
namespace Go.Proofs.YtjjpjgnoanfaoaaGreat.T
open Go Go.RowKit Lin
set_option linter.unusedSimpArgs false

/-! The residuals. -/
end Go.Proofs.YtjjpjgnoanfaoaaGreat.T
end

section
namespace Go.Proofs.YtjjpjgnoanfaoaaGreat.T
open Go Go.RowKit Lin
set_option linter.unusedSimpArgs false

/-! The residuals, by the reference. -/
end Go.Proofs.YtjjpjgnoanfaoaaGreat.T
end

section
namespace Go.Proofs.YtjjpjgnoanfaoaaGreat.T
open Go Go.RowKit Lin
set_option linter.unusedSimpArgs false

/-! The residuals, by the program. -/
end Go.Proofs.YtjjpjgnoanfaoaaGreat.T
end

section
namespace Go.Proofs.YtjjpjgnoanfaoaaGreat.T
open Go Go.RowKit Lin
set_option linter.unusedSimpArgs false

/-! Checks. -/
end Go.Proofs.YtjjpjgnoanfaoaaGreat.T
end

section
namespace Go.Proofs.YtjjpjgnoanfaoaaGreat.T
open Go Go.RowKit Lin
set_option linter.unusedSimpArgs false

/-! The reference's check. -/
end Go.Proofs.YtjjpjgnoanfaoaaGreat.T
end

section
namespace Go.Proofs.YtjjpjgnoanfaoaaGreat.T
open Go Go.RowKit Lin
set_option linter.unusedSimpArgs false

/-! The reference's check; the law of checks. -/
end Go.Proofs.YtjjpjgnoanfaoaaGreat.T
end
end

