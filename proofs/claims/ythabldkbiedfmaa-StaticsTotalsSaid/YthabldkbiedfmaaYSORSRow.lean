import Derived.Test.YthabldkbiedfmaaYSLSO
import Derived.Test.YthabldkbiedfmaaTJ
import Derived.Test.YthabldkbiedfmaaWA
import Derived.Test.YthabldkbiedfmaaRows
import Derived.Lib.SmallJoins
import Derived.ProofKit
import Derived.Test.YthabldkbiedfmaaWJ
import Derived.Test.YthabldkbiedfmaaSG
set_option linter.all false
namespace Go.Proofs.Ythabldkbiedfmaa.T
open Go Go.RowKit Lin
set_option linter.unusedSimpArgs false

/-! The total of tensions, by the reference. -/
theorem fz_frS (b g : Nat) (cs : List D) : ∀ l : List (Int × Int), fzL b g cs (frC l) = frC l
  | [] => by simp only [frC, List.flatMap_nil, fzL]
  | x :: l => by have := fz_frS b g cs l; simp only [frC, List.flatMap_cons, List.cons_append, List.nil_append, fzL, fz] at this ⊢; rw [this]
theorem colS_len (m : List (List Int)) (w : Nat) : (colS m w).length = w := by simp [colS]
theorem colS_take {m : List (List Int)} {w k : Nat} (h : k < w) : (colS m w).take (k + 1) = (colS m w).take k ++ [pulN m k m.length] := by
  rw [List.take_add_one, colS_at h]; rfl
set_option maxHeartbeats 2000000 in
theorem total_ref (s : Sy) (hf : Fits s) (l : List (Int × Int)) (hl : l.length ≤ 1000000) : PRet Try.prog 40 [syD s, frs l] (fe (totP s l)) := by
  refine PRet.intro 1 fun t => ACall.enter tab_ok Try.func40 rfl rfl Try.ntmps40 (by simp) ?_
  simp only [enterTM]
  have hG := given_ref s hf l hl
  by_cases hg : givE s l = 0
  rotate_left 1
  · have e : totP s l = ((0, 0), givE s l) := by simp [totP, hg]
    have hg' : (givE s l != 0) = true := by simpa using hg
    ((refine ggb1 hg' hG ?_))
    ((repeat refine AW_seq ?_); (refine wta ?_); simp (disch := omega) only [retQ, resD, oneD, rsv, rs, rsL, rsL_eq_map, List.map_map, bb, bt, zDs, zD, eqCells, simprocAttr, Try.results40, e])
  have e : totP s l = dotF (colS (matS s) s.rs.length) l (0, 1) := by simp [totP, hg]
  rw [hg] at hG
  obtain ⟨hv, ha, hz⟩ := givE_zero hg
  have ok := validS_ok hv
  have hM := matrix_ref s ok
  obtain ⟨m1, m2, m3⟩ := validP_iff.1 ok.mat_valid
  have mw := ok.mat_wid
  have ml := ok.mat_len
  have hdb := bkC_div s.bs
  have hdr := rpC_div s.rs
  have hkw : ∀ k, k < s.rs.length → ∀ r ∈ matS s, k < r.length := fun k hk r hr => by rw [(m3 r hr).1]; omega
  have hpb := fun k hk => pulN_le (m := matS s) (k := k) (fun r hr => (m3 r hr).2) (hkw k hk)
  have hS := sum_ref (colS (matS s) s.rs.length) l (by omega) (by rw [colS_len]; omega) (by rw [colS_len]; omega) (fun x hx => by
    obtain ⟨k, hk, rfl⟩ := List.mem_map.1 hx
    have := hpb k (List.mem_range.1 hk) (matS s).length (Nat.le_refl _)
    omega) ha
  rw [e]
  clear e hg ok hf hv
  generalize matS s = m at *
  ((refine gga2 hG hM ?_))
  ((repeat refine AW_seq ?_))
  refine AW.begin 8 1 3 rfl (by decide) ?_
  simp only [putTM, List.length_cons, List.length_nil, Nat.reduceEqDiff, ↓reduceIte, List.cons_append, List.nil_append]
  refine AW_mid (fun x : Nat × Nat => ⟨[(1, frs l), (4, .ptr 1 (t + 1 + 1) 0), (8, .own 1 2 x.1 0 s.rs.length)], [none, some ⟨33, t + 1 + 1, [int 0, int 0]⟩, some ⟨3, x.1, (colS m s.rs.length).map int⟩], x.2⟩) (fun _ => True) ?_ ?_
  · refine AW_block ?_
    refine AW_loop_w (fun x : Nat × Nat × Nat => ⟨[(1, frs l), (2, .ptr 0 (t + 1) 0), (4, .ptr 1 (t + 1 + 1) 0), (7, mat m), (8, .own 1 2 x.2.1 0 x.1), (9, int x.1)], [some ⟨25, t + 1, [bks s.bs, rps s.rs]⟩, some ⟨33, t + 1 + 1, [int 0, int 0]⟩, some ⟨3, x.2.1, ((colS m s.rs.length).take x.1).map int⟩], x.2.2⟩) (fun x => s.rs.length - x.1) (fun x => x.1 ≤ s.rs.length) (0, t + 1 + 1 + 1, t + 1 + 1 + 1) (Nat.zero_le _) (by (simp (disch := omega) only [StLe, tmLe, hpLe_refl, hpLe, bl, bb, bt, zDs, zD, eqCells, simprocAttr])) ?_
    rintro ⟨k, g, tt⟩ hk
    simp only at hk
    by_cases hlt : k < s.rs.length
    · have hst := colS_take (m := m) hlt
      have hcl : ((colS m s.rs.length).take k).length = k := by rw [List.length_take, colS_len]; omega
      ((refine ggb0 (F := _∧_∧_) ⟨@Int.ofNat_lt, hlt, hdr⟩ ?_))
      ((repeat refine AW_seq ?_))
      refine AW_block ?_
      ((refine gga0 ?_))
      ((repeat refine AW_seq ?_))
      refine AW_block ?_
      refine AW_loop_w (fun x : Nat × Nat => ⟨[(1, frs l), (2, .ptr 0 (t + 1) 0), (4, .ptr 1 (t + 1 + 1) 0), (7, mat m), (8, .own 1 2 g 0 k), (9, int k), (10, int (pulN m k x.1)), (11, int x.1)], [some ⟨25, t + 1, [bks s.bs, rps s.rs]⟩, some ⟨33, t + 1 + 1, [int 0, int 0]⟩, some ⟨3, g, ((colS m s.rs.length).take k).map int⟩], x.2⟩) (fun x => m.length - x.1) (fun x => x.1 ≤ m.length) (0, tt) (Nat.zero_le _) (by (simp (disch := omega) only [StLe, tmLe, hpLe_refl, hpLe, bl, bb, bt, zDs, zD, eqCells, simprocAttr, pulN_zero])) ?_
      rintro ⟨i, t2⟩ hi
      simp only at hi
      by_cases hli : i < m.length
      · obtain ⟨r, hr⟩ : ∃ y, m[i]? = some y := ⟨_, List.getElem?_eq_getElem hli⟩
        have hrk := hkw k hlt r (List.mem_of_getElem? hr)
        obtain ⟨n, hn⟩ : ∃ y, r[k]? = some y := ⟨_, List.getElem?_eq_getElem hrk⟩
        have hstn := pulN_step hr hn
        have hb1 := hpb k hlt i hi
        have hb2 := (m3 r (List.mem_of_getElem? hr)).2 n (List.mem_of_getElem? hn)
        have hlb : i < s.bs.length := by omega
        ((refine ggb0 (F := _∧_∧_) ⟨@Int.ofNat_lt, hlb, hdb⟩ ?_))
        ((repeat refine AW_seq ?_))
        refine AW_block ?_
        ((refine ggb0 (F := _∧_∧_∧_∧_) ⟨hli, hlt, hr, hn, hrk⟩ ?_))
        refine ⟨(i + 1, t2), hli, by show m.length - (i + 1) < m.length - i; omega, ?_⟩
        simp only [hstn]
        (simp (disch := omega) only [StLe, tmLe, hpLe_refl, hpLe, bl, bb, bt, zDs, zD, eqCells, simprocAttr])
      have hie : i = s.bs.length := by omega
      subst hie
      ((refine ggb0 (F := _∧_∧_) ⟨@Int.lt_irrefl, hdb, hcl⟩ ?_))
      refine ⟨(k + 1, t2 + 1, t2 + 1), hlt, by show s.rs.length - (k + 1) < s.rs.length - k; omega, ?_⟩
      rw [ml] at hst
      simp only [hst, List.map_append, List.map_cons, List.map_nil]
      (simp (disch := omega) only [StLe, tmLe, hpLe_refl, hpLe, bl, bb, bt, zDs, zD, eqCells, simprocAttr])
    · have hke : k = s.rs.length := by omega
      subst hke
      rw [List.take_of_length_le (by rw [colS_len]; omega)]
      ((refine wqb (F := _∧_) ⟨@Int.lt_irrefl, hdr⟩ ?_))
      ((refine wia ?_))
      ((refine wxa ?_))
      exact ⟨(g, tt), trivial, by (simp (disch := omega) only [StLe, tmLe, hpLe_refl, hpLe, bl, bb, bt, zDs, zD, eqCells, simprocAttr])⟩
  rintro ⟨g, tt⟩ -
  have hfin : List.take s.rs.length ((colS m s.rs.length).map int) = (colS m s.rs.length).map int := List.take_of_length_le (by simp [colS])
  ((refine AW.freeze (2) (by first | rfl | (simp only [setH, List.getElem?_cons_zero, List.getElem?_cons_succ, hfin, fz_frS, colS_len, Nat.le_refl]; done)) ?_); simp (disch := omega) only [fzT, fz, fzL, fzL_ints, fzL_mat, fzH, fzB, eq_self, bb, bt, zDs, zD, eqCells, simprocAttr, hfin, fz_frS, colS_len, Nat.le_refl])
  ((refine gga1 hS ?_))
  ((repeat refine AW_seq ?_); (refine wta ?_); simp (disch := omega) only [retQ, resD, oneD, rsv, rs, rsL, rsL_eq_map, List.map_map, bb, bt, zDs, zD, eqCells, simprocAttr, Try.results40])
end Go.Proofs.Ythabldkbiedfmaa.T

namespace Go.Proofs.Ythabldkbiedfmaa.T
open Go Go.RowKit Lin
set_option linter.unusedSimpArgs false

/-! Chapter 11: the law of totals. -/
theorem few11L (s : Sy) (l : List (Int × Int)) : PRet Try.prog 27 [syD s, frs l] (bool (smallS s && decide (l.length ≤ 10))) := by
  refine PRet.intro 1 fun t => ACall.enter tab_ok Try.func27 rfl rfl Try.ntmps27 (by simp) ?_
  simp only [enterTM]
  have hS := small_ref s
  have hfl := frC_len l
  have hf2 : (frC l).length / 2 = l.length := by omega
  have he : decide ((l.length : Int) ≤ 10) = decide (l.length ≤ 10) := by rw [decide_eq_decide]; omega
  cases hs : smallS s
  · rw [hs] at hS
    ((refine gga1 hS ?_))
    ((repeat refine AW_seq ?_); (refine wta ?_); simp (disch := omega) only [retQ, resD, oneD, rsv, rs, rsL, rsL_eq_map, List.map_map, bb, bt, zDs, zD, eqCells, simprocAttr, Try.results27])
  · rw [hs] at hS
    ((refine ggb1 (F := _∧_) ⟨hf2, he⟩ hS ?_))
    ((repeat refine AW_seq ?_); (refine wta ?_); simp (disch := omega) only [retQ, resD, oneD, rsv, rs, rsL, rsL_eq_map, List.map_map, bb, bt, zDs, zD, eqCells, simprocAttr, Try.results27])
set_option maxHeartbeats 1000000 in
theorem law_totals (s : Sy) (l : List (Int × Int)) : PRet Try.prog 6 [syD s, frs l] (bool true) := by
  refine PRet.intro 1 fun t => ACall.enter tab_ok Try.func6 rfl rfl Try.ntmps6 (by simp) ?_
  simp only [enterTM]
  have hF := few11L s l
  cases hs : (smallS s && decide (l.length ≤ 10))
  · rw [hs] at hF
    ((refine gga2 awake11 hF ?_))
    ((repeat refine AW_seq ?_); (refine wta ?_); simp (disch := omega) only [retQ, resD, oneD, rsv, rs, rsL, rsL_eq_map, List.map_map, bb, bt, zDs, zD, eqCells, simprocAttr, Try.results6])
  rw [hs] at hF
  obtain ⟨hs1, hs2⟩ := Bool.and_eq_true_iff.1 hs
  have hl10 : l.length ≤ 10 := by simpa using hs2
  have hf := small_fits hs1
  have hT := total_prog s hf l (by omega)
  have hU := total_ref s hf l (by omega)
  generalize totP s l = Y at *
  have e2 : (Y.2 == Y.2) = true := by simp
  have e3 : (Y.1.1 == Y.1.1) = true := by simp
  have e4 : (Y.1.2 == Y.1.2) = true := by simp
  ((refine ggb4 (F := _∧_∧_) ⟨e2, e3, e4⟩ awake11 hF hT hU ?_))
  ((repeat refine AW_seq ?_); (refine wta ?_); simp (disch := omega) only [retQ, resD, oneD, rsv, rs, rsL, rsL_eq_map, List.map_map, bb, bt, zDs, zD, eqCells, simprocAttr, Try.results6])
end Go.Proofs.Ythabldkbiedfmaa.T

/- What the arguments of chapter 4's laws stand for. -/
namespace Go.Proofs.Ythabldkbiedfmaa.T
open Go Go.RowKit Go.ChangeShapes

theorem slice_one {P : Program} {w : World} {r : Reach} {base : Nat} {t e : TypeId} {v : Value} (ht : P.underlying t = some (.slice e)) (h : Value.okWide P w r base t v) : v.cells = #[v] := by
  simp only [Value.okWide, ht, Cell.okWide] at h
  cases v <;> simp_all [Value.cells, Cell.ok]
theorem ints_of : ∀ {rows : List (List D)}, (∀ r ∈ rows, (∃ n, r = [int n] ∧ (Lit.int .i64 n).wf = true) ∧ r.length = 1) → ∃ l : List Int, rows.flatten = l.map int ∧ ∀ x ∈ l, (Lit.int .i64 x).wf = true
  | [], _ => ⟨[], rfl, by simp⟩
  | r :: rows, h => by
    obtain ⟨⟨n, rfl, hw⟩, _⟩ := h r (by simp)
    obtain ⟨l, e, hl⟩ := ints_of fun x hx => h x (List.mem_cons_of_mem _ hx)
    exact ⟨n :: l, by simp [e], fun x hx => by
      rcases List.mem_cons.1 hx with rfl | hx
      · exact hw
      · exact hl x hx⟩
theorem rows_of : ∀ {rows : List (List D)}, (∀ r ∈ rows, (∃ l : List Int, r = [ints l] ∧ ∀ x ∈ l, (Lit.int .i64 x).wf = true) ∧ r.length = 1) → ∃ m : List (List Int), rows.flatten = m.map ints ∧ ∀ l ∈ m, ∀ x ∈ l, (Lit.int .i64 x).wf = true
  | [], _ => ⟨[], rfl, by simp⟩
  | r :: rows, h => by
    obtain ⟨⟨n, rfl, hw⟩, _⟩ := h r (by simp)
    obtain ⟨l, e, hl⟩ := rows_of fun x hx => h x (List.mem_cons_of_mem _ hx)
    exact ⟨n :: l, by simp [e], fun x hx => by
      rcases List.mem_cons.1 hx with rfl | hx
      · exact hw
      · exact hl x hx⟩

theorem u8_of {x : Int} (h : (Lit.int .u8 x).wf = true) : 0 ≤ x ∧ x < 256 := by
  rw [Lit.wf, Bool.and_eq_true] at h
  have h1 := of_decide_eq_true h.1
  have h2 := of_decide_eq_true h.2
  have e1 : IntKind.u8.min = 0 := rfl
  have e2 : IntKind.u8.max = 255 := rfl
  rw [e1] at h1
  rw [e2] at h2
  exact ⟨h1, by omega⟩
theorem cellsInt : Try.prog.cellsOf 3 = 1 := by kernel_rfl
theorem cellsInts : Try.prog.cellsOf 72 = 1 := by kernel_rfl
section
variable {H : Type} {enc : TypeId × Value → H} {W : World}
theorem opn_ints : Opn enc Try.prog W 72 fun ds => ∃ l : List Int, ds = [ints l] ∧ ∀ x ∈ l, (Lit.int .i64 x).wf = true :=
  (Opn.slice Try.underlying72 cellsInt (by decide) (Opn.int Try.underlying3)).mono fun ds ⟨rows, e, h, _⟩ => by
    obtain ⟨l, e2, hl⟩ := ints_of h
    exact ⟨l, by rw [e, e2], hl⟩
theorem opn_mat : Opn enc Try.prog W 96 fun ds => ∃ m : List (List Int), ds = [mat m] ∧ ∀ l ∈ m, ∀ x ∈ l, (Lit.int .i64 x).wf = true :=
  (Opn.slice Try.underlying96 cellsInts (by decide) opn_ints).mono fun ds ⟨rows, e, h, _⟩ => by
    obtain ⟨l, e2, hl⟩ := rows_of h
    exact ⟨l, by rw [e, e2], hl⟩
end
end Go.Proofs.Ythabldkbiedfmaa.T

/- The signs of the head's word (printed by mkmake.py): the kernel need not take a long string apart. -/
namespace Go.Proofs.Ythabldkbiedfmaa.T
open Go Go.RowKit Go.Joins
def wordSigns0 : List Char := [104,97,114,110,101,115,115,32,56,99,54,50,54,99,55,102,50,49,50,101,102,100,48,98,99,56,52,49,48,101,48,56,55,99,54,97,56,98,53,56,50,100,49,100,57,49,50,53,53,52,56,54,55,56,57,53,54,57,99,50,97,50,51,98].map Char.ofNat
def wordSigns1 : List Char := [52,49,48,100,51,102,97,55,32,99,117,116,32,97,116,32,108,111,102,116,98,108,111,99,107,47,108,111,102,116,98,108,111,99,107,108,97,119,49,49,46,83,116,97,116,105,99,115,84,101,110,115,105,111,110,115,32,108,111,102,116,98,108,111].map Char.ofNat
def wordSigns2 : List Char := [99,107,47,108,111,102,116,98,108,111,99,107,108,97,119,49,49,46,83,116,97,116,105,99,115,84,117,114,110,115,32,108,111,102,116,98,108,111,99,107,47,108,111,102,116,98,108,111,99,107,108,97,119,49,49,46,83,116,97,116,105,99,115,65].map Char.ofNat
def wordSigns3 : List Char := [100,100,115,32,108,111,102,116,98,108,111,99,107,47,108,111,102,116,98,108,111,99,107,108,97,119,49,49,46,83,116,97,116,105,99,115,84,111,116,97,108,115,32,108,111,102,116,98,108,111,99,107,47,108,111,102,116,98,108,111,99,107,108,97].map Char.ofNat
def wordSigns4 : List Char := [119,49,49,46,83,116,97,116,105,99,115,80,111,105,110,116,32,108,111,102,116,98,108,111,99,107,47,108,111,102,116,98,108,111,99,107,108,97,119,49,49,46,83,116,97,116,105,99,115,67,104,101,99,107,115,32,108,111,102,116,98,108,111,99].map Char.ofNat
def wordSigns5 : List Char := [107,47,108,111,102,116,98,108,111,99,107,108,97,119,49,49,46,83,116,97,116,105,99,115,72,111,108,100,115,32,108,111,102,116,98,108,111,99,107,47,108,111,102,116,98,108,111,99,107,108,97,119,49,50,46,77,111,116,105,111,110,83,112,101].map Char.ofNat
def wordSigns6 : List Char := [101,100,115,32,108,111,102,116,98,108,111,99,107,47,108,111,102,116,98,108,111,99,107,108,97,119,49,50,46,77,111,116,105,111,110,87,111,114,107,32,108,111,102,116,98,108,111,99,107,47,108,111,102,116,98,108,111,99,107,108,97,119,49,50].map Char.ofNat
def wordSigns7 : List Char := [46,77,111,116,105,111,110,71,111,101,115,32,108,111,102,116,98,108,111,99,107,47,108,111,102,116,98,108,111,99,107,108,97,119,49,50,46,77,111,116,105,111,110,76,101,110,103,116,104,115,32,108,111,102,116,98,108,111,99,107,47,108,111,102].map Char.ofNat
def wordSigns8 : List Char := [116,98,108,111,99,107,108,97,119,49,50,46,77,111,116,105,111,110,70,114,101,101,115,32,108,111,102,116,98,108,111,99,107,47,108,111,102,116,98,108,111,99,107,108,97,119,49,54,46,77,111,98,105,108,105,116,121,75,101,101,112,115,32,108].map Char.ofNat
def wordSigns9 : List Char := [111,102,116,98,108,111,99,107,47,108,111,102,116,98,108,111,99,107,108,97,119,49,54,46,77,111,98,105,108,105,116,121,80,114,111,118,101,115,32,108,111,102,116,98,108,111,99,107,47,108,111,102,116,98,108,111,99,107,108,97,119,49,54,46].map Char.ofNat
def wordSigns10 : List Char := [77,111,98,105,108,105,116,121,87,105,116,104,111,117,116,32,108,111,102,116,98,108,111,99,107,47,108,111,102,116,98,108,111,99,107,108,97,119,49,54,46,77,111,98,105,108,105,116,121,79,114,100,101,114,32,108,111,102,116,98,108,111,99,107].map Char.ofNat
def wordSigns11 : List Char := [47,108,111,102,116,98,108,111,99,107,108,97,119,49,54,46,77,111,98,105,108,105,116,121,82,101,109,111,118,101,115,32,108,111,102,116,98,108,111,99,107,47,108,111,102,116,98,108,111,99,107,108,97,119,49,51,46,65,100,118,97,110,116,97].map Char.ofNat
def wordSigns12 : List Char := [103,101,83,97,109,101,32,108,111,102,116,98,108,111,99,107,47,108,111,102,116,98,108,111,99,107,108,97,119,49,51,46,65,100,118,97,110,116,97,103,101,69,113,117,97,108,32,108,111,102,116,98,108,111,99,107,47,108,111,102,116,98,108,111].map Char.ofNat
def wordSigns13 : List Char := [99,107,108,97,119,49,51,46,65,100,118,97,110,116,97,103,101,79,119,110,32,108,111,102,116,98,108,111,99,107,47,108,111,102,116,98,108,111,99,107,108,97,119,49,51,46,65,100,118,97,110,116,97,103,101,72,111,108,100,115,32,108,111,102].map Char.ofNat
def wordSigns14 : List Char := [116,98,108,111,99,107,47,108,111,102,116,98,108,111,99,107,108,97,119,49,52,46,76,111,115,115,101,115,84,119,105,99,101,32,108,111,102,116,98,108,111,99,107,47,108,111,102,116,98,108,111,99,107,108,97,119,49,52,46,76,111,115,115,101].map Char.ofNat
def wordSigns15 : List Char := [115,65,108,111,110,103].map Char.ofNat
def wordSigns : List Char := wordSigns0 ++ wordSigns1 ++ wordSigns2 ++ wordSigns3 ++ wordSigns4 ++ wordSigns5 ++ wordSigns6 ++ wordSigns7 ++ wordSigns8 ++ wordSigns9 ++ wordSigns10 ++ wordSigns11 ++ wordSigns12 ++ wordSigns13 ++ wordSigns14 ++ wordSigns15
theorem word_is : Try.prog.initOrder.toList = wordSigns := by
  have h : Try.prog.initOrder = String.ofList wordSigns := by kernel_rfl
  rw [h, String.toList_ofList]
theorem word_cut : behindMainWord (wordsSigns wordSigns) = "cut".toList :: (behindMainWord (wordsSigns wordSigns)).tail := by kernel_rfl
theorem make_of (P : Program) (l : List Char) (h : P.initOrder.toList = l) (r : List (List Char)) (hr : behindMainWord (wordsSigns l) = "cut".toList :: r) : P.make = some .cut := by
  unfold Program.make
  rw [h, hr]
  rfl
theorem enter_of (P : Program) (l : List Char) (h : P.initOrder.toList = l) (r : List (List Char)) (hr : behindMainWord (wordsSigns l) = "cut".toList :: r) (h1 : P.laysLater = false) (h2 : P.bearsReflect = false) (h3 : P.doorFits [] = true) (hs : stripLifts liftWords ("cut".toList :: r) = ([], "cut".toList :: r)) : P.mayEnter = true := by
  unfold Program.mayEnter
  rw [h, hr]
  simp only [hs, h1, h2, h3]
  rfl
theorem word_make : Try.prog.make = some .cut := make_of _ wordSigns word_is _ word_cut
theorem word_enter : Try.prog.mayEnter = true := enter_of _ wordSigns word_is _ word_cut (by kernel_rfl) (by kernel_rfl) (by kernel_rfl) (by kernel_rfl)
theorem word_lifts : Try.prog.liftsFinal = false := by
  unfold Program.liftsFinal Program.headLifts
  rw [word_is]
  kernel_rfl
theorem word_enterP : Try.pinned.checked.prog.mayEnter = true := word_enter
theorem word_liftsP : Try.pinned.checked.prog.liftsFinal = false := word_lifts
theorem word_makeP : Try.pinned.checked.prog.make = some .cut := word_make
end Go.Proofs.Ythabldkbiedfmaa.T

/- Arguments that are lists of fractions. -/
namespace Go.Proofs.Ythabldkbiedfmaa.T
open Go Go.RowKit Go.ChangeShapes

theorem fracs_of : ∀ {rows : List (List D)}, (∀ r ∈ rows, (∃ a b, r = [int a, int b]) ∧ r.length = 2) → ∃ l : List (Int × Int), rows.flatten = frC l
  | [], _ => ⟨[], rfl⟩
  | r :: rows, h => by
    obtain ⟨⟨a, b, rfl⟩, _⟩ := h r (by simp)
    obtain ⟨l, e⟩ := fracs_of fun x hx => h x (List.mem_cons_of_mem _ hx)
    exact ⟨(a, b) :: l, by simp [e, frC]⟩
theorem cellsFrac : Try.prog.cellsOf 33 = 2 := by kernel_rfl
section
variable {H : Type} {enc : TypeId × Value → H} {W : World}
theorem opn_frac : Opn enc Try.prog W 33 fun ds => ∃ a b, ds = [int a, int b] :=
  (Opn.struct Try.underlying33 ⟨_, _, rfl, rfl, Opn.int Try.underlying3, _, _, rfl, by simp only [cellsInt], Opn.int Try.underlying3, rfl⟩ (by kernel_rfl)).mono fun ds h => by
    obtain ⟨d1, r1, rfl, ⟨a, rfl, _⟩, d2, r2, rfl, ⟨b, rfl, _⟩, rfl⟩ := h
    exact ⟨a, b, rfl⟩
theorem opn_fracs : Opn enc Try.prog W 28 fun ds => ∃ l : List (Int × Int), ds = [frs l] ∧ True :=
  (Opn.slice Try.underlying28 cellsFrac (by decide) opn_frac).mono fun ds ⟨rows, e, h, _⟩ => by
    obtain ⟨l, e2⟩ := fracs_of h
    exact ⟨l, by rw [e, e2], trivial⟩
end
end Go.Proofs.Ythabldkbiedfmaa.T

/- Arguments that are systems. -/
namespace Go.Proofs.Ythabldkbiedfmaa.T
open Go Go.RowKit Go.ChangeShapes

theorem flats_of {α : Type} {f : α → List D} {n : Nat} : ∀ {rows : List (List D)}, (∀ r ∈ rows, (∃ x, r = f x) ∧ r.length = n) → ∃ l : List α, rows.flatten = l.flatMap f
  | [], _ => ⟨[], rfl⟩
  | r :: rows, h => by
    obtain ⟨⟨x, rfl⟩, _⟩ := h r (by simp)
    obtain ⟨l, e⟩ := flats_of fun x hx => h x (List.mem_cons_of_mem _ hx)
    exact ⟨x :: l, by simp [e]⟩
theorem cellsHold : Try.prog.cellsOf 53 = 4 := by kernel_rfl
theorem cellsRope : Try.prog.cellsOf 49 = 3 := by kernel_rfl
theorem cellsBlock : Try.prog.cellsOf 45 = 2 := by kernel_rfl
theorem agg_of {P : Program} {w : World} {r : Reach} {base : Nat} {t : TypeId} {fs : Array Field} {v : Value} (ht : P.underlying t = some (.struct fs)) (h : Value.okWide P w r base t v) : ∃ cs, v = .agg cs := by
  simp only [Value.okWide, ht] at h
  obtain ⟨cs, e, _⟩ := h
  exact ⟨cs, e⟩
section
variable {H : Type} {enc : TypeId × Value → H} {W : World}
theorem opn_hold : Opn enc Try.prog W 53 fun ds => ∃ h : Hd, ds = hd1 h :=
  (Opn.struct Try.underlying53 ⟨_, _, rfl, (by kernel_rfl), Opn.str Try.underlying9, _, _, rfl, (by kernel_rfl), Opn.int Try.underlying3, _, _, rfl, (by kernel_rfl), opn_frac, rfl⟩ (by kernel_rfl)).mono fun ds h => by
    obtain ⟨d1, r1, rfl, ⟨s, rfl, _⟩, d2, r2, rfl, ⟨p, rfl, _⟩, d3, r3, rfl, ⟨a, b, rfl⟩, rfl⟩ := h
    exact ⟨⟨s, p, a, b⟩, rfl⟩
theorem opn_holds : Opn enc Try.prog W 47 fun ds => ∃ l : List Hd, ds = [hds l] :=
  (Opn.slice Try.underlying47 cellsHold (by decide) opn_hold).mono fun ds ⟨rows, e, h, _⟩ => by
    obtain ⟨l, e2⟩ := flats_of h
    exact ⟨l, by rw [e, e2]; rfl⟩
theorem opn_rope : Opn enc Try.prog W 49 fun ds => ∃ r : Rp, ds = rp1 r :=
  (Opn.struct Try.underlying49 ⟨_, _, rfl, (by kernel_rfl), Opn.str Try.underlying9, _, _, rfl, (by kernel_rfl), opn_holds, _, _, rfl, (by kernel_rfl), Opn.bool Try.underlying4, rfl⟩ (by kernel_rfl)).mono fun ds h => by
    obtain ⟨d1, r1, rfl, ⟨s, rfl, _⟩, d2, r2, rfl, ⟨l, rfl⟩, d3, r3, rfl, ⟨b, rfl⟩, rfl⟩ := h
    exact ⟨⟨s, l, b⟩, rfl⟩
theorem opn_ropes : Opn enc Try.prog W 23 fun ds => ∃ l : List Rp, ds = [rps l] :=
  (Opn.slice Try.underlying23 cellsRope (by decide) opn_rope).mono fun ds ⟨rows, e, h, _⟩ => by
    obtain ⟨l, e2⟩ := flats_of h
    exact ⟨l, by rw [e, e2]; rfl⟩
theorem opn_block : Opn enc Try.prog W 45 fun ds => ∃ b : Bk, ds = bk1 b :=
  (Opn.struct Try.underlying45 ⟨_, _, rfl, (by kernel_rfl), Opn.str Try.underlying9, _, _, rfl, (by kernel_rfl), Opn.int Try.underlying3, rfl⟩ (by kernel_rfl)).mono fun ds h => by
    obtain ⟨d1, r1, rfl, ⟨s, rfl, _⟩, d2, r2, rfl, ⟨p, rfl, _⟩, rfl⟩ := h
    exact ⟨⟨s, p⟩, rfl⟩
theorem opn_blocks : Opn enc Try.prog W 22 fun ds => ∃ l : List Bk, ds = [bks l] :=
  (Opn.slice Try.underlying22 cellsBlock (by decide) opn_block).mono fun ds ⟨rows, e, h, _⟩ => by
    obtain ⟨l, e2⟩ := flats_of h
    exact ⟨l, by rw [e, e2]; rfl⟩
theorem opn_sys : Opn enc Try.prog W 25 fun ds => ∃ s : Sy, ds = [bks s.bs, rps s.rs] :=
  (Opn.struct Try.underlying25 ⟨_, _, rfl, (by kernel_rfl), opn_blocks, _, _, rfl, (by kernel_rfl), opn_ropes, rfl⟩ (by kernel_rfl)).mono fun ds h => by
    obtain ⟨d1, r1, rfl, ⟨a, rfl⟩, d2, r2, rfl, ⟨b, rfl⟩, rfl⟩ := h
    exact ⟨⟨a, b⟩, rfl⟩
theorem arg_sys {v : Value} {base : Nat} {r : Reach} {d : DataW H} {p : List MemPlace} (h : DataW.Trod enc Try.prog W 0 (fun _ => true) true 25 v d p) (hv : Value.okWide Try.prog W r base 25 v) : ∃ s : Sy, Rep (memOf W) [] (syD s) v := by
  obtain ⟨cs, rfl⟩ : ∃ cs, v = .agg cs := by
    simp only [Value.okWide, Try.underlying25] at hv
    obtain ⟨cs, e, _⟩ := hv
    exact ⟨cs, e⟩
  obtain ⟨ds, hr, s, rfl⟩ := arg_agg opn_sys h
  exact ⟨s, hr⟩
end
end Go.Proofs.Ythabldkbiedfmaa.T

