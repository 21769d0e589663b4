import Derived.Test.YthabldkbiedfmaaSH
import Derived.Test.YthabldkbiedfmaaWE
set_option linter.all false
namespace Go.Proofs.Ythabldkbiedfmaa.T
open Go Go.RowKit Lin
set_option linter.unusedSimpArgs false

/-! The matrix of pulls. -/
def rowS (s : Sy) (nm : ByteArray) : List Int := s.rs.map fun r => pull nm r.hs
theorem matS_get {s : Sy} {i : Nat} {b : Bk} (h : s.bs[i]? = some b) : (matS s)[i]? = some (rowS s b.nm) := by simp [matS, rowS, h]
theorem matS_take {s : Sy} {i : Nat} {b : Bk} (h : s.bs[i]? = some b) : (matS s).take (i + 1) = (matS s).take i ++ [rowS s b.nm] := by
  rw [List.take_add_one, matS_get h]; rfl
theorem rowS_take {s : Sy} {nm : ByteArray} {k : Nat} {r : Rp} (h : s.rs[k]? = some r) : (rowS s nm).take (k + 1) = (rowS s nm).take k ++ [pull nm r.hs] := by
  rw [List.take_add_one]; simp [rowS, h]
set_option maxHeartbeats 1000000 in
theorem matrix_ref (s : Sy) (ok : OkS s) : PRet Try.prog 115 [syD s] (mat (matS s)) := by
  refine PRet.intro 1 fun t => ACall.enter tab_ok Try.func115 rfl rfl Try.ntmps115 (by simp) ?_
  simp only [enterTM]
  have hlb := bkC_len s.bs
  have hdb := bkC_div s.bs
  have hlr := rpC_len s.rs
  have hdr := rpC_div s.rs
  have hb6 := ok.b6
  have hr6 := ok.r6
  have hml : (matS s).length = s.bs.length := by simp [matS]
  ((refine wqa ?_))
  ((refine wqa ?_))
  ((refine wqa ?_))
  ((repeat refine AW_seq ?_))
  refine AW.begin 3 1 72 rfl (by decide) ?_
  simp only [putTM, List.length_cons, List.length_nil, Nat.reduceEqDiff, ↓reduceIte, List.cons_append, List.nil_append]
  refine AW_mid (fun x : Nat × Nat => ⟨[(3, .own 1 1 x.1 0 s.bs.length)], [none, some ⟨72, x.1, (matS s).map ints⟩], x.2⟩) (fun _ => True) ?_ ?_
  · refine AW_block ?_
    refine AW_loop_w (fun x : Nat × Nat × Nat => ⟨[(1, .ptr 0 (t + 1) 0), (3, .own 1 1 x.2.1 0 x.1), (4, int x.1)], [some ⟨25, t + 1, [bks s.bs, rps s.rs]⟩, some ⟨72, x.2.1, ((matS s).take x.1).map ints⟩], x.2.2⟩) (fun x => s.bs.length - x.1) (fun x => x.1 ≤ s.bs.length) (0, t + 1 + 1, t + 1 + 1) (Nat.zero_le _) (by (simp (disch := omega) only [StLe, tmLe, hpLe_refl, hpLe, bl, bb, bt, zDs, zD, eqCells, simprocAttr])) ?_
    rintro ⟨i, g, tt⟩ hi
    simp only at hi
    by_cases hlt : i < s.bs.length
    · obtain ⟨b, hb⟩ : ∃ y, s.bs[i]? = some y := ⟨_, List.getElem?_eq_getElem hlt⟩
      have hnm := bkC_name s.bs i b hb
      have hst := matS_take hb
      have hcl : ((matS s).take i).length = i := by rw [List.length_take]; omega
      have hrl : (rowS s b.nm).length = s.rs.length := by simp [rowS]
      ((refine ggb0 (F := _∧_∧_) ⟨@Int.ofNat_lt, hlt, hdb⟩ ?_))
      ((repeat refine AW_seq ?_))
      refine AW_block ?_
      ((refine wqa ?_))
      ((refine wqa ?_))
      ((repeat refine AW_seq ?_))
      refine AW.begin 5 1 3 rfl (by decide) ?_
      simp only [putTM, List.length_cons, List.length_nil, Nat.reduceEqDiff, ↓reduceIte, List.cons_append, List.nil_append, Nat.reduceAdd]
      refine AW_mid (fun x : Nat × Nat => ⟨[(1, .ptr 0 (t + 1) 0), (3, .own 1 1 g 0 i), (4, int i), (5, .own 1 2 x.1 0 s.rs.length)], [some ⟨25, t + 1, [bks s.bs, rps s.rs]⟩, some ⟨72, g, ((matS s).take i).map ints⟩, some ⟨3, x.1, (rowS s b.nm).map int⟩], x.2⟩) (fun _ => True) ?_ ?_
      · refine AW_block ?_
        refine AW_loop_w (fun x : Nat × Nat × Nat => ⟨[(1, .ptr 0 (t + 1) 0), (3, .own 1 1 g 0 i), (4, int i), (5, .own 1 2 x.2.1 0 x.1), (6, int x.1)], [some ⟨25, t + 1, [bks s.bs, rps s.rs]⟩, some ⟨72, g, ((matS s).take i).map ints⟩, some ⟨3, x.2.1, ((rowS s b.nm).take x.1).map int⟩], x.2.2⟩) (fun x => s.rs.length - x.1) (fun x => x.1 ≤ s.rs.length) (0, tt + 1, tt + 1) (Nat.zero_le _) (by (simp (disch := omega) only [StLe, tmLe, hpLe_refl, hpLe, bl, bb, bt, zDs, zD, eqCells, simprocAttr])) ?_
        rintro ⟨k, h, t3⟩ hk
        simp only at hk
        by_cases hlk : k < s.rs.length
        · obtain ⟨r, hr⟩ : ∃ y, s.rs[k]? = some y := ⟨_, List.getElem?_eq_getElem hlk⟩
          have hrm := List.mem_of_getElem? hr
          have hra := rpC_read s.rs k r hr
          have hP := pull_ref r b.nm (by have := (ok.holds r hrm).2.1; omega) (ok.pulls r hrm)
          have hrt := rowS_take (nm := b.nm) hr
          have hck : ((rowS s b.nm).take k).length = k := by rw [List.length_take]; omega
          ((refine ggb0 (F := _∧_∧_) ⟨@Int.ofNat_lt, hlk, hdr⟩ ?_))
          ((repeat refine AW_seq ?_))
          refine AW_block ?_
          ((repeat refine AW_seq ?_); (refine gdzb1 (F := _∧_∧_∧_∧_∧_∧_) ⟨hdr, hdb, hlk, hlt, hra, hnm, hck⟩ hP ?_))
          ((refine gga0 ?_))
          refine ⟨(k + 1, t3 + 1, t3 + 1), hlk, by show s.rs.length - (k + 1) < s.rs.length - k; omega, ?_⟩
          simp only [hrt, List.map_append, List.map_cons, List.map_nil]
          (simp (disch := omega) only [StLe, tmLe, hpLe_refl, hpLe, bl, bb, bt, zDs, zD, eqCells, simprocAttr])
        · have hke : k = s.rs.length := by omega
          subst hke
          rw [List.take_of_length_le (l := rowS s b.nm) (by omega)]
          ((refine wqb (F := _∧_) ⟨@Int.lt_irrefl, hdr⟩ ?_))
          ((refine wia ?_))
          ((refine wxa ?_))
          exact ⟨(h, t3), trivial, by (simp (disch := omega) only [StLe, tmLe, hpLe_refl, hpLe, bl, bb, bt, zDs, zD, eqCells, simprocAttr])⟩
      rintro ⟨h, t3⟩ -
      have hfin : List.take s.rs.length ((rowS s b.nm).map int) = (rowS s b.nm).map int := List.take_of_length_le (by simp [rowS])
      ((refine AW.freeze (2) (by first | rfl | (simp only [setH, List.getElem?_cons_zero, List.getElem?_cons_succ, hfin, hrl, fz_bk, fz_rp]; done)) ?_); simp (disch := omega) only [fzT, fz, fzL, fzL_ints, fzL_mat, fzH, fzB, eq_self, bb, bt, zDs, zD, eqCells, simprocAttr, hfin, hrl, fz_bk, fz_rp])
      ((refine ggb0 hcl ?_))
      refine ⟨(i + 1, t3 + 1, t3 + 1), hlt, by show s.bs.length - (i + 1) < s.bs.length - i; omega, ?_⟩
      simp only [hst, List.map_append, List.map_cons, List.map_nil]
      (simp (disch := omega) only [StLe, tmLe, hpLe_refl, hpLe, bl, bb, bt, zDs, zD, eqCells, simprocAttr])
    · have hie : i = s.bs.length := by omega
      subst hie
      rw [List.take_of_length_le (by omega)]
      ((refine wqb (F := _∧_) ⟨@Int.lt_irrefl, hdb⟩ ?_))
      ((refine wia ?_))
      ((refine wxa ?_))
      exact ⟨(g, tt), trivial, by (simp (disch := omega) only [StLe, tmLe, hpLe_refl, hpLe, bl, bb, bt, zDs, zD, eqCells, simprocAttr])⟩
  rintro ⟨g, tt⟩ -
  have hfin : List.take s.bs.length ((matS s).map ints) = (matS s).map ints := List.take_of_length_le (by simp [matS])
  ((refine AW.freeze (1) (by first | rfl | (simp only [setH, List.getElem?_cons_zero, List.getElem?_cons_succ, hfin, hml]; done)) ?_); simp (disch := omega) only [fzT, fz, fzL, fzL_ints, fzL_mat, fzH, fzB, eq_self, bb, bt, zDs, zD, eqCells, simprocAttr, hfin, hml])
  ((refine gga0 ?_))
  ((repeat refine AW_seq ?_); (refine wta ?_); simp (disch := omega) only [retQ, resD, oneD, bb, bt, zDs, zD, eqCells, simprocAttr, Try.results115])
  exact rsv_tidy _ _ (tidy_mat _)

/-! The matrix of the program: filled rope by rope, hold by hold. -/
def ent (s : Sy) (nm : ByteArray) (k j c : Nat) : Int :=
  if c < k then (match s.rs[c]? with | some r => pull nm r.hs | none => 0) else if c = k then (match s.rs[k]? with | some r => pull nm (r.hs.take j) | none => 0) else 0
def rowP (s : Sy) (k j : Nat) (nm : ByteArray) : List Int := (List.range s.rs.length).map (ent s nm k j)
def rowsP (s : Sy) (k j : Nat) : List (List Int) := s.bs.map fun b => rowP s k j b.nm
theorem rowP_len (s : Sy) (k j : Nat) (nm : ByteArray) : (rowP s k j nm).length = s.rs.length := by simp [rowP]
theorem rowsP_len (s : Sy) (k j : Nat) : (rowsP s k j).length = s.bs.length := by simp [rowsP]
theorem rowP_get {s : Sy} {k j : Nat} {nm : ByteArray} {r : Rp} (hr : s.rs[k]? = some r) : (rowP s k j nm)[k]? = some (pull nm (r.hs.take j)) := by
  have hk := (List.getElem?_eq_some_iff.1 hr).1
  simp [rowP, List.getElem?_range hk, ent, hr]
theorem rowP_step {s : Sy} {k j : Nat} {nm : ByteArray} {r : Rp} {h : Hd} (hr : s.rs[k]? = some r) (hh : r.hs[j]? = some h) : rowP s k (j + 1) nm = (rowP s k j nm).set k (pull nm (r.hs.take j) + (if h.b = nm then h.p else 0)) := by
  refine List.ext_getElem? fun c => ?_
  by_cases e : k = c
  · subst e
    have hk := (List.getElem?_eq_some_iff.1 hr).1
    rw [List.getElem?_set_self (by rw [rowP_len]; exact hk), rowP_get hr, pull_step hh]
  · rw [List.getElem?_set_ne e]
    unfold rowP
    rw [List.getElem?_map, List.getElem?_map]
    by_cases hc : c < s.rs.length
    · rw [List.getElem?_range hc]
      simp only [Option.map_some, ent, show ¬ c = k from fun h => e h.symm, if_false]
    · rw [List.getElem?_eq_none (by simp; omega)]; rfl
theorem rowP_same {s : Sy} {k j : Nat} {nm : ByteArray} {r : Rp} {h : Hd} (hr : s.rs[k]? = some r) (hh : r.hs[j]? = some h) (hne : h.b ≠ nm) : rowP s k (j + 1) nm = rowP s k j nm := by
  unfold rowP
  refine List.map_congr_left fun c _ => ?_
  unfold ent
  rw [hr]
  simp only
  rw [pull_step hh, if_neg hne, Int.add_zero]
theorem rowsP_zero (s : Sy) : rowsP s 0 0 = List.replicate s.bs.length (List.replicate s.rs.length 0) := by
  have e : ∀ nm, rowP s 0 0 nm = List.replicate s.rs.length 0 := fun nm => by
    refine List.eq_replicate_iff.2 ⟨rowP_len _ _ _ _, fun x hx => ?_⟩
    obtain ⟨c, _, rfl⟩ := List.mem_map.1 hx
    unfold ent
    rw [if_neg (Nat.not_lt_zero _)]
    split
    · cases s.rs[0]? <;> simp [pull]
    · rfl
  unfold rowsP
  simp only [e]
  exact List.map_const' ..
theorem rowsP_next {s : Sy} {k : Nat} {r : Rp} (hr : s.rs[k]? = some r) : rowsP s (k + 1) 0 = rowsP s k r.hs.length := by
  unfold rowsP rowP
  refine List.map_congr_left fun b _ => List.map_congr_left fun c _ => ?_
  unfold ent
  by_cases h1 : c < k
  · rw [if_pos (by omega), if_pos h1]
  · rw [if_neg h1]
    by_cases h2 : c = k
    · subst h2
      rw [if_pos (by omega), if_pos rfl, hr]
      simp only [List.take_length]
    · rw [if_neg (by omega), if_neg h2]
      split
      · cases s.rs[k + 1]? <;> simp [pull]
      · rfl
theorem rowsP_end (s : Sy) : rowsP s s.rs.length 0 = matS s := by
  unfold rowsP matS
  refine List.map_congr_left fun b _ => ?_
  refine List.ext_getElem (by simp [rowP]) fun c h1 h2 => ?_
  have hc : c < s.rs.length := by simpa [rowP] using h1
  simp [rowP, ent, hc]
theorem rowsP_miss {s : Sy} {k j : Nat} {r : Rp} {h : Hd} (hr : s.rs[k]? = some r) (hh : r.hs[j]? = some h) (hf : findB s.bs h.b < 0) : rowsP s k (j + 1) = rowsP s k j := by
  unfold rowsP
  refine List.map_congr_left fun b hb => rowP_same hr hh fun e => ?_
  obtain ⟨h1, _⟩ := idx_lt (fun x => decide (x.nm = h.b)) s.bs 0
  obtain ⟨i, x, e1, _⟩ := h1 (List.any_eq_true.2 ⟨b, hb, by simp [e]⟩)
  unfold findB at hf
  rw [e1] at hf
  omega
theorem findB_hit {s : Sy} {nm : ByteArray} (hf : 0 ≤ findB s.bs nm) : ∃ (i : Nat) (b : Bk), findB s.bs nm = i ∧ s.bs[i]? = some b ∧ b.nm = nm := by
  obtain ⟨h1, h2⟩ := idx_lt (fun x => decide (x.nm = nm)) s.bs 0
  cases ha : s.bs.any (fun x => decide (x.nm = nm))
  · unfold findB at hf; rw [h2 ha] at hf; omega
  · obtain ⟨i, x, e, hi, hx⟩ := h1 ha
    exact ⟨i, x, by unfold findB; rw [e, Nat.zero_add], hi, by simpa using hx⟩
theorem rowsP_hit {s : Sy} (ok : OkS s) {k j i : Nat} {r : Rp} {h : Hd} {b : Bk} (hr : s.rs[k]? = some r) (hh : r.hs[j]? = some h) (hi : s.bs[i]? = some b) (hn : b.nm = h.b) :
    rowsP s k (j + 1) = (rowsP s k j).set i ((rowP s k j b.nm).set k (pull b.nm (r.hs.take j) + h.p)) := by
  refine List.ext_getElem? fun c => ?_
  have hil := (List.getElem?_eq_some_iff.1 hi).1
  by_cases e : i = c
  · subst e
    rw [List.getElem?_set_self (by rw [rowsP_len]; exact hil)]
    simp only [rowsP, List.getElem?_map, hi, Option.map_some]
    rw [rowP_step hr hh, if_pos hn.symm]
  · rw [List.getElem?_set_ne e]
    simp only [rowsP, List.getElem?_map]
    cases hc : s.bs[c]? with
    | none => rfl
    | some b' =>
      simp only [Option.map_some]
      rw [rowP_same hr hh fun e' => e (ok.inj i c b b' hi hc (hn.trans e'))]
end Go.Proofs.Ythabldkbiedfmaa.T
