import Derived.Test.YtpcakodemleoiaaOVUMJA
import Derived.Test.YtpcakodemleoiaaOVJ
import Derived.Test.YtpcakodemleoiaaWX
import Derived.Test.YtpcakodemleoiaaLSJ
import Derived.Test.YtpcakodemleoiaaOSKM
import Derived.Test.YtpcakodemleoiaaWOP
import Derived.Test.YtpcakodemleoiaaOVS
set_option linter.all false
section
namespace Go.Proofs.Ytpcakodemleoiaa.T
open Go Go.RowKit Lin
set_option linter.unusedSimpArgs false

/-! Quotients of fractions. -/
def recip (b : Int × Int) : Int × Int := if b.1 < 0 then (-b.2, -b.1) else (b.2, b.1)
def divR (a b : Int × Int) : (Int × Int) × Int := madeP (a.1.natAbs * b.2.natAbs) (decide (a.1 < 0) != decide (b.1 < 0)) (a.2.natAbs * b.1.natAbs)
def divP (a b : Int × Int) : (Int × Int) × Int := if vfrac a.1 a.2 = true ∧ vfrac b.1 b.2 = true then divR a b else ((0, 0), 1)
theorem recip_ok {b : Int × Int} (hb : vfrac b.1 b.2 = true) (h0 : b.1 ≠ 0) : vfrac (recip b).1 (recip b).2 = true := by
  obtain ⟨b1, b2, b3, b4, b5⟩ := fr_bounds hb
  have hc : Nat.gcd b.2.natAbs b.1.natAbs = 1 := by rw [Nat.gcd_comm]; exact b5
  unfold recip
  split
  · unfold vfrac
    simp only [Int.natAbs_neg, hc, Bool.and_eq_true, decide_eq_true_eq]
    refine ⟨⟨⟨⟨?_, ?_⟩, ?_⟩, ?_⟩, ?_⟩ <;> first | omega | trivial
  · unfold vfrac
    simp only [hc, Bool.and_eq_true, decide_eq_true_eq]
    refine ⟨⟨⟨⟨?_, ?_⟩, ?_⟩, ?_⟩, ?_⟩ <;> first | omega | trivial
theorem div_recip {a b : Int × Int} (hb : vfrac b.1 b.2 = true) : divR a b = mulR a (recip b) := by
  obtain ⟨b1, _⟩ := fr_bounds hb
  unfold divR mulR recip
  split
  · rename_i h
    simp only [Int.natAbs_neg]
    rw [decide_eq_true h, decide_eq_true (show -b.2 < 0 by omega)]
  · rename_i h
    simp only
    rw [decide_eq_false h, decide_eq_false (show ¬ b.2 < 0 by omega)]
theorem div_zero {a b : Int × Int} (h0 : b.1 = 0) : divR a b = ((0, 0), 16) := by
  unfold divR madeP
  rw [h0]
  simp
theorem Val.div {a b : Int × Int} {p q r s : Int} (h : Val a p q) (k : Val b r s) (h0 : b.1 ≠ 0) (ok : (divR a b).2 = 0) : Val (divR a b).1 (p * s) (q * r) := by
  have hr : r ≠ 0 := fun e => by
    have := k.e
    rw [e, Int.zero_mul] at this
    rcases Int.mul_eq_zero.1 this with h | h
    · exact h0 h
    · exact k.n0 h
  rw [div_recip k.v] at ok ⊢
  refine h.mul (r := s) (s := r) ⟨recip_ok k.v h0, hr, ?_⟩ ok
  have he := k.e
  unfold recip
  split
  · simp only [Int.neg_mul, Int.mul_neg]
    rw [Int.mul_comm b.2, Int.mul_comm s, he]
  · simp only
    rw [Int.mul_comm b.2, Int.mul_comm s, he]
theorem rDiv (a b : Int × Int) : PRet Try.prog 56 [frD a, frD b] (fe (divP a b)) := by
  refine PRet.intro 1 fun t => ACall.enter tab_ok Try.func56 rfl rfl Try.ntmps56 (by simp) ?_
  simp only [enterTM]
  have h1 := rValid a.1 a.2
  have h2 := rValid b.1 b.2
  cases ha : vfrac a.1 a.2
  · rw [ha] at h1
    have e : divP a b = ((0, 0), 1) := by unfold divP; rw [if_neg (by simp [ha])]
    ((refine gga1 h1 ?_))
    ((repeat refine AW_seq ?_))
    refine AW_block ?_
    ((refine gga1 h1 ?_))
    ((repeat refine AW_seq ?_); (refine wta ?_); simp (disch := omega) only [retQ, resD, oneD, rsv, rs, rsL, rsL_eq_map, List.map_map, bb, bt, zDs, zD, eqCells, simprocAttr, Try.results56, e])
  rw [ha] at h1
  cases hb : vfrac b.1 b.2
  · rw [hb] at h2
    have e : divP a b = ((0, 0), 1) := by unfold divP; rw [if_neg (by simp [hb])]
    ((refine gga2 h1 h2 ?_))
    ((repeat refine AW_seq ?_))
    refine AW_block ?_
    ((refine gga2 h1 h2 ?_))
    ((repeat refine AW_seq ?_); (refine wta ?_); simp (disch := omega) only [retQ, resD, oneD, rsv, rs, rsL, rsL_eq_map, List.map_map, bb, bt, zDs, zD, eqCells, simprocAttr, Try.results56, e])
  rw [hb] at h2
  have e : divP a b = divR a b := by unfold divP; rw [if_pos ⟨ha, hb⟩]
  have hB := fr_bounds hb
  by_cases h0 : b.1 = 0
  · have e0 : (b.1 == 0) = true := by simp [h0]
    rw [div_zero h0] at e
    ((refine gga2 h1 h2 ?_))
    ((repeat refine AW_seq ?_))
    refine AW_block ?_
    ((refine ggb2 e0 h1 h2 ?_))
    ((repeat refine AW_seq ?_); (refine wta ?_); simp (disch := omega) only [retQ, resD, oneD, rsv, rs, rsL, rsL_eq_map, List.map_map, bb, bt, zDs, zD, eqCells, simprocAttr, Try.results56, e])
  have e0 : (b.1 == 0) = false := by simpa using h0
  rw [div_recip hb, ← mulP_ok ha (recip_ok hb h0)] at e
  have hM := rMul a (recip b)
  rw [← e] at hM
  unfold recip at hM
  by_cases hn : b.1 < 0
  · rw [if_pos hn] at hM
    ((refine gga2 h1 h2 ?_))
    ((repeat refine AW_seq ?_))
    refine AW_block ?_
    ((refine ggb3 (F := _∧_) ⟨e0, hn⟩ h1 h2 hM ?_))
    ((repeat refine AW_seq ?_); (refine wta ?_); simp (disch := omega) only [retQ, resD, oneD, rsv, rs, rsL, rsL_eq_map, List.map_map, bb, bt, zDs, zD, eqCells, simprocAttr, Try.results56])
  · rw [if_neg hn] at hM
    ((refine gga2 h1 h2 ?_))
    ((repeat refine AW_seq ?_))
    refine AW_block ?_
    ((refine ggb3 (F := _∧_) ⟨e0, hn⟩ h1 h2 hM ?_))
    ((repeat refine AW_seq ?_); (refine wta ?_); simp (disch := omega) only [retQ, resD, oneD, rsv, rs, rsL, rsL_eq_map, List.map_map, bb, bt, zDs, zD, eqCells, simprocAttr, Try.results56])
end Go.Proofs.Ytpcakodemleoiaa.T
end

section
namespace Go.Proofs.Ytpcakodemleoiaa.T
open Go Go.RowKit Lin
set_option linter.unusedSimpArgs false

/-! Chapter 12: rows, by the program. -/
set_option maxHeartbeats 4000000 in
theorem rows_prog (s : Sy) (hf : Fits s) : PRet Try.prog 100 [syD s] (.tup (if validS s = true then [mat (trS s), int 0] else [ints [], int 1])) := by
  refine PRet.intro 1 fun t => ACall.enter tab_ok Try.func100 rfl rfl Try.ntmps100 (by simp) ?_
  simp only [enterTM]
  have hM := matrix_prog s hf
  have hdr := rpC_div s.rs
  cases hv : validS s
  · rw [hv] at hM
    simp only [Bool.false_eq_true, if_false] at hM
    ((refine gga1 hM ?_))
    ((repeat refine AW_seq ?_); (refine wta ?_); simp (disch := omega) only [retQ, resD, oneD, rsv, rs, rsL, rsL_eq_map, List.map_map, bb, bt, zDs, zD, eqCells, simprocAttr, Try.results100, Bool.false_eq_true, if_false])
    rfl
  rw [hv] at hM
  simp only [if_true] at hM ⊢
  have ok := validS_ok hv
  have hrow := ok.rows
  have hr6 := ok.r6
  have ml := ok.mat_len
  have mw := ok.mat_wid
  unfold trS
  generalize hn : s.rs.length = n at *
  have hb6 := ok.b6
  generalize matS s = m at *
  ((refine ggb1 hdr hM ?_))
  rw [nilsI]
  ((repeat refine AW_seq ?_))
  refine AW_mid (fun x : Nat => ⟨[(6, .own 1 1 (t + 1 + 1) 0 n)], [none, some ⟨66, t + 1 + 1, (turnP m n).map ints⟩], x⟩) (fun _ => True) ?_ ?_
  · refine AW_block ?_
    refine AW_loop_w (fun x : Nat × Nat => ⟨[(4, mat m), (6, .own 1 1 (t + 1 + 1) 0 n), (23, int n), (24, int x.1)], [none, some ⟨66, t + 1 + 1, (turnP m x.1).map ints ++ List.replicate (n - x.1) nilI⟩], x.2⟩) (fun x => n - x.1) (fun x => x.1 ≤ n) (0, t + 1 + 1) (Nat.zero_le _) (by (simp (disch := omega) only [StLe, tmLe, hpLe_refl, hpLe, bl, bb, bt, zDs, zD, eqCells, simprocAttr, turnP, List.range_zero, Nat.sub_zero])) ?_
    rintro ⟨k, tt⟩ hk
    simp only at hk
    have htl : ((turnP m k).map ints).length = k := by rw [List.length_map, turnP_len]
    by_cases hlt : k < n
    · rw [col_nil hlt]
      ((refine ggb0 (F := _∧_) ⟨@Int.ofNat_lt, hlt⟩ ?_))
      ((repeat refine AW_seq ?_))
      refine AW_block ?_
      ((refine gga0 ?_))
      have hg1 := col_get (n := n) htl nilI
      have hs1 := fun c d => col_push (n := n) htl hlt c d
      refine AW.begin_cell 1 k 1 3 rfl hg1 (by decide) ?_
      simp only [List.set_cons_succ, List.set_cons_zero, List.length_cons, List.length_nil, List.cons_append, List.nil_append, Nat.zero_add, Nat.reduceAdd, hs1]
      have htl2 : (turnP m k).length = k := turnP_len m k
      have hrl : (List.replicate (n - (k + 1)) nilI).length = n - (k + 1) := by simp
      have hkn : k < k + (n - (k + 1) + 1) := by omega
      refine AW_block ?_
      refine AW_loop_w (fun x : Nat × Nat × Nat => ⟨[(4, mat m), (6, .own 1 1 (t + 1 + 1) 0 n), (7, int k), (23, int n), (24, int k), (27, mat m), (28, int m.length), (29, int x.1)], [none, some ⟨66, t + 1 + 1, (turnP m k).map ints ++ .own 1 2 x.2.1 0 x.1 :: List.replicate (n - (k + 1)) nilI⟩, some ⟨3, x.2.1, (colP (m.take x.1) k).map int⟩], x.2.2⟩) (fun x => m.length - x.1) (fun x => x.1 ≤ m.length) (0, tt + 1, tt + 1) (Nat.zero_le _) (by (simp (disch := omega) only [StLe, tmLe, hpLe_refl, hpLe, bl, bb, bt, zDs, zD, eqCells, simprocAttr, colP])) ?_
      rintro ⟨j, g, t2⟩ hj
      simp only at hj
      by_cases hlj : j < m.length
      · obtain ⟨r, hr⟩ : ∃ y, m[j]? = some y := ⟨_, List.getElem?_eq_getElem hlj⟩
        have hrl2 := (hrow r (List.mem_of_getElem? hr)).1
        have hkr : k < r.length := by omega
        obtain ⟨v, hv⟩ : ∃ y, r[k]? = some y := ⟨_, List.getElem?_eq_getElem hkr⟩
        have hct := colP_take hr hv
        have hcl : (colP (m.take j) k).length = j := by simp [colP]; omega
        have hg2 := fun c => col_get (n := n) htl c
        ((refine ggb0 (F := _∧_) ⟨@Int.ofNat_lt, hlj⟩ ?_))
        ((repeat refine AW_seq ?_))
        refine AW_block ?_
        ((refine ggb0 (F := _∧_) ⟨hlj, hr⟩ ?_))
        ((repeat refine AW_seq ?_); (refine gdzb (F := _∧_∧_∧_∧_∧_∧_∧_) ⟨hg2, hs1, hkr, hv, hcl, hkn, htl2, hrl⟩ ?_))
        ((refine gga0 ?_))
        refine ⟨(j + 1, t2 + 1, t2 + 1), hlj, by show m.length - (j + 1) < m.length - j; omega, ?_⟩
        simp only [hct, List.map_append, List.map_cons, List.map_nil]
        (simp (disch := omega) only [StLe, tmLe, hpLe_refl, hpLe, bl, bb, bt, zDs, zD, eqCells, simprocAttr])
      · have hje : j = m.length := by omega
        subst hje
        rw [List.take_length]
        have hcl : (colP m k).length = m.length := by simp [colP]
        have hfin : List.take m.length ((colP m k).map int) = (colP m k).map int := List.take_of_length_le (by simp [hcl])
        ((refine wqb @Int.lt_irrefl ?_))
        ((refine wia ?_))
        ((refine wxa ?_))
        ((refine AW.freeze (2) (by first | rfl | (simp only [setH, List.getElem?_cons_zero, List.getElem?_cons_succ, fzL_app, fz_nils, hcl, hfin, List.length_map, Nat.le_refl]; done)) ?_); simp (disch := omega) only [fzT, fz, fzL, fzL_ints, fzL_mat, fzH, fzB, eq_self, bb, bt, zDs, zD, eqCells, simprocAttr, fzL_app, fz_nils, hcl, hfin, List.length_map, Nat.le_refl])
        ((refine gga0 ?_))
        refine ⟨(k + 1, t2), hlt, by show n - (k + 1) < n - k; omega, ?_⟩
        simp only [turnP_succ, List.map_append, List.map_cons, List.map_nil, List.append_assoc, List.cons_append, List.nil_append]
        (simp (disch := omega) only [StLe, tmLe, hpLe_refl, hpLe, bl, bb, bt, zDs, zD, eqCells, simprocAttr])
    · have hke : k = n := by omega
      subst hke
      ((refine ggb0 @Int.lt_irrefl ?_))
      exact ⟨tt, trivial, by (simp (disch := omega) only [StLe, tmLe, hpLe_refl, hpLe, bl, bb, bt, zDs, zD, eqCells, simprocAttr, Nat.sub_self, List.replicate_zero, List.append_nil])⟩
  rintro tt -
  have hfin : List.take n ((turnP m n).map ints) = (turnP m n).map ints := List.take_of_length_le (by simp [turnP_len])
  have htl := turnP_len m n
  ((refine AW.freeze (1) (by first | rfl | (simp only [setH, List.getElem?_cons_zero, List.getElem?_cons_succ, hfin, htl, List.length_map, Nat.le_refl]; done)) ?_); simp (disch := omega) only [fzT, fz, fzL, fzL_ints, fzL_mat, fzH, fzB, eq_self, bb, bt, zDs, zD, eqCells, simprocAttr, hfin, htl, List.length_map, Nat.le_refl])
  ((refine gga0 ?_))
  ((repeat refine AW_seq ?_); (refine wta ?_); simp (disch := omega) only [retQ, resD, oneD, bb, bt, zDs, zD, eqCells, simprocAttr, Try.results100])
  refine rsv_tidy _ _ ?_
  have := tidy_mat (turnP m n)
  simp only [tidyD, tidyL, Bool.not_false, Bool.and_true, Bool.true_and] at this ⊢
  exact this
end Go.Proofs.Ytpcakodemleoiaa.T
end

section
namespace Go.Proofs.Ytpcakodemleoiaa.T
open Go Go.RowKit Lin
set_option linter.unusedSimpArgs false

/-! Chapter 12: hauls, and speeds. -/
theorem all_take {α : Type} {p : α → Bool} {l : List α} {k : Nat} {x : α} (h : l[k]? = some x) : (l.take (k + 1)).all p = ((l.take k).all p && p x) := by
  rw [List.take_add_one, h]
  simp
theorem all_miss {α : Type} {p : α → Bool} {l : List α} {k : Nat} {x : α} (h : l[k]? = some x) (hp : p x = false) : l.all p = false := by
  rw [← Bool.not_eq_true, List.all_eq_true]
  intro hh
  rw [hh x (List.mem_of_getElem? h)] at hp
  cases hp
def ranP (x : Rp × Int) : Bool := decide (-67108864 ≤ x.2 ∧ x.2 ≤ 67108864) && (x.2 == 0 || x.1.hl)
def rangedP (rs : List Rp) (h : List Int) : Bool := (rs.zip h).all ranP
theorem zip_at {rs : List Rp} {h : List Int} {k : Nat} {r : Rp} {n : Int} (hr : rs[k]? = some r) (hn : h[k]? = some n) : (rs.zip h)[k]? = some (r, n) := by
  rw [List.getElem?_zip_eq_some]
  exact ⟨hr, hn⟩
theorem rangedP_at {rs : List Rp} {h : List Int} (hp : rangedP rs h = true) {k : Nat} {r : Rp} {n : Int} (hr : rs[k]? = some r) (hn : h[k]? = some n) : (-67108864 ≤ n ∧ n ≤ 67108864) ∧ (n = 0 ∨ r.hl = true) := by
  unfold rangedP at hp
  rw [List.all_eq_true] at hp
  have := hp _ (List.mem_of_getElem? (zip_at hr hn))
  unfold ranP at this
  simpa using this
theorem rangedP_within {rs : List Rp} {h : List Int} (hl : h.length = rs.length) (hp : rangedP rs h = true) : withinP h 67108864 = true := withinP_of fun n hn => by
  obtain ⟨k, hk⟩ := List.mem_iff_getElem?.1 hn
  have hkl := (List.getElem?_eq_some_iff.1 hk).1
  exact (rangedP_at hp (List.getElem?_eq_getElem (by omega)) hk).1
set_option maxHeartbeats 2000000 in
theorem ranged_prog (s : Sy) (hf : Fits s) (h : List Int) (hl : h.length = s.rs.length) : PRet Try.prog 101 [syD s, ints h] (bool (rangedP s.rs h)) := by
  refine PRet.intro 1 fun t => ACall.enter tab_ok Try.func101 rfl rfl Try.ntmps101 (by simp) ?_
  simp only [enterTM]
  have hdr := rpC_div s.rs
  have hnr := hf.nr
  have hzl : (s.rs.zip h).length = h.length := by simp [List.length_zip]; omega
  ((refine gga0 ?_))
  ((repeat refine AW_seq ?_))
  refine AW_block ?_
  refine AW_loop_w (fun k : Nat => ⟨[(2, .ptr 0 (t + 1) 0), (7, ints h), (8, int h.length), (9, int k)], [some ⟨25, t + 1, [bks s.bs, rps s.rs]⟩], t + 1⟩) (fun k => h.length - k) (fun k => k ≤ h.length ∧ ((s.rs.zip h).take k).all ranP = true) 0 ⟨Nat.zero_le _, rfl⟩ (by (simp (disch := omega) only [StLe, tmLe, hpLe_refl, hpLe, bl, bb, bt, zDs, zD, eqCells, simprocAttr])) fun k ⟨hk, hi⟩ => ?_
  by_cases hlt : k < h.length
  · obtain ⟨r, hr⟩ : ∃ x, s.rs[k]? = some x := ⟨_, List.getElem?_eq_getElem (by omega)⟩
    obtain ⟨n, hn⟩ : ∃ x, h[k]? = some x := ⟨_, List.getElem?_eq_getElem hlt⟩
    have hz := zip_at hr hn
    have hst := all_take (p := ranP) hz
    rw [hi, Bool.true_and] at hst
    have hra : (rpC s.rs)[k * 3 + 2]? = some (bool r.hl) := rpC_cell s.rs k r hr 2 (by decide)
    have hkr : k < s.rs.length := by omega
    ((refine ggb0 (F := _∧_) ⟨@Int.ofNat_lt, hlt⟩ ?_))
    ((repeat refine AW_seq ?_))
    refine AW_block ?_
    by_cases c1 : n < -67108864
    · have hp : rangedP s.rs h = false := all_miss hz (by unfold ranP; simp; omega)
      ((refine ggb0 (F := _∧_∧_) ⟨hlt, hn, c1⟩ ?_))
      ((repeat refine AW_seq ?_); (refine wta ?_); simp (disch := omega) only [retQ, resD, oneD, rsv, rs, rsL, rsL_eq_map, List.map_map, bb, bt, zDs, zD, eqCells, simprocAttr, Try.results101, hp])
    by_cases c2 : 67108864 < n
    · have hp : rangedP s.rs h = false := all_miss hz (by unfold ranP; simp; omega)
      ((refine ggb0 (F := _∧_∧_∧_) ⟨hlt, hn, c1, c2⟩ ?_))
      ((repeat refine AW_seq ?_); (refine wta ?_); simp (disch := omega) only [retQ, resD, oneD, rsv, rs, rsL, rsL_eq_map, List.map_map, bb, bt, zDs, zD, eqCells, simprocAttr, Try.results101, hp])
    cases c3 : (n == 0)
    · have c3' : (n != 0) = true := by simpa using c3
      have c3n : ¬ n = 0 := by simpa using c3
      cases hh : r.hl
      · rw [hh] at hra
        have hp : rangedP s.rs h = false := all_miss hz (by unfold ranP; simp [hh, c3n])
        ((refine ggb0 (F := _∧_∧_∧_∧_∧_∧_∧_) ⟨hlt, hn, c1, c2, c3', hdr, hkr, hra⟩ ?_))
        ((repeat refine AW_seq ?_); (refine wta ?_); simp (disch := omega) only [retQ, resD, oneD, rsv, rs, rsL, rsL_eq_map, List.map_map, bb, bt, zDs, zD, eqCells, simprocAttr, Try.results101, hp])
      · rw [hh] at hra
        ((refine ggb0 (F := _∧_∧_∧_∧_∧_∧_∧_) ⟨hlt, hn, c1, c2, c3', hdr, hkr, hra⟩ ?_))
        refine ⟨k + 1, ⟨hlt, by rw [hst]; unfold ranP; simp [hh]; omega⟩, by omega, ?_⟩
        (simp (disch := omega) only [StLe, tmLe, hpLe_refl, hpLe, bl, bb, bt, zDs, zD, eqCells, simprocAttr])
    · have c3' : (n != 0) = false := by simpa using c3
      have c3n : n = 0 := by simpa using c3
      ((refine ggb0 (F := _∧_∧_∧_∧_) ⟨hlt, hn, c1, c2, c3'⟩ ?_))
      refine ⟨k + 1, ⟨hlt, by rw [hst]; unfold ranP; simp [c3n]⟩, by omega, ?_⟩
      (simp (disch := omega) only [StLe, tmLe, hpLe_refl, hpLe, bl, bb, bt, zDs, zD, eqCells, simprocAttr])
  · have hke : k = h.length := by omega
    subst hke
    have hp : rangedP s.rs h = true := by
      unfold rangedP
      rw [List.take_of_length_le (by omega)] at hi
      exact hi
    ((refine ggb0 @Int.lt_irrefl ?_))
    ((repeat refine AW_seq ?_); (refine wta ?_); simp (disch := omega) only [retQ, resD, oneD, rsv, rs, rsL, rsL_eq_map, List.map_map, bb, bt, zDs, zD, eqCells, simprocAttr, Try.results101, hp])
def givH (s : Sy) (h : List Int) : Int := if validS s = true then (if h.length = s.rs.length then (if rangedP s.rs h = true then 0 else 2) else 3) else 1
def speedsP (s : Sy) (h : List Int) : List (Int × Int) × Int := if givH s h = 0 then solveP (trS s) h else ([], givH s h)
theorem givH_zero {s : Sy} {h : List Int} (e : givH s h = 0) : validS s = true ∧ h.length = s.rs.length ∧ rangedP s.rs h = true := by
  unfold givH at e
  split at e
  · rename_i h1
    split at e
    · rename_i h2
      split at e
      · rename_i h3; exact ⟨h1, h2, h3⟩
      · simp at e
    · simp at e
  · simp at e
set_option maxHeartbeats 1000000 in
theorem speeds_prog (s : Sy) (hf : Fits s) (h : List Int) (hl : h.length ≤ 1000000) : PRet Try.prog 71 [syD s, ints h] (fse (speedsP s h)) := by
  refine PRet.intro 1 fun t => ACall.enter tab_ok Try.func71 rfl rfl Try.ntmps71 (by simp) ?_
  simp only [enterTM]
  have hR := rows_prog s hf
  have hdr := rpC_div s.rs
  have f0 : frC [] = [] := rfl
  cases hv : validS s
  · rw [hv] at hR
    simp only [Bool.false_eq_true, if_false] at hR
    have e : speedsP s h = ([], 1) := by simp [speedsP, givH, hv]
    ((refine gga1 hR ?_))
    ((repeat refine AW_seq ?_))
    refine AW_block ?_
    ((refine gga0 ?_))
    ((repeat refine AW_seq ?_); (refine wta ?_); simp (disch := omega) only [retQ, resD, oneD, rsv, rs, rsL, rsL_eq_map, List.map_map, bb, bt, zDs, zD, eqCells, simprocAttr, Try.results71, e, f0])
    rfl
  rw [hv] at hR
  simp only [if_true] at hR
  have ok := validS_ok hv
  by_cases hz : h.length = s.rs.length
  rotate_left 1
  · have en : ((h.length : Int) != (s.rs.length : Int)) = true := by simpa using fun e => hz (by omega)
    have e : speedsP s h = ([], 3) := by simp [speedsP, givH, hv, hz]
    ((refine gga1 hR ?_))
    ((repeat refine AW_seq ?_))
    refine AW_block ?_
    ((refine ggb0 (F := _∧_) ⟨hdr, en⟩ ?_))
    ((repeat refine AW_seq ?_); (refine wta ?_); simp (disch := omega) only [retQ, resD, oneD, rsv, rs, rsL, rsL_eq_map, List.map_map, bb, bt, zDs, zD, eqCells, simprocAttr, Try.results71, e, f0])
    rfl
  have en : ((h.length : Int) != (s.rs.length : Int)) = false := by simp [hz]
  have hA := ranged_prog s hf h hz
  cases hr : rangedP s.rs h
  · rw [hr] at hA
    have e : speedsP s h = ([], 2) := by simp [speedsP, givH, hv, hz, hr]
    ((refine gga1 hR ?_))
    ((repeat refine AW_seq ?_))
    refine AW_block ?_
    ((refine ggb1 (F := _∧_) ⟨hdr, en⟩ hA ?_))
    ((repeat refine AW_seq ?_); (refine wta ?_); simp (disch := omega) only [retQ, resD, oneD, rsv, rs, rsL, rsL_eq_map, List.map_map, bb, bt, zDs, zD, eqCells, simprocAttr, Try.results71, e, f0])
    rfl
  rw [hr] at hA
  have e : speedsP s h = solveP (trS s) h := by simp [speedsP, givH, hv, hz, hr]
  obtain ⟨f1, f2⟩ := ok.tr_fit
  have hS := solve (trS s) h f1 f2 hl
  rw [← e] at hS
  generalize speedsP s h = X at *
  ((refine gga1 hR ?_))
  ((repeat refine AW_seq ?_))
  refine AW_block ?_
  ((refine ggb2 (F := _∧_) ⟨hdr, en⟩ hA hS ?_))
  ((repeat refine AW_seq ?_); (refine wta ?_); simp (disch := omega) only [retQ, resD, oneD, bb, bt, zDs, zD, eqCells, simprocAttr, Try.results71])
  exact rsv_tidy _ _ (by simp only [tidyD, tidyL, tidy_fr, Bool.not_false, Bool.and_self])
/-! The reference. -/
end Go.Proofs.Ytpcakodemleoiaa.T
end

section
namespace Go.Proofs.Ytpcakodemleoiaa.T
open Go Go.RowKit Lin
set_option linter.unusedSimpArgs false

/-! Chapter 12: lengths. -/
end Go.Proofs.Ytpcakodemleoiaa.T
end

section
namespace Go.Proofs.Ytpcakodemleoiaa.T
open Go Go.RowKit Lin
set_option linter.unusedSimpArgs false

/-! Chapter 12: travel, free motions, checks. -/
theorem travel1 (b : Bk) (nm : ByteArray) : PRet Try.prog 98 [.agg (bk1 b), .rp [str nm] 0] (bool (decide (b.nm = nm))) := by
  refine PRet.intro 1 fun t => ACall.enter tab_ok Try.func98 rfl rfl Try.ntmps98 (by simp) ?_
  simp only [enterTM]
  ((refine gga0 ?_))
  ((repeat refine AW_seq ?_); (refine wta ?_); simp (disch := omega) only [retQ, resD, oneD, rsv, rs, rsL, rsL_eq_map, List.map_map, bb, bt, zDs, zD, eqCells, simprocAttr, Try.results98])
theorem travel2 (r : Rp) : PRet Try.prog 99 [.agg (rp1 r)] (bool r.hl) := by
  refine PRet.intro 1 fun t => ACall.enter tab_ok Try.func99 rfl rfl Try.ntmps99 (by simp) ?_
  simp only [enterTM]
  ((refine gga0 ?_))
  ((repeat refine AW_seq ?_); (refine wta ?_); simp (disch := omega) only [retQ, resD, oneD, rsv, rs, rsL, rsL_eq_map, List.map_map, bb, bt, zDs, zD, eqCells, simprocAttr, Try.results99])
def unitH (s : Sy) : List Int := (List.replicate s.rs.length 0).set (hix s).toNat 1
def travP (s : Sy) (nm : ByteArray) : (Int × Int) × Int :=
  if validS s = true then (if findB s.bs nm < 0 then ((0, 0), 9) else if hix s < 0 then ((0, 0), 11) else if (speedsP s (unitH s)).2 = 0 then divP (1, 1) ((speedsP s (unitH s)).1.getD (findB s.bs nm).toNat (0, 0)) else ((0, 0), (speedsP s (unitH s)).2)) else ((0, 0), 1)
theorem speedsP_full {s : Sy} {h : List Int} (h0 : (speedsP s h).2 = 0) : givH s h = 0 ∧ (speedsP s h).1.length = s.bs.length := by
  unfold speedsP at h0 ⊢
  by_cases hg : givH s h = 0
  · rw [if_pos hg] at h0 ⊢
    obtain ⟨hv, hz, hr⟩ := givH_zero hg
    have ok := validS_ok hv
    obtain ⟨tv, tw⟩ := ok.tr_valid
    obtain ⟨_, _, _, _, hl, _⟩ := solve_val tv (by rw [hz, ok.tr_len]) (rangedP_within hz hr) h0
    exact ⟨hg, by rw [hl, tw]⟩
  · rw [if_neg hg] at h0
    exact absurd h0 hg
theorem speedsP_le (s : Sy) (h : List Int) : (speedsP s h).1.length ≤ 1000 := by
  unfold speedsP
  split
  · rename_i hg
    exact solveP_le _ _ (validS_ok (givH_zero hg).1).tr_valid.1
  · simp
set_option maxHeartbeats 2000000 in
theorem travel_prog (s : Sy) (hf : Fits s) (nm : ByteArray) : PRet Try.prog 70 [syD s, str nm] (fe (travP s nm)) := by
  refine PRet.intro 1 fun t => ACall.enter tab_ok Try.func70 rfl rfl Try.ntmps70 (by simp) ?_
  simp only [enterTM]
  have hV := valid_prog s hf
  have hnb := hf.nb
  have hnr := hf.nr
  have hdr := rpC_div s.rs
  ((refine wqa ?_))
  ((refine AW.freeze (1) (by first | rfl | (simp only [setH, List.getElem?_cons_zero, List.getElem?_cons_succ, fz_bk, fz_rp]; done)) ?_); simp (disch := omega) only [fzT, fz, fzL, fzL_ints, fzL_mat, fzH, fzB, eq_self, bb, bt, zDs, zD, eqCells, simprocAttr, fz_bk, fz_rp])
  have hI := indexFuncBk s.bs 98 [.rp [str nm] 0] (fun b => decide (b.nm = nm)) hnb (fun x _ => travel1 x nm)
  have eI : idx (fun b : Bk => decide (b.nm = nm)) s.bs 0 = findB s.bs nm := rfl
  rw [eI] at hI
  have hH := indexFuncRp s.rs 99 [] (fun r => r.hl) hnr (fun x _ => travel2 x)
  have eH : idx (fun r : Rp => r.hl) s.rs 0 = hix s := rfl
  rw [eH] at hH
  cases hv : validS s
  · rw [hv] at hV
    have e : travP s nm = ((0, 0), 1) := by simp [travP, hv]
    ((refine gga1 hV ?_))
    ((repeat refine AW_seq ?_); (refine wta ?_); simp (disch := omega) only [retQ, resD, oneD, rsv, rs, rsL, rsL_eq_map, List.map_map, bb, bt, zDs, zD, eqCells, simprocAttr, Try.results70, e])
  rw [hv] at hV
  by_cases hb : findB s.bs nm < 0
  · have e : travP s nm = ((0, 0), 9) := by simp [travP, hv, hb]
    ((refine ggb2 hb hV hI ?_))
    ((repeat refine AW_seq ?_); (refine wta ?_); simp (disch := omega) only [retQ, resD, oneD, rsv, rs, rsL, rsL_eq_map, List.map_map, bb, bt, zDs, zD, eqCells, simprocAttr, Try.results70, e])
  obtain ⟨j, b, hj, hbj, _⟩ := findB_hit (show 0 ≤ findB s.bs nm by omega)
  by_cases hh : hix s < 0
  · have e : travP s nm = ((0, 0), 11) := by simp [travP, hv, hb, hh]
    ((refine ggb3 (F := _∧_) ⟨hb, hh⟩ hV hI hH ?_))
    ((repeat refine AW_seq ?_); (refine wta ?_); simp (disch := omega) only [retQ, resD, oneD, rsv, rs, rsL, rsL_eq_map, List.map_map, bb, bt, zDs, zD, eqCells, simprocAttr, Try.results70, e])
  obtain ⟨i, r, hi, hri, _⟩ := hix_hit hh
  have hir := (List.getElem?_eq_some_iff.1 hri).1
  have e : travP s nm = if (speedsP s (unitH s)).2 = 0 then divP (1, 1) ((speedsP s (unitH s)).1.getD j (0, 0)) else ((0, 0), (speedsP s (unitH s)).2) := by
    have : ¬ (j : Int) < 0 := by omega
    simp [travP, hv, hh, hj, this]
  have hu : ((List.replicate s.rs.length (0 : Int)).map int).set i (int 1) = (unitH s).map int := by
    unfold unitH
    rw [hi, Int.toNat_natCast, List.map_set]
  have hul : (unitH s).length = s.rs.length := by simp [unitH]
  have hS := speeds_prog s hf (unitH s) (by omega)
  have hfull := speedsP_full (s := s) (h := unitH s)
  have hle := speedsP_le s (unitH s)
  have hj0 : ¬ (j : Int) < 0 := by omega
  have hi0 : ¬ (i : Int) < 0 := by omega
  have hrl : (List.replicate s.rs.length (int 0)).length = s.rs.length := by simp
  rw [hj] at hI
  rw [hi] at hH
  have hbl := (List.getElem?_eq_some_iff.1 hbj).1
  generalize speedsP s (unitH s) = X at *
  have hrl2 : (List.replicate s.rs.length (0 : Int)).length = s.rs.length := by simp
  have hz0 := zerosI s.rs.length
  ((refine ggb2 (F := _∧_) ⟨hj0, hdr⟩ hV hI ?_))
  ((refine wka1 hH ?_))
  ((refine wra ?_)); ((refine wea ?_); (try clear hKR KR))
  ((refine wqb hi0 ?_))
  ((refine wib hi0 ?_))
  ((refine wsa ?_))
  ((refine wqb (F := _∧_) ⟨hdr, hz0⟩ ?_))
  ((refine wqb (F := _∧_∧_∧_) ⟨hz0, hu, hir, hrl2⟩ ?_))
  have hfin : List.take s.rs.length ((unitH s).map int) = (unitH s).map int := List.take_of_length_le (by simp [hul])
  ((refine AW.freeze (3) (by first | rfl | (simp only [setH, List.getElem?_cons_zero, List.getElem?_cons_succ, fz_bk, fz_rp, hfin, hul, List.length_map, Nat.le_refl]; done)) ?_); simp (disch := omega) only [fzT, fz, fzL, fzL_ints, fzL_mat, fzH, fzB, eq_self, bb, bt, zDs, zD, eqCells, simprocAttr, fz_bk, fz_rp, hfin, hul, List.length_map, Nat.le_refl])
  cases hx : (X.2 == 0)
  · have hx' : (X.2 != 0) = true := by simpa using hx
    rw [if_neg (by simpa using hx)] at e
    ((refine ggb1 hx' hS ?_))
    ((repeat refine AW_seq ?_); (refine wta ?_); simp (disch := omega) only [retQ, resD, oneD, rsv, rs, rsL, rsL_eq_map, List.map_map, bb, bt, zDs, zD, eqCells, simprocAttr, Try.results70, e])
  have hx' : (X.2 != 0) = false := by simpa using hx
  have hx0 : X.2 = 0 := by simpa using hx
  rw [if_pos hx0] at e
  obtain ⟨_, hXl⟩ := hfull hx0
  obtain ⟨f, hfj⟩ : ∃ y, X.1[j]? = some y := ⟨_, List.getElem?_eq_getElem (by omega)⟩
  rw [List.getD_eq_getElem?_getD, hfj, Option.getD_some] at e
  have hra := frC_read X.1 j f hfj
  have hfd := frC_div X.1
  have hjl : j < X.1.length := by omega
  have hD := rDiv (1, 1) f
  rw [← e] at hD
  generalize travP s nm = Y at *
  ((refine ggb2 (F := _∧_∧_∧_) ⟨hx', hfd, hjl, hra⟩ hS hD ?_))
  ((repeat refine AW_seq ?_); (refine wta ?_); simp (disch := omega) only [retQ, resD, oneD, rsv, rs, rsL, rsL_eq_map, List.map_map, bb, bt, zDs, zD, eqCells, simprocAttr, Try.results70])
end Go.Proofs.Ytpcakodemleoiaa.T
end

section
namespace Go.Proofs.Ytpcakodemleoiaa.T
open Go Go.RowKit Lin
set_option linter.unusedSimpArgs false

/-! Chapter 12: the example. -/
end Go.Proofs.Ytpcakodemleoiaa.T
end

section
namespace Go.Proofs.Ytpcakodemleoiaa.T
open Go Go.RowKit Lin
set_option linter.unusedSimpArgs false

/-! Chapter 12: what is right. -/
theorem speedsP_val {s : Sy} {h : List Int} (h0 : (speedsP s h).2 = 0) : ∃ X D, D ≠ 0 ∧ SolQ (trS s) h X D ∧ (speedsP s h).1.length = s.bs.length ∧ ∀ (k : Nat) (f : Int × Int), (speedsP s h).1[k]? = some f → Val f (X k) D := by
  obtain ⟨hg, _⟩ := speedsP_full h0
  obtain ⟨hv, hz, hr⟩ := givH_zero hg
  have ok := validS_ok hv
  obtain ⟨tv, tw⟩ := ok.tr_valid
  unfold speedsP at h0 ⊢
  rw [if_pos hg] at h0 ⊢
  have := solve_val tv (by rw [hz, ok.tr_len]) (rangedP_within hz hr) h0
  rwa [tw] at this
/-! Virtual work (plain). -/
end Go.Proofs.Ytpcakodemleoiaa.T
end

section
namespace Go.Proofs.Ytpcakodemleoiaa.T
open Go Go.RowKit Lin
set_option linter.unusedSimpArgs false

/-! Chapter 12: what Check says (plain). -/
section
variable {s : Sy} {h : List Int} {v : List (Int × Int)} (hg : givH s h = 0) (ha : allV v = true) (hl : v.length = s.bs.length)
include hg ha hl
end
end Go.Proofs.Ytpcakodemleoiaa.T
end


section
namespace Go.Proofs.Ytpcakodemleoiaa.T
open Go Go.RowKit Lin
theorem at_wts {s : Sy} {i : Nat} {b : Bk} (h : s.bs[i]? = some b) : Lin.at_ (wtsS s) i = b.w := by simp [Lin.at_, wtsS, h]
end Go.Proofs.Ytpcakodemleoiaa.T
end

namespace Go.Proofs.Ytpcakodemleoiaa.T
open Go Go.RowKit Lin
set_option linter.unusedSimpArgs false

/-! Fractions that fit: an operation whose value is a fraction's gives that fraction (plain). -/
theorem sg_abs (s : Bool) (n : Nat) : (sg s (n : Int)).natAbs = n := by unfold sg; cases s <;> simp
theorem made_is {x : Int × Int} (hx : vfrac x.1 x.2 = true) {a d : Nat} {s : Bool} (hd : 0 < d) (h : x.1 * (d : Int) = sg s a * x.2) : madeP a s d = (x, 0) := by
  obtain ⟨b1, b2, b3, b4, b5⟩ := fr_bounds hx
  have hn : x.1.natAbs * d = a * x.2.natAbs := by
    have := congrArg Int.natAbs h
    rwa [Int.natAbs_mul, Int.natAbs_mul, Int.natAbs_natCast, sg_abs] at this
  rw [made_low (p := x.1.natAbs) (q := x.2.natAbs) (by omega) hd b5 hn]
  unfold signP
  rw [if_neg (by omega)]
  have hd' : (0 : Int) < d := by omega
  have e2 : ((x.2.natAbs : Nat) : Int) = x.2 := Int.natAbs_of_nonneg (by omega)
  have hp := Int.mul_nonneg (Int.natCast_nonneg a) (show (0 : Int) ≤ x.2 by omega)
  have e1 : (if s = true then -((x.1.natAbs : Nat) : Int) else (x.1.natAbs : Int)) = x.1 := by
    cases s
    · have h0 : 0 ≤ x.1 := by
        rcases Int.lt_or_le x.1 0 with hl | hl
        · have := Int.mul_neg_of_neg_of_pos hl hd'
          simp only [sg, Bool.false_eq_true, if_false] at h
          omega
        · exact hl
      simp only [Bool.false_eq_true, if_false]
      omega
    · have h0 : x.1 ≤ 0 := by
        rcases Int.lt_or_le 0 x.1 with hl | hl
        · have := Int.mul_pos hl hd'
          simp only [sg, if_true, Int.neg_mul] at h
          omega
        · exact hl
      simp only [if_true]
      omega
  rw [e1, e2]
theorem madeP_nil {a d : Nat} {b : Bool} (h : (madeP a b d).2 ≠ 0) : (madeP a b d).1 = (0, 0) := by
  unfold madeP signP at h ⊢
  split
  · rfl
  · rename_i h1
    rw [if_neg h1] at h
    split
    · rfl
    · rename_i h2
      rw [if_neg h2] at h
      exact absurd rfl h
theorem den_mul {a b : Int × Int} (ha : vfrac a.1 a.2 = true) (hb : vfrac b.1 b.2 = true) : 0 < a.2.natAbs * b.2.natAbs ∧ ((a.2.natAbs * b.2.natAbs : Nat) : Int) = a.2 * b.2 := by
  have h1 := (fr_bounds ha).1
  have h2 := (fr_bounds hb).1
  exact ⟨Nat.mul_pos (by omega) (by omega), by rw [Int.natCast_mul, Int.natAbs_of_nonneg (by omega), Int.natAbs_of_nonneg (by omega)]⟩
theorem mulR_is {a b x : Int × Int} {p q r s : Int} (ha : Val a p q) (hb : Val b r s) (hx : Val x (p * r) (q * s)) : mulR a b = (x, 0) := by
  obtain ⟨hp, e1⟩ := den_mul ha.v hb.v
  refine made_is hx.v hp ?_
  have e2 : sg (decide (a.1 < 0) != decide (b.1 < 0)) ((a.1.natAbs * b.1.natAbs : Nat) : Int) = a.1 * b.1 := by
    rw [sg_mul a.1 b.1, Int.natCast_mul]
  rw [e1, e2]
  refine cancel (c := q * s) (Int.mul_ne_zero ha.n0 hb.n0) ?_
  have h1 := ha.e
  have h2 := hb.e
  have h3 := hx.e
  calc x.1 * (a.2 * b.2) * (q * s) = x.1 * (q * s) * (a.2 * b.2) := by ac_rfl
    _ = p * r * x.2 * (a.2 * b.2) := by rw [h3]
    _ = (p * a.2) * (r * b.2) * x.2 := by ac_rfl
    _ = (a.1 * q) * (b.1 * s) * x.2 := by rw [h1, h2]
    _ = a.1 * b.1 * x.2 * (q * s) := by ac_rfl
theorem addR_made {a b : Int × Int} (ha : vfrac a.1 a.2 = true) (hb : vfrac b.1 b.2 = true) : ∃ (s : Bool) (z : Nat), addR a b = madeP z s (a.2.natAbs * b.2.natAbs) ∧ sg s (z : Int) = a.1 * b.2 + b.1 * a.2 := by
  obtain ⟨a1, _⟩ := fr_bounds ha
  obtain ⟨b1, _⟩ := fr_bounds hb
  have x1 : ((a.1.natAbs * b.2.natAbs : Nat) : Int) = (a.1.natAbs : Int) * b.2 := by rw [Int.natCast_mul, Int.natAbs_of_nonneg (by omega : 0 ≤ b.2)]
  have y1 : ((b.1.natAbs * a.2.natAbs : Nat) : Int) = (b.1.natAbs : Int) * a.2 := by rw [Int.natCast_mul, Int.natAbs_of_nonneg (by omega : 0 ≤ a.2)]
  have sa := abs_sg a.1
  have sb := abs_sg b.1
  by_cases h1 : decide (a.1 < 0) = decide (b.1 < 0)
  · refine ⟨decide (a.1 < 0), a.1.natAbs * b.2.natAbs + b.1.natAbs * a.2.natAbs, by unfold addR; rw [if_pos h1], ?_⟩
    rw [Int.natCast_add, x1, y1]
    rw [← h1] at sb
    conv => rhs; rw [sa, sb]
    unfold sg
    cases decide (a.1 < 0)
    · simp
    · simp [Int.neg_mul, Int.neg_add]
  · by_cases h2 : a.1.natAbs * b.2.natAbs < b.1.natAbs * a.2.natAbs
    · refine ⟨decide (b.1 < 0), b.1.natAbs * a.2.natAbs - a.1.natAbs * b.2.natAbs, by unfold addR; rw [if_neg h1, if_pos h2], ?_⟩
      rw [Int.natCast_sub (by omega), x1, y1]
      conv => rhs; rw [sa, sb]
      rw [sg_mulr, sg_mulr]
      clear sa sb x1 y1
      generalize (a.1.natAbs : Int) * b.2 = P
      generalize (b.1.natAbs : Int) * a.2 = R
      exact sg_diff h1 P R
    · refine ⟨decide (a.1 < 0), a.1.natAbs * b.2.natAbs - b.1.natAbs * a.2.natAbs, by unfold addR; rw [if_neg h1, if_neg h2], ?_⟩
      rw [Int.natCast_sub (by omega), x1, y1]
      conv => rhs; rw [sa, sb]
      rw [sg_mulr, sg_mulr]
      clear sa sb x1 y1
      generalize (a.1.natAbs : Int) * b.2 = P
      generalize (b.1.natAbs : Int) * a.2 = R
      exact sg_diff2 h1 P R
theorem addR_is {a b x : Int × Int} {p q r s : Int} (ha : Val a p q) (hb : Val b r s) (hx : Val x (p * s + r * q) (q * s)) : addR a b = (x, 0) := by
  obtain ⟨hp, e1⟩ := den_mul ha.v hb.v
  obtain ⟨sn, z, e, hz⟩ := addR_made ha.v hb.v
  rw [e]
  refine made_is hx.v hp ?_
  rw [e1, hz]
  refine cancel (c := q * s) (Int.mul_ne_zero ha.n0 hb.n0) ?_
  have h1 := ha.e
  have h2 := hb.e
  have h3 := hx.e
  calc x.1 * (a.2 * b.2) * (q * s) = x.1 * (q * s) * (a.2 * b.2) := by ac_rfl
    _ = (p * s + r * q) * x.2 * (a.2 * b.2) := by rw [h3]
    _ = ((p * a.2) * (s * b.2) + (r * b.2) * (q * a.2)) * x.2 := by grind
    _ = ((a.1 * q) * (s * b.2) + (b.1 * s) * (q * a.2)) * x.2 := by rw [h1, h2]
    _ = (a.1 * b.2 + b.1 * a.2) * x.2 * (q * s) := by grind
theorem Val.num {b : Int × Int} {r s : Int} (k : Val b r s) : b.1 = 0 ↔ r = 0 := by
  have h := k.e
  constructor
  · intro e
    rw [e, Int.zero_mul] at h
    exact (Int.mul_eq_zero.1 h.symm).resolve_right k.d
  · intro e
    rw [e, Int.zero_mul] at h
    exact (Int.mul_eq_zero.1 h).resolve_right k.n0
theorem Val.recip {b : Int × Int} {r s : Int} (k : Val b r s) (h0 : r ≠ 0) : Val (recip b) s r := by
  refine ⟨recip_ok k.v fun e => h0 (k.num.1 e), h0, ?_⟩
  have he := k.e
  unfold T.recip
  split
  · simp only [Int.neg_mul, Int.mul_neg]
    rw [Int.mul_comm b.2, Int.mul_comm s, he]
  · simp only
    rw [Int.mul_comm b.2, Int.mul_comm s, he]
theorem divR_is {a b x : Int × Int} {p q r s : Int} (ha : Val a p q) (hb : Val b r s) (h0 : r ≠ 0) (hx : Val x (p * s) (q * r)) : divR a b = (x, 0) := by
  rw [div_recip hb.v]
  exact mulR_is ha (hb.recip h0) hx
theorem divR_nil {a b : Int × Int} (h : (divR a b).2 ≠ 0) : (divR a b).1 = (0, 0) := madeP_nil h
theorem divP_ok {a b : Int × Int} (ha : vfrac a.1 a.2 = true) (hb : vfrac b.1 b.2 = true) : divP a b = divR a b := by unfold divP; rw [if_pos ⟨ha, hb⟩]
theorem divP_nil {a b : Int × Int} (h : (divP a b).2 ≠ 0) : (divP a b).1 = (0, 0) := by
  unfold divP at h ⊢
  split
  · rename_i h1
    rw [if_pos h1] at h
    exact divR_nil h
  · rfl
theorem divP_val {a b : Int × Int} (h : (divP a b).2 = 0) : vfrac a.1 a.2 = true ∧ vfrac b.1 b.2 = true ∧ b.1 ≠ 0 ∧ divP a b = divR a b := by
  unfold divP at h
  split at h
  · rename_i h1
    refine ⟨h1.1, h1.2, fun e => ?_, divP_ok h1.1 h1.2⟩
    rw [div_zero e] at h
    simp at h
  · simp at h

/-! Chapter 13 (plain): advantages. -/
def unitB (nm : ByteArray) (b : Bk) : Bk := ⟨b.nm, if b.nm = nm then 1 else 0⟩
def unitS (s : Sy) (nm : ByteArray) : Sy := ⟨s.bs.map (unitB nm), s.rs⟩
def overN (n : Int) (s : Sy) : (Int × Int) × Int := if (haulP s).2 = 0 then divP (n, 1) (haulP s).1 else ((0, 0), (haulP s).2)
def forP (s : Sy) (nm : ByteArray) : (Int × Int) × Int := if validS s = true then (if findB s.bs nm < 0 then ((0, 0), 9) else overN 1 (unitS s nm)) else ((0, 0), 1)
theorem unit_names (s : Sy) (nm : ByteArray) : bNames (unitS s nm).bs = bNames s.bs := by simp [bNames, unitS, unitB]
theorem unit_len (s : Sy) (nm : ByteArray) : (unitS s nm).bs.length = s.bs.length := by simp [unitS]
theorem unit_valid {s : Sy} (hv : validS s = true) (nm : ByteArray) : validS (unitS s nm) = true := by
  refine validS_iff.2 ((validS_iff.1 hv).weights rfl (unit_names s nm) fun b hb => ?_)
  obtain ⟨c, _, rfl⟩ := List.mem_map.1 hb
  simp only [unitB]
  split <;> omega
theorem overN_nil {n : Int} {s : Sy} (h : (overN n s).2 ≠ 0) : (overN n s).1 = (0, 0) := by
  unfold overN at h ⊢
  split
  · rename_i h1
    rw [if_pos h1] at h
    exact divP_nil h
  · rfl
theorem forP_nil {s : Sy} {nm : ByteArray} (h : (forP s nm).2 ≠ 0) : (forP s nm).1 = (0, 0) := by
  unfold forP at h ⊢
  split
  · rename_i h1
    rw [if_pos h1] at h
    split
    · rfl
    · rename_i h2
      rw [if_neg h2] at h
      exact overN_nil h
  · rfl
/-- The tension of the hauled rope. -/
theorem haulP_val {s : Sy} (h : (haulP s).2 = 0) : validS s = true ∧ (tensP s).2 = 0 ∧ ∃ (i : Nat) (r : Rp), hix s = (i : Int) ∧ s.rs[i]? = some r ∧ r.hl = true ∧ (tensP s).1[i]? = some (haulP s).1 ∧ ∃ Z D, D ≠ 0 ∧ SolQ (matS s) (wtsS s) Z D ∧ Val (haulP s).1 (Z i) D := by
  unfold haulP at h ⊢
  by_cases h1 : (tensP s).2 = 0
  · rw [if_pos h1] at h ⊢
    by_cases h2 : hix s < 0
    · rw [if_pos h2] at h
      simp at h
    · rw [if_neg h2]
      obtain ⟨hv, hl⟩ := tensP_len h1
      obtain ⟨i, r, e, hr, hh⟩ := hix_hit h2
      obtain ⟨_, Z, D, hD, hS, hV⟩ := tens_own h1
      have hi := (List.getElem?_eq_some_iff.1 hr).1
      obtain ⟨f, hf⟩ : ∃ y, (tensP s).1[i]? = some y := ⟨_, List.getElem?_eq_getElem (by omega)⟩
      have eg : (tensP s).1.getD (hix s).toNat (0, 0) = f := by rw [e, Int.toNat_natCast, List.getD_eq_getElem?_getD, hf]; rfl
      refine ⟨hv, h1, i, r, e, hr, hh, ?_, Z, D, hD, hS, ?_⟩
      · rw [eg]; exact hf
      · rw [eg]; exact hV i f hf
  · rw [if_neg h1] at h
    exact absurd h h1
theorem findB_ok {s : Sy} {nm : ByteArray} (h : ¬ findB s.bs nm < 0) : ∃ (j : Nat) (b : Bk), findB s.bs nm = j ∧ s.bs[j]? = some b ∧ b.nm = nm := findB_hit (by omega)
theorem at_unit {s : Sy} (ok : OkS s) {nm : ByteArray} {j : Nat} {b : Bk} (hb : s.bs[j]? = some b) (hn : b.nm = nm) {k : Nat} (hk : k < s.bs.length) : Lin.at_ (wtsS (unitS s nm)) k = if j = k then 1 else 0 := by
  have hc : s.bs[k]? = some s.bs[k] := List.getElem?_eq_getElem hk
  have : (unitS s nm).bs[k]? = some (unitB nm s.bs[k]) := by simp [unitS, hc]
  rw [at_wts this]
  by_cases e : j = k
  · subst e
    rw [hb, Option.some.injEq] at hc
    rw [if_pos rfl]
    simp only [unitB]
    rw [← hc, if_pos hn]
  · rw [if_neg e]
    simp only [unitB]
    rw [if_neg]
    intro h
    exact e (ok.inj j k b s.bs[k] hb hc (by rw [hn, h]))
end Go.Proofs.Ytpcakodemleoiaa.T


section
namespace Go.Proofs.Ytpcakodemleoiaa.T
open Go Go.RowKit Lin
/-- Hauls multiplied. -/
theorem SolQ.mul {m : List (List Int)} {right : List Int} {Z : Nat → Int} {D n : Int} (h : SolQ m right Z D) : SolQ m (right.map (· * n)) (fun k => Z k * n) D := fun i r b hi hb => by
  rw [List.getElem?_map] at hb
  cases hq : right[i]? with
  | none => rw [hq] at hb; simp at hb
  | some q =>
    rw [hq] at hb
    simp only [Option.map_some, Option.some.injEq] at hb
    subst hb
    have := h i r q hi hq
    have e : sumN (fun k => Lin.at_ r k * (Z k * n)) (wid m) = n * sumN (fun k => Lin.at_ r k * Z k) (wid m) := by
      rw [← sumN_mul]
      exact sumN_congr _ fun k _ => by ac_rfl
    show sumN (fun k => Lin.at_ r k * (Z k * n)) (wid m) = D * (q * n)
    rw [e, this]
    ac_rfl
end Go.Proofs.Ytpcakodemleoiaa.T
end

namespace Go.Proofs.Ytpcakodemleoiaa.T
open Go Go.RowKit Lin
set_option linter.unusedSimpArgs false

/-! AdvantageOwn (plain): neither weights nor losses change an advantage. -/
def cleanH (h : Hd) : Hd := ⟨h.b, h.p, 1, 1⟩
def cleanR (r : Rp) : Rp := ⟨r.nm, r.hs.map cleanH, r.hl⟩
def ownB (nm : ByteArray) (w : Int) (b : Bk) : Bk := ⟨b.nm, if b.nm = nm then w else 0⟩
def cleanS (s : Sy) : Sy := ⟨s.bs, s.rs.map cleanR⟩
def ownS (s : Sy) (nm : ByteArray) (w : Int) : Sy := ⟨s.bs.map (ownB nm w), s.rs.map cleanR⟩
theorem idx_map {α β : Type} (f : α → β) (p : β → Bool) (q : α → Bool) (h : ∀ x, p (f x) = q x) : ∀ (l : List α) (n : Nat), idx p (l.map f) n = idx q l n
  | [], _ => rfl
  | x :: l, n => by simp only [List.map_cons, idx, h, idx_map f p q h l]
theorem findB_map {f : Bk → Bk} (h : ∀ b, (f b).nm = b.nm) (bs : List Bk) (nm : ByteArray) : findB (bs.map f) nm = findB bs nm := idx_map f _ _ (fun x => by simp only [h]) bs 0
theorem pull_clean (nm : ByteArray) : ∀ hs : List Hd, pull nm (hs.map cleanH) = pull nm hs
  | [] => rfl
  | h :: hs => by simp only [List.map_cons, pull, pull_clean nm hs]; rfl
theorem okHold_clean {bs : List Bk} {h : Hd} {e : Bool} (hk : okHold bs h e = true) : okHold bs (cleanH h) e = true := by
  unfold okHold at hk ⊢
  rw [Bool.and_eq_true] at hk ⊢
  refine ⟨?_, hk.2⟩
  cases e
  · exact (by decide : lossy 1 1 = true)
  · rfl
theorem okHolds_clean {bs : List Bk} {hs : List Hd} (hk : okHolds bs hs = true) : okHolds bs (hs.map cleanH) = true := by
  refine okHolds_iff.2 fun i h hi => ?_
  rw [List.getElem?_map] at hi
  cases hq : hs[i]? with
  | none => rw [hq] at hi; simp at hi
  | some q =>
    rw [hq] at hi
    simp only [Option.map_some, Option.some.injEq] at hi
    subst hi
    rw [List.length_map]
    exact okHold_clean (okHolds_iff.1 hk i q hq)
theorem okRope_clean {bs : List Bk} {r : Rp} (hk : okRope bs r = true) : okRope bs (cleanR r) = true := by
  unfold okRope at hk ⊢
  rw [Bool.and_eq_true, Bool.and_eq_true] at hk ⊢
  refine ⟨⟨by simpa [cleanR] using hk.1.1, okHolds_clean hk.1.2⟩, ?_⟩
  have h3 := hk.2
  simp only [cleanR, List.getLast?_map] at h3 ⊢
  cases hl : r.hs.getLast? with
  | none => rw [hl] at h3; simpa using h3
  | some h => rw [hl] at h3; simpa [cleanH] using h3
theorem clean_hauls (rs : List Rp) : hauls (rs.map cleanR) = hauls rs := by
  unfold hauls
  rw [List.filter_map, List.length_map]
  rfl
theorem clean_names (rs : List Rp) : rNames (rs.map cleanR) = rNames rs := by simp [rNames, cleanR]
theorem VS.clean {s : Sy} (h : VS s) : VS (cleanS s) := by
  refine ⟨h.b, by simpa [cleanS] using h.r, ?_, h.bk, fun r hr => ?_, ?_⟩
  · show (bNames s.bs ++ rNames (s.rs.map cleanR)).Nodup
    rw [clean_names]
    exact h.nd
  · obtain ⟨q, hq, rfl⟩ := List.mem_map.1 hr
    exact ⟨(h.rp q hq).1, okRope_clean (h.rp q hq).2⟩
  · show hauls (s.rs.map cleanR) ≤ 1
    rw [clean_hauls]
    exact h.h
theorem matS_clean (s : Sy) : matS (cleanS s) = matS s := by
  unfold matS cleanS
  simp only [List.map_map]
  refine List.map_congr_left fun b _ => List.map_congr_left fun r _ => ?_
  exact pull_clean b.nm r.hs
theorem hix_clean (s : Sy) : hix (cleanS s) = hix s := idx_map cleanR _ _ (fun _ => rfl) s.rs 0
theorem tens_clean {s : Sy} (hv : validS s = true) : tensP (cleanS s) = tensP s := by
  have h2 : validS (cleanS s) = true := validS_iff.2 (validS_iff.1 hv).clean
  unfold tensP
  rw [if_pos hv, if_pos h2, matS_clean]
  rfl
theorem haul_clean {s : Sy} (hv : validS s = true) : haulP (cleanS s) = haulP s := by
  unfold haulP
  rw [tens_clean hv, hix_clean]
theorem own_valid {s : Sy} (hv : validS s = true) (nm : ByteArray) {w : Int} (hw : 0 ≤ w ∧ w ≤ 65535) : validS (ownS s nm w) = true := by
  refine validS_iff.2 ((validS_iff.1 hv).clean.weights (t := ownS s nm w) rfl ?_ fun b hb => ?_)
  · simp [bNames, ownS, ownB, cleanS]
  · obtain ⟨c, _, rfl⟩ := List.mem_map.1 hb
    simp only [ownB]
    split <;> omega
theorem own_unit (s : Sy) (nm : ByteArray) (w : Int) : unitS (ownS s nm w) nm = cleanS (unitS s nm) := by
  unfold unitS ownS cleanS
  simp only [List.map_map, Sy.mk.injEq, and_true]
  exact List.map_congr_left fun b _ => rfl
theorem own_for {s : Sy} (hv : validS s = true) (nm : ByteArray) {w : Int} (hw : 0 ≤ w ∧ w ≤ 65535) : forP (ownS s nm w) nm = forP s nm := by
  unfold forP
  rw [if_pos hv, if_pos (own_valid hv nm hw)]
  have e : findB (ownS s nm w).bs nm = findB s.bs nm := findB_map (f := ownB nm w) (fun _ => rfl) s.bs nm
  rw [e]
  unfold overN
  rw [own_unit, haul_clean (unit_valid hv nm)]
def sumW (s : Sy) : Int := (wtsS s).sum
def ratP (s : Sy) : (Int × Int) × Int := overN (sumW s) s
theorem sum_one {w : Int} : ∀ (l : List Int) (j : Nat), j < l.length → (∀ k, k < l.length → l[k]? = some (if j = k then w else 0)) → l.sum = w
  | [], j, h, _ => by simp at h
  | x :: l, 0, _, h => by
    have h0 := h 0 (by simp)
    simp at h0
    have hz : ∀ m : List Int, (∀ k, k < m.length → m[k]? = some 0) → m.sum = 0 := fun m => by
      induction m with
      | nil => intro _; rfl
      | cons y m ih =>
        intro hm
        have a := hm 0 (by simp)
        simp at a
        rw [List.sum_cons, a, ih fun k hk => by have := hm (k + 1) (by simpa using hk); simpa using this]
        rfl
    rw [List.sum_cons, h0, hz l fun k hk => by have := h (k + 1) (by simpa using hk); simpa using this]
    omega
  | x :: l, j + 1, hj, h => by
    have h0 := h 0 (by simp)
    simp at h0
    rw [List.sum_cons, h0, sum_one l j (by simpa using hj) fun k hk => by have := h (k + 1) (by simpa using hk); simpa using this]
    omega
theorem own_wts {s : Sy} (nm : ByteArray) (w : Int) : wtsS (ownS s nm w) = (wtsS (unitS s nm)).map (· * w) := by
  unfold wtsS ownS unitS
  simp only [List.map_map]
  refine List.map_congr_left fun b _ => ?_
  simp only [Function.comp, ownB, unitB]
  split <;> simp
theorem own_ratio {s : Sy} (hv : validS s = true) {nm : ByteArray} {w : Int} (hw : 0 ≤ w ∧ w ≤ 65535) (h0 : w ≠ 0) (h : (forP s nm).2 = 0) : ratP (ownS s nm w) = forP s nm := by
  unfold forP at h ⊢
  rw [if_pos hv] at h ⊢
  by_cases hb : findB s.bs nm < 0
  · rw [if_pos hb] at h; simp at h
  rw [if_neg hb] at h ⊢
  unfold ratP overN at *
  by_cases hh : (haulP (unitS s nm)).2 = 0
  rotate_left 1
  · rw [if_neg hh] at h; exact absurd h hh
  rw [if_pos hh] at h ⊢
  have ok := validS_ok hv
  obtain ⟨j, b, ej, hj, hn⟩ := findB_ok hb
  obtain ⟨hvu, htu, i, r, ei, hr, _, _, Z, D, hD, hZ, hVt⟩ := haulP_val hh
  have oku := validS_ok hvu
  have hvt := own_valid hv nm hw
  have okt := validS_ok hvt
  have em : matS (ownS s nm w) = matS (unitS s nm) := by
    have e1 : matS (ownS s nm w) = matS (cleanS s) := matS_names rfl (by simp [bNames, ownS, ownB, cleanS])
    rw [e1, matS_clean, matS_names (s := s) (t := unitS s nm) rfl (unit_names s nm)]
  have ew := own_wts (s := s) nm w
  have hx : hix (ownS s nm w) = (i : Int) := by
    have : hix (ownS s nm w) = hix s := hix_clean s
    rw [this]
    exact ei
  have hjl := (List.getElem?_eq_some_iff.1 hj).1
  have hbl := unit_len s nm
  have esum : sumW (ownS s nm w) = w := by
    unfold sumW
    rw [ew]
    have hl : ((wtsS (unitS s nm)).map (· * w)).length = s.bs.length := by rw [List.length_map, oku.wts_len, hbl]
    refine sum_one _ j (by rw [hl]; exact hjl) fun k hk => ?_
    rw [hl] at hk
    have ha := at_unit ok hj hn hk
    rw [List.getElem?_map]
    have hg : (wtsS (unitS s nm))[k]? = some (Lin.at_ (wtsS (unitS s nm)) k) := by
      unfold Lin.at_
      rw [List.getElem?_eq_getElem (show k < (wtsS (unitS s nm)).length by rw [oku.wts_len, hbl]; exact hk)]
      rfl
    rw [hg, ha, Option.map_some]
    split <;> simp
  have hfull : ¬ rankP (matS (unitS s nm)) (wid (matS (unitS s nm))) < wid (matS (unitS s nm)) := by
    unfold tensP at htu
    rw [if_pos hvu] at htu
    exact ((solve_ok oku.mat_valid oku.len oku.wts_in).1 htu).2
  have htt : (tensP (ownS s nm w)).2 = 0 := by
    unfold tensP
    rw [if_pos hvt]
    refine (solve_ok okt.mat_valid okt.len okt.wts_in).2 ⟨⟨fun k => Z k * w, D, hD, ?_⟩, by rw [em]; exact hfull⟩
    rw [em, ew]
    exact hZ.mul
  have hht : (haulP (ownS s nm w)).2 = 0 := by
    unfold haulP
    rw [if_pos htt, if_neg (by omega)]
  rw [if_pos hht]
  obtain ⟨_, _, i2, r2, ei2, _, _, _, Z2, D2, hD2, hZ2, hVt2⟩ := haulP_val hht
  have : i2 = i := by omega
  subst this
  have hil : i2 < s.rs.length := (List.getElem?_eq_some_iff.1 hr).1
  have hu : Z2 i2 * D = Z i2 * w * D2 := by
    rw [em, ew] at hZ2
    exact sol_uniq oku.mat_valid (by rw [List.length_map]; exact oku.len) (by rw [← ew]; exact okt.wts_in) hfull hD2 hD hZ2 hZ.mul i2 (by rw [oku.mat_wid]; exact hil)
  obtain ⟨v1, v2, n1, d1⟩ := divP_val h
  have a1 : Val (divP (1, 1) (haulP (unitS s nm)).1).1 (1 * D) (1 * Z i2) := by
    rw [d1] at h ⊢
    exact (Val.one (n := 1) (by decide)).div hVt n1 h
  have hzi : Z i2 ≠ 0 := fun e => n1 (hVt.num.2 e)
  have hz2 : Z2 i2 ≠ 0 := fun e => by
    rw [e, Int.zero_mul] at hu
    rcases Int.mul_eq_zero.1 hu.symm with e | e
    · rcases Int.mul_eq_zero.1 e with e | e
      · exact hzi e
      · exact h0 e
    · exact hD2 e
  have hw1 : Val (w, 1) w 1 := Val.one (by omega)
  rw [esum, divP_ok hw1.v hVt2.v, divR_is hw1 hVt2 hz2 (x := (divP (1, 1) (haulP (unitS s nm)).1).1) (a1.to (by rw [Int.one_mul]; exact hz2) (by rw [Int.one_mul, Int.one_mul, Int.one_mul, Int.mul_comm D, hu]; ac_rfl))]
  exact Prod.ext rfl h.symm

/-! AdvantageEqual (plain): works. -/
def workP (s : Sy) (h : List Int) : (Int × Int) × (Int × Int) × Int :=
  if (speedsP s h).2 = 0 then (if (haulP s).2 = 0 then (if (mulP (haulP s).1 (h.getD (hix s).toNat 0, 1)).2 = 0 then (if (dotF (wtsS s) (speedsP s h).1 (0, 1)).2 = 0 then ((mulP (haulP s).1 (h.getD (hix s).toNat 0, 1)).1, (dotF (wtsS s) (speedsP s h).1 (0, 1)).1, 0) else ((0, 0), (0, 0), (dotF (wtsS s) (speedsP s h).1 (0, 1)).2)) else ((0, 0), (0, 0), (mulP (haulP s).1 (h.getD (hix s).toNat 0, 1)).2)) else ((0, 0), (0, 0), (haulP s).2)) else ((0, 0), (0, 0), (speedsP s h).2)
end Go.Proofs.Ytpcakodemleoiaa.T

