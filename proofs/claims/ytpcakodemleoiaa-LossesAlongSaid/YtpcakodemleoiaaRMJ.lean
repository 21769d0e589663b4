import Derived.Test.YtpcakodemleoiaaRMJA
import Derived.Test.YtpcakodemleoiaaRVJ
import Derived.Test.YtpcakodemleoiaaWX
import Derived.Test.YtpcakodemleoiaaLSJ
import Derived.Test.YtpcakodemleoiaaRSKM
import Derived.Test.YtpcakodemleoiaaWOP
set_option linter.all false
section
namespace Go.Proofs.Ytpcakodemleoiaa.T
open Go Go.RowKit Lin
set_option linter.unusedSimpArgs false

/-! Quotients of fractions. -/
def recip (b : Int × Int) : Int × Int := if b.1 < 0 then (-b.2, -b.1) else (b.2, b.1)
def divR (a b : Int × Int) : (Int × Int) × Int := madeP (a.1.natAbs * b.2.natAbs) (decide (a.1 < 0) != decide (b.1 < 0)) (a.2.natAbs * b.1.natAbs)
def divP (a b : Int × Int) : (Int × Int) × Int := if vfrac a.1 a.2 = true ∧ vfrac b.1 b.2 = true then divR a b else ((0, 0), 1)
theorem recip_ok {b : Int × Int} (hb : vfrac b.1 b.2 = true) (h0 : b.1 ≠ 0) : vfrac (recip b).1 (recip b).2 = true := by
  obtain ⟨b1, b2, b3, b4, b5⟩ := fr_bounds hb
  have hc : Nat.gcd b.2.natAbs b.1.natAbs = 1 := by rw [Nat.gcd_comm]; exact b5
  unfold recip
  split
  · unfold vfrac
    simp only [Int.natAbs_neg, hc, Bool.and_eq_true, decide_eq_true_eq]
    refine ⟨⟨⟨⟨?_, ?_⟩, ?_⟩, ?_⟩, ?_⟩ <;> first | omega | trivial
  · unfold vfrac
    simp only [hc, Bool.and_eq_true, decide_eq_true_eq]
    refine ⟨⟨⟨⟨?_, ?_⟩, ?_⟩, ?_⟩, ?_⟩ <;> first | omega | trivial
theorem div_recip {a b : Int × Int} (hb : vfrac b.1 b.2 = true) : divR a b = mulR a (recip b) := by
  obtain ⟨b1, _⟩ := fr_bounds hb
  unfold divR mulR recip
  split
  · rename_i h
    simp only [Int.natAbs_neg]
    rw [decide_eq_true h, decide_eq_true (show -b.2 < 0 by omega)]
  · rename_i h
    simp only
    rw [decide_eq_false h, decide_eq_false (show ¬ b.2 < 0 by omega)]
theorem div_zero {a b : Int × Int} (h0 : b.1 = 0) : divR a b = ((0, 0), 16) := by
  unfold divR madeP
  rw [h0]
  simp
theorem Val.div {a b : Int × Int} {p q r s : Int} (h : Val a p q) (k : Val b r s) (h0 : b.1 ≠ 0) (ok : (divR a b).2 = 0) : Val (divR a b).1 (p * s) (q * r) := by
  have hr : r ≠ 0 := fun e => by
    have := k.e
    rw [e, Int.zero_mul] at this
    rcases Int.mul_eq_zero.1 this with h | h
    · exact h0 h
    · exact k.n0 h
  rw [div_recip k.v] at ok ⊢
  refine h.mul (r := s) (s := r) ⟨recip_ok k.v h0, hr, ?_⟩ ok
  have he := k.e
  unfold recip
  split
  · simp only [Int.neg_mul, Int.mul_neg]
    rw [Int.mul_comm b.2, Int.mul_comm s, he]
  · simp only
    rw [Int.mul_comm b.2, Int.mul_comm s, he]
theorem divR_err {a b : Int × Int} (ha : vfrac a.1 a.2 = true) (hb : vfrac b.1 b.2 = true) : (b.1 = 0 ∧ divR a b = ((0, 0), 16)) ∨ (b.1 ≠ 0 ∧ ((divR a b).2 = 0 ∨ (divR a b).2 = 5)) := by
  by_cases h0 : b.1 = 0
  · exact .inl ⟨h0, div_zero h0⟩
  · refine .inr ⟨h0, ?_⟩
    rw [div_recip hb]
    exact mulR_err ha (recip_ok hb h0)
theorem rDiv (a b : Int × Int) : PRet Try.prog 56 [frD a, frD b] (fe (divP a b)) := by
  refine PRet.intro 1 fun t => ACall.enter tab_ok Try.func56 rfl rfl Try.ntmps56 (by simp) ?_
  simp only [enterTM]
  have h1 := rValid a.1 a.2
  have h2 := rValid b.1 b.2
  cases ha : vfrac a.1 a.2
  · rw [ha] at h1
    have e : divP a b = ((0, 0), 1) := by unfold divP; rw [if_neg (by simp [ha])]
    ((refine gga1 h1 ?_))
    ((repeat refine AW_seq ?_))
    refine AW_block ?_
    ((refine gga1 h1 ?_))
    ((repeat refine AW_seq ?_); (refine wta ?_); simp (disch := omega) only [retQ, resD, oneD, rsv, rs, rsL, rsL_eq_map, List.map_map, bb, bt, zDs, zD, eqCells, simprocAttr, Try.results56, e])
  rw [ha] at h1
  cases hb : vfrac b.1 b.2
  · rw [hb] at h2
    have e : divP a b = ((0, 0), 1) := by unfold divP; rw [if_neg (by simp [hb])]
    ((refine gga2 h1 h2 ?_))
    ((repeat refine AW_seq ?_))
    refine AW_block ?_
    ((refine gga2 h1 h2 ?_))
    ((repeat refine AW_seq ?_); (refine wta ?_); simp (disch := omega) only [retQ, resD, oneD, rsv, rs, rsL, rsL_eq_map, List.map_map, bb, bt, zDs, zD, eqCells, simprocAttr, Try.results56, e])
  rw [hb] at h2
  have e : divP a b = divR a b := by unfold divP; rw [if_pos ⟨ha, hb⟩]
  have hB := fr_bounds hb
  by_cases h0 : b.1 = 0
  · have e0 : (b.1 == 0) = true := by simp [h0]
    rw [div_zero h0] at e
    ((refine gga2 h1 h2 ?_))
    ((repeat refine AW_seq ?_))
    refine AW_block ?_
    ((refine ggb2 e0 h1 h2 ?_))
    ((repeat refine AW_seq ?_); (refine wta ?_); simp (disch := omega) only [retQ, resD, oneD, rsv, rs, rsL, rsL_eq_map, List.map_map, bb, bt, zDs, zD, eqCells, simprocAttr, Try.results56, e])
  have e0 : (b.1 == 0) = false := by simpa using h0
  rw [div_recip hb, ← mulP_ok ha (recip_ok hb h0)] at e
  have hM := rMul a (recip b)
  rw [← e] at hM
  unfold recip at hM
  by_cases hn : b.1 < 0
  · rw [if_pos hn] at hM
    ((refine gga2 h1 h2 ?_))
    ((repeat refine AW_seq ?_))
    refine AW_block ?_
    ((refine ggb3 (F := _∧_) ⟨e0, hn⟩ h1 h2 hM ?_))
    ((repeat refine AW_seq ?_); (refine wta ?_); simp (disch := omega) only [retQ, resD, oneD, rsv, rs, rsL, rsL_eq_map, List.map_map, bb, bt, zDs, zD, eqCells, simprocAttr, Try.results56])
  · rw [if_neg hn] at hM
    ((refine gga2 h1 h2 ?_))
    ((repeat refine AW_seq ?_))
    refine AW_block ?_
    ((refine ggb3 (F := _∧_) ⟨e0, hn⟩ h1 h2 hM ?_))
    ((repeat refine AW_seq ?_); (refine wta ?_); simp (disch := omega) only [retQ, resD, oneD, rsv, rs, rsL, rsL_eq_map, List.map_map, bb, bt, zDs, zD, eqCells, simprocAttr, Try.results56])
end Go.Proofs.Ytpcakodemleoiaa.T
end

section
namespace Go.Proofs.Ytpcakodemleoiaa.T
open Go Go.RowKit Lin
set_option linter.unusedSimpArgs false

/-! Chapter 12: rows, by the program. -/
set_option maxHeartbeats 4000000 in
theorem rows_prog (s : Sy) (hf : Fits s) : PRet Try.prog 100 [syD s] (.tup (if validS s = true then [mat (trS s), int 0] else [ints [], int 1])) := by
  refine PRet.intro 1 fun t => ACall.enter tab_ok Try.func100 rfl rfl Try.ntmps100 (by simp) ?_
  simp only [enterTM]
  have hM := matrix_prog s hf
  have hdr := rpC_div s.rs
  cases hv : validS s
  · rw [hv] at hM
    simp only [Bool.false_eq_true, if_false] at hM
    ((refine gga1 hM ?_))
    ((repeat refine AW_seq ?_); (refine wta ?_); simp (disch := omega) only [retQ, resD, oneD, rsv, rs, rsL, rsL_eq_map, List.map_map, bb, bt, zDs, zD, eqCells, simprocAttr, Try.results100, Bool.false_eq_true, if_false])
    rfl
  rw [hv] at hM
  simp only [if_true] at hM ⊢
  have ok := validS_ok hv
  have hrow := ok.rows
  have hr6 := ok.r6
  have ml := ok.mat_len
  have mw := ok.mat_wid
  unfold trS
  generalize hn : s.rs.length = n at *
  have hb6 := ok.b6
  generalize matS s = m at *
  ((refine ggb1 hdr hM ?_))
  rw [nilsI]
  ((repeat refine AW_seq ?_))
  refine AW_mid (fun x : Nat => ⟨[(6, .own 1 1 (t + 1 + 1) 0 n)], [none, some ⟨66, t + 1 + 1, (turnP m n).map ints⟩], x⟩) (fun _ => True) ?_ ?_
  · refine AW_block ?_
    refine AW_loop_w (fun x : Nat × Nat => ⟨[(4, mat m), (6, .own 1 1 (t + 1 + 1) 0 n), (23, int n), (24, int x.1)], [none, some ⟨66, t + 1 + 1, (turnP m x.1).map ints ++ List.replicate (n - x.1) nilI⟩], x.2⟩) (fun x => n - x.1) (fun x => x.1 ≤ n) (0, t + 1 + 1) (Nat.zero_le _) (by (simp (disch := omega) only [StLe, tmLe, hpLe_refl, hpLe, bl, bb, bt, zDs, zD, eqCells, simprocAttr, turnP, List.range_zero, Nat.sub_zero])) ?_
    rintro ⟨k, tt⟩ hk
    simp only at hk
    have htl : ((turnP m k).map ints).length = k := by rw [List.length_map, turnP_len]
    by_cases hlt : k < n
    · rw [col_nil hlt]
      ((refine ggb0 (F := _∧_) ⟨@Int.ofNat_lt, hlt⟩ ?_))
      ((repeat refine AW_seq ?_))
      refine AW_block ?_
      ((refine gga0 ?_))
      have hg1 := col_get (n := n) htl nilI
      have hs1 := fun c d => col_push (n := n) htl hlt c d
      refine AW.begin_cell 1 k 1 3 rfl hg1 (by decide) ?_
      simp only [List.set_cons_succ, List.set_cons_zero, List.length_cons, List.length_nil, List.cons_append, List.nil_append, Nat.zero_add, Nat.reduceAdd, hs1]
      have htl2 : (turnP m k).length = k := turnP_len m k
      have hrl : (List.replicate (n - (k + 1)) nilI).length = n - (k + 1) := by simp
      have hkn : k < k + (n - (k + 1) + 1) := by omega
      refine AW_block ?_
      refine AW_loop_w (fun x : Nat × Nat × Nat => ⟨[(4, mat m), (6, .own 1 1 (t + 1 + 1) 0 n), (7, int k), (23, int n), (24, int k), (27, mat m), (28, int m.length), (29, int x.1)], [none, some ⟨66, t + 1 + 1, (turnP m k).map ints ++ .own 1 2 x.2.1 0 x.1 :: List.replicate (n - (k + 1)) nilI⟩, some ⟨3, x.2.1, (colP (m.take x.1) k).map int⟩], x.2.2⟩) (fun x => m.length - x.1) (fun x => x.1 ≤ m.length) (0, tt + 1, tt + 1) (Nat.zero_le _) (by (simp (disch := omega) only [StLe, tmLe, hpLe_refl, hpLe, bl, bb, bt, zDs, zD, eqCells, simprocAttr, colP])) ?_
      rintro ⟨j, g, t2⟩ hj
      simp only at hj
      by_cases hlj : j < m.length
      · obtain ⟨r, hr⟩ : ∃ y, m[j]? = some y := ⟨_, List.getElem?_eq_getElem hlj⟩
        have hrl2 := (hrow r (List.mem_of_getElem? hr)).1
        have hkr : k < r.length := by omega
        obtain ⟨v, hv⟩ : ∃ y, r[k]? = some y := ⟨_, List.getElem?_eq_getElem hkr⟩
        have hct := colP_take hr hv
        have hcl : (colP (m.take j) k).length = j := by simp [colP]; omega
        have hg2 := fun c => col_get (n := n) htl c
        ((refine ggb0 (F := _∧_) ⟨@Int.ofNat_lt, hlj⟩ ?_))
        ((repeat refine AW_seq ?_))
        refine AW_block ?_
        ((refine ggb0 (F := _∧_) ⟨hlj, hr⟩ ?_))
        ((repeat refine AW_seq ?_); (refine gdzb (F := _∧_∧_∧_∧_∧_∧_∧_) ⟨hg2, hs1, hkr, hv, hcl, hkn, htl2, hrl⟩ ?_))
        ((refine gga0 ?_))
        refine ⟨(j + 1, t2 + 1, t2 + 1), hlj, by show m.length - (j + 1) < m.length - j; omega, ?_⟩
        simp only [hct, List.map_append, List.map_cons, List.map_nil]
        (simp (disch := omega) only [StLe, tmLe, hpLe_refl, hpLe, bl, bb, bt, zDs, zD, eqCells, simprocAttr])
      · have hje : j = m.length := by omega
        subst hje
        rw [List.take_length]
        have hcl : (colP m k).length = m.length := by simp [colP]
        have hfin : List.take m.length ((colP m k).map int) = (colP m k).map int := List.take_of_length_le (by simp [hcl])
        ((refine wqb @Int.lt_irrefl ?_))
        ((refine wia ?_))
        ((refine wxa ?_))
        ((refine AW.freeze (2) (by first | rfl | (simp only [setH, List.getElem?_cons_zero, List.getElem?_cons_succ, fzL_app, fz_nils, hcl, hfin, List.length_map, Nat.le_refl]; done)) ?_); simp (disch := omega) only [fzT, fz, fzL, fzL_ints, fzL_mat, fzH, fzB, eq_self, bb, bt, zDs, zD, eqCells, simprocAttr, fzL_app, fz_nils, hcl, hfin, List.length_map, Nat.le_refl])
        ((refine gga0 ?_))
        refine ⟨(k + 1, t2), hlt, by show n - (k + 1) < n - k; omega, ?_⟩
        simp only [turnP_succ, List.map_append, List.map_cons, List.map_nil, List.append_assoc, List.cons_append, List.nil_append]
        (simp (disch := omega) only [StLe, tmLe, hpLe_refl, hpLe, bl, bb, bt, zDs, zD, eqCells, simprocAttr])
    · have hke : k = n := by omega
      subst hke
      ((refine ggb0 @Int.lt_irrefl ?_))
      exact ⟨tt, trivial, by (simp (disch := omega) only [StLe, tmLe, hpLe_refl, hpLe, bl, bb, bt, zDs, zD, eqCells, simprocAttr, Nat.sub_self, List.replicate_zero, List.append_nil])⟩
  rintro tt -
  have hfin : List.take n ((turnP m n).map ints) = (turnP m n).map ints := List.take_of_length_le (by simp [turnP_len])
  have htl := turnP_len m n
  ((refine AW.freeze (1) (by first | rfl | (simp only [setH, List.getElem?_cons_zero, List.getElem?_cons_succ, hfin, htl, List.length_map, Nat.le_refl]; done)) ?_); simp (disch := omega) only [fzT, fz, fzL, fzL_ints, fzL_mat, fzH, fzB, eq_self, bb, bt, zDs, zD, eqCells, simprocAttr, hfin, htl, List.length_map, Nat.le_refl])
  ((refine gga0 ?_))
  ((repeat refine AW_seq ?_); (refine wta ?_); simp (disch := omega) only [retQ, resD, oneD, bb, bt, zDs, zD, eqCells, simprocAttr, Try.results100])
  refine rsv_tidy _ _ ?_
  have := tidy_mat (turnP m n)
  simp only [tidyD, tidyL, Bool.not_false, Bool.and_true, Bool.true_and] at this ⊢
  exact this
end Go.Proofs.Ytpcakodemleoiaa.T
end

section
namespace Go.Proofs.Ytpcakodemleoiaa.T
open Go Go.RowKit Lin
set_option linter.unusedSimpArgs false

/-! Chapter 12: hauls, and speeds. -/
theorem all_take {α : Type} {p : α → Bool} {l : List α} {k : Nat} {x : α} (h : l[k]? = some x) : (l.take (k + 1)).all p = ((l.take k).all p && p x) := by
  rw [List.take_add_one, h]
  simp
theorem all_miss {α : Type} {p : α → Bool} {l : List α} {k : Nat} {x : α} (h : l[k]? = some x) (hp : p x = false) : l.all p = false := by
  rw [← Bool.not_eq_true, List.all_eq_true]
  intro hh
  rw [hh x (List.mem_of_getElem? h)] at hp
  cases hp
def ranP (x : Rp × Int) : Bool := decide (-67108864 ≤ x.2 ∧ x.2 ≤ 67108864) && (x.2 == 0 || x.1.hl)
def rangedP (rs : List Rp) (h : List Int) : Bool := (rs.zip h).all ranP
theorem zip_at {rs : List Rp} {h : List Int} {k : Nat} {r : Rp} {n : Int} (hr : rs[k]? = some r) (hn : h[k]? = some n) : (rs.zip h)[k]? = some (r, n) := by
  rw [List.getElem?_zip_eq_some]
  exact ⟨hr, hn⟩
theorem rangedP_at {rs : List Rp} {h : List Int} (hp : rangedP rs h = true) {k : Nat} {r : Rp} {n : Int} (hr : rs[k]? = some r) (hn : h[k]? = some n) : (-67108864 ≤ n ∧ n ≤ 67108864) ∧ (n = 0 ∨ r.hl = true) := by
  unfold rangedP at hp
  rw [List.all_eq_true] at hp
  have := hp _ (List.mem_of_getElem? (zip_at hr hn))
  unfold ranP at this
  simpa using this
theorem rangedP_within {rs : List Rp} {h : List Int} (hl : h.length = rs.length) (hp : rangedP rs h = true) : withinP h 67108864 = true := withinP_of fun n hn => by
  obtain ⟨k, hk⟩ := List.mem_iff_getElem?.1 hn
  have hkl := (List.getElem?_eq_some_iff.1 hk).1
  exact (rangedP_at hp (List.getElem?_eq_getElem (by omega)) hk).1
set_option maxHeartbeats 2000000 in
theorem ranged_prog (s : Sy) (hf : Fits s) (h : List Int) (hl : h.length = s.rs.length) : PRet Try.prog 101 [syD s, ints h] (bool (rangedP s.rs h)) := by
  refine PRet.intro 1 fun t => ACall.enter tab_ok Try.func101 rfl rfl Try.ntmps101 (by simp) ?_
  simp only [enterTM]
  have hdr := rpC_div s.rs
  have hnr := hf.nr
  have hzl : (s.rs.zip h).length = h.length := by simp [List.length_zip]; omega
  ((refine gga0 ?_))
  ((repeat refine AW_seq ?_))
  refine AW_block ?_
  refine AW_loop_w (fun k : Nat => ⟨[(2, .ptr 0 (t + 1) 0), (7, ints h), (8, int h.length), (9, int k)], [some ⟨25, t + 1, [bks s.bs, rps s.rs]⟩], t + 1⟩) (fun k => h.length - k) (fun k => k ≤ h.length ∧ ((s.rs.zip h).take k).all ranP = true) 0 ⟨Nat.zero_le _, rfl⟩ (by (simp (disch := omega) only [StLe, tmLe, hpLe_refl, hpLe, bl, bb, bt, zDs, zD, eqCells, simprocAttr])) fun k ⟨hk, hi⟩ => ?_
  by_cases hlt : k < h.length
  · obtain ⟨r, hr⟩ : ∃ x, s.rs[k]? = some x := ⟨_, List.getElem?_eq_getElem (by omega)⟩
    obtain ⟨n, hn⟩ : ∃ x, h[k]? = some x := ⟨_, List.getElem?_eq_getElem hlt⟩
    have hz := zip_at hr hn
    have hst := all_take (p := ranP) hz
    rw [hi, Bool.true_and] at hst
    have hra : (rpC s.rs)[k * 3 + 2]? = some (bool r.hl) := rpC_cell s.rs k r hr 2 (by decide)
    have hkr : k < s.rs.length := by omega
    ((refine ggb0 (F := _∧_) ⟨@Int.ofNat_lt, hlt⟩ ?_))
    ((repeat refine AW_seq ?_))
    refine AW_block ?_
    by_cases c1 : n < -67108864
    · have hp : rangedP s.rs h = false := all_miss hz (by unfold ranP; simp; omega)
      ((refine ggb0 (F := _∧_∧_) ⟨hlt, hn, c1⟩ ?_))
      ((repeat refine AW_seq ?_); (refine wta ?_); simp (disch := omega) only [retQ, resD, oneD, rsv, rs, rsL, rsL_eq_map, List.map_map, bb, bt, zDs, zD, eqCells, simprocAttr, Try.results101, hp])
    by_cases c2 : 67108864 < n
    · have hp : rangedP s.rs h = false := all_miss hz (by unfold ranP; simp; omega)
      ((refine ggb0 (F := _∧_∧_∧_) ⟨hlt, hn, c1, c2⟩ ?_))
      ((repeat refine AW_seq ?_); (refine wta ?_); simp (disch := omega) only [retQ, resD, oneD, rsv, rs, rsL, rsL_eq_map, List.map_map, bb, bt, zDs, zD, eqCells, simprocAttr, Try.results101, hp])
    cases c3 : (n == 0)
    · have c3' : (n != 0) = true := by simpa using c3
      have c3n : ¬ n = 0 := by simpa using c3
      cases hh : r.hl
      · rw [hh] at hra
        have hp : rangedP s.rs h = false := all_miss hz (by unfold ranP; simp [hh, c3n])
        ((refine ggb0 (F := _∧_∧_∧_∧_∧_∧_∧_) ⟨hlt, hn, c1, c2, c3', hdr, hkr, hra⟩ ?_))
        ((repeat refine AW_seq ?_); (refine wta ?_); simp (disch := omega) only [retQ, resD, oneD, rsv, rs, rsL, rsL_eq_map, List.map_map, bb, bt, zDs, zD, eqCells, simprocAttr, Try.results101, hp])
      · rw [hh] at hra
        ((refine ggb0 (F := _∧_∧_∧_∧_∧_∧_∧_) ⟨hlt, hn, c1, c2, c3', hdr, hkr, hra⟩ ?_))
        refine ⟨k + 1, ⟨hlt, by rw [hst]; unfold ranP; simp [hh]; omega⟩, by omega, ?_⟩
        (simp (disch := omega) only [StLe, tmLe, hpLe_refl, hpLe, bl, bb, bt, zDs, zD, eqCells, simprocAttr])
    · have c3' : (n != 0) = false := by simpa using c3
      have c3n : n = 0 := by simpa using c3
      ((refine ggb0 (F := _∧_∧_∧_∧_) ⟨hlt, hn, c1, c2, c3'⟩ ?_))
      refine ⟨k + 1, ⟨hlt, by rw [hst]; unfold ranP; simp [c3n]⟩, by omega, ?_⟩
      (simp (disch := omega) only [StLe, tmLe, hpLe_refl, hpLe, bl, bb, bt, zDs, zD, eqCells, simprocAttr])
  · have hke : k = h.length := by omega
    subst hke
    have hp : rangedP s.rs h = true := by
      unfold rangedP
      rw [List.take_of_length_le (by omega)] at hi
      exact hi
    ((refine ggb0 @Int.lt_irrefl ?_))
    ((repeat refine AW_seq ?_); (refine wta ?_); simp (disch := omega) only [retQ, resD, oneD, rsv, rs, rsL, rsL_eq_map, List.map_map, bb, bt, zDs, zD, eqCells, simprocAttr, Try.results101, hp])
def givH (s : Sy) (h : List Int) : Int := if validS s = true then (if h.length = s.rs.length then (if rangedP s.rs h = true then 0 else 2) else 3) else 1
def speedsP (s : Sy) (h : List Int) : List (Int × Int) × Int := if givH s h = 0 then solveP (trS s) h else ([], givH s h)
theorem givH_zero {s : Sy} {h : List Int} (e : givH s h = 0) : validS s = true ∧ h.length = s.rs.length ∧ rangedP s.rs h = true := by
  unfold givH at e
  split at e
  · rename_i h1
    split at e
    · rename_i h2
      split at e
      · rename_i h3; exact ⟨h1, h2, h3⟩
      · simp at e
    · simp at e
  · simp at e
set_option maxHeartbeats 1000000 in
theorem speeds_prog (s : Sy) (hf : Fits s) (h : List Int) (hl : h.length ≤ 1000000) : PRet Try.prog 71 [syD s, ints h] (fse (speedsP s h)) := by
  refine PRet.intro 1 fun t => ACall.enter tab_ok Try.func71 rfl rfl Try.ntmps71 (by simp) ?_
  simp only [enterTM]
  have hR := rows_prog s hf
  have hdr := rpC_div s.rs
  have f0 : frC [] = [] := rfl
  cases hv : validS s
  · rw [hv] at hR
    simp only [Bool.false_eq_true, if_false] at hR
    have e : speedsP s h = ([], 1) := by simp [speedsP, givH, hv]
    ((refine gga1 hR ?_))
    ((repeat refine AW_seq ?_))
    refine AW_block ?_
    ((refine gga0 ?_))
    ((repeat refine AW_seq ?_); (refine wta ?_); simp (disch := omega) only [retQ, resD, oneD, rsv, rs, rsL, rsL_eq_map, List.map_map, bb, bt, zDs, zD, eqCells, simprocAttr, Try.results71, e, f0])
    rfl
  rw [hv] at hR
  simp only [if_true] at hR
  have ok := validS_ok hv
  by_cases hz : h.length = s.rs.length
  rotate_left 1
  · have en : ((h.length : Int) != (s.rs.length : Int)) = true := by simpa using fun e => hz (by omega)
    have e : speedsP s h = ([], 3) := by simp [speedsP, givH, hv, hz]
    ((refine gga1 hR ?_))
    ((repeat refine AW_seq ?_))
    refine AW_block ?_
    ((refine ggb0 (F := _∧_) ⟨hdr, en⟩ ?_))
    ((repeat refine AW_seq ?_); (refine wta ?_); simp (disch := omega) only [retQ, resD, oneD, rsv, rs, rsL, rsL_eq_map, List.map_map, bb, bt, zDs, zD, eqCells, simprocAttr, Try.results71, e, f0])
    rfl
  have en : ((h.length : Int) != (s.rs.length : Int)) = false := by simp [hz]
  have hA := ranged_prog s hf h hz
  cases hr : rangedP s.rs h
  · rw [hr] at hA
    have e : speedsP s h = ([], 2) := by simp [speedsP, givH, hv, hz, hr]
    ((refine gga1 hR ?_))
    ((repeat refine AW_seq ?_))
    refine AW_block ?_
    ((refine ggb1 (F := _∧_) ⟨hdr, en⟩ hA ?_))
    ((repeat refine AW_seq ?_); (refine wta ?_); simp (disch := omega) only [retQ, resD, oneD, rsv, rs, rsL, rsL_eq_map, List.map_map, bb, bt, zDs, zD, eqCells, simprocAttr, Try.results71, e, f0])
    rfl
  rw [hr] at hA
  have e : speedsP s h = solveP (trS s) h := by simp [speedsP, givH, hv, hz, hr]
  obtain ⟨f1, f2⟩ := ok.tr_fit
  have hS := solve (trS s) h f1 f2 hl
  rw [← e] at hS
  generalize speedsP s h = X at *
  ((refine gga1 hR ?_))
  ((repeat refine AW_seq ?_))
  refine AW_block ?_
  ((refine ggb2 (F := _∧_) ⟨hdr, en⟩ hA hS ?_))
  ((repeat refine AW_seq ?_); (refine wta ?_); simp (disch := omega) only [retQ, resD, oneD, bb, bt, zDs, zD, eqCells, simprocAttr, Try.results71])
  exact rsv_tidy _ _ (by simp only [tidyD, tidyL, tidy_fr, Bool.not_false, Bool.and_self])
/-! The reference. -/
end Go.Proofs.Ytpcakodemleoiaa.T
end

section
namespace Go.Proofs.Ytpcakodemleoiaa.T
open Go Go.RowKit Lin
set_option linter.unusedSimpArgs false

/-! Chapter 12: lengths. -/
def farP (n : Int) : Bool := decide (n < -1048576) || decide (1048576 < n)
def dotN (r mv : List Int) (k : Nat) : Int := sumN (fun i => Lin.at_ r i * Lin.at_ mv i) k
theorem dotN_step {r mv : List Int} {j : Nat} {n x : Int} (hr : r[j]? = some n) (hx : mv[j]? = some x) : dotN r mv (j + 1) = dotN r mv j + n * x := by
  unfold dotN
  simp only [sumN]
  have e1 : Lin.at_ r j = n := by simp [Lin.at_, hr]
  have e2 : Lin.at_ mv j = x := by simp [Lin.at_, hx]
  rw [e1, e2, Int.add_comm]
theorem dotN_le {r mv : List Int} (hr : ∀ x ∈ r, -32 ≤ x ∧ x ≤ 32) (hm : ∀ x ∈ mv, -1048576 ≤ x ∧ x ≤ 1048576) : ∀ k : Nat, -(33554432 * (k : Int)) ≤ dotN r mv k ∧ dotN r mv k ≤ 33554432 * (k : Int)
  | 0 => by simp [dotN, sumN]
  | k + 1 => by
    have ih := dotN_le hr hm k
    have h1 := at_bound (by decide) hr k
    have h2 := at_bound (by decide) hm k
    have h3 := Lin.abs_mul_le h1 h2
    unfold dotN at ih ⊢
    simp only [sumN]
    omega
def lenF (mv : List Int) (r : List Int) : Int := dotN r mv r.length
def lenP (s : Sy) (mv : List Int) : List Int × Int := if validS s = true then (if mv.length = s.bs.length then (if mv.any farP = true then ([], 2) else ((trS s).map (lenF mv), 0)) else ([], 3)) else ([], 1)
abbrev ise (x : List Int × Int) : D := .tup [ints x.1, int x.2]
end Go.Proofs.Ytpcakodemleoiaa.T
end

section
namespace Go.Proofs.Ytpcakodemleoiaa.T
open Go Go.RowKit Lin
set_option linter.unusedSimpArgs false

/-! Chapter 12: travel, free motions, checks. -/
theorem travel1 (b : Bk) (nm : ByteArray) : PRet Try.prog 98 [.agg (bk1 b), .rp [str nm] 0] (bool (decide (b.nm = nm))) := by
  refine PRet.intro 1 fun t => ACall.enter tab_ok Try.func98 rfl rfl Try.ntmps98 (by simp) ?_
  simp only [enterTM]
  ((refine gga0 ?_))
  ((repeat refine AW_seq ?_); (refine wta ?_); simp (disch := omega) only [retQ, resD, oneD, rsv, rs, rsL, rsL_eq_map, List.map_map, bb, bt, zDs, zD, eqCells, simprocAttr, Try.results98])
theorem travel2 (r : Rp) : PRet Try.prog 99 [.agg (rp1 r)] (bool r.hl) := by
  refine PRet.intro 1 fun t => ACall.enter tab_ok Try.func99 rfl rfl Try.ntmps99 (by simp) ?_
  simp only [enterTM]
  ((refine gga0 ?_))
  ((repeat refine AW_seq ?_); (refine wta ?_); simp (disch := omega) only [retQ, resD, oneD, rsv, rs, rsL, rsL_eq_map, List.map_map, bb, bt, zDs, zD, eqCells, simprocAttr, Try.results99])
def unitH (s : Sy) : List Int := (List.replicate s.rs.length 0).set (hix s).toNat 1
def travP (s : Sy) (nm : ByteArray) : (Int × Int) × Int :=
  if validS s = true then (if findB s.bs nm < 0 then ((0, 0), 9) else if hix s < 0 then ((0, 0), 11) else if (speedsP s (unitH s)).2 = 0 then divP (1, 1) ((speedsP s (unitH s)).1.getD (findB s.bs nm).toNat (0, 0)) else ((0, 0), (speedsP s (unitH s)).2)) else ((0, 0), 1)
theorem speedsP_full {s : Sy} {h : List Int} (h0 : (speedsP s h).2 = 0) : givH s h = 0 ∧ (speedsP s h).1.length = s.bs.length := by
  unfold speedsP at h0 ⊢
  by_cases hg : givH s h = 0
  · rw [if_pos hg] at h0 ⊢
    obtain ⟨hv, hz, hr⟩ := givH_zero hg
    have ok := validS_ok hv
    obtain ⟨tv, tw⟩ := ok.tr_valid
    obtain ⟨_, _, _, _, hl, _⟩ := solve_val tv (by rw [hz, ok.tr_len]) (rangedP_within hz hr) h0
    exact ⟨hg, by rw [hl, tw]⟩
  · rw [if_neg hg] at h0
    exact absurd h0 hg
theorem speedsP_le (s : Sy) (h : List Int) : (speedsP s h).1.length ≤ 1000 := by
  unfold speedsP
  split
  · rename_i hg
    exact solveP_le _ _ (validS_ok (givH_zero hg).1).tr_valid.1
  · simp
set_option maxHeartbeats 2000000 in
theorem travel_prog (s : Sy) (hf : Fits s) (nm : ByteArray) : PRet Try.prog 70 [syD s, str nm] (fe (travP s nm)) := by
  refine PRet.intro 1 fun t => ACall.enter tab_ok Try.func70 rfl rfl Try.ntmps70 (by simp) ?_
  simp only [enterTM]
  have hV := valid_prog s hf
  have hnb := hf.nb
  have hnr := hf.nr
  have hdr := rpC_div s.rs
  ((refine wqa ?_))
  ((refine AW.freeze (1) (by first | rfl | (simp only [setH, List.getElem?_cons_zero, List.getElem?_cons_succ, fz_bk, fz_rp]; done)) ?_); simp (disch := omega) only [fzT, fz, fzL, fzL_ints, fzL_mat, fzH, fzB, eq_self, bb, bt, zDs, zD, eqCells, simprocAttr, fz_bk, fz_rp])
  have hI := indexFuncBk s.bs 98 [.rp [str nm] 0] (fun b => decide (b.nm = nm)) hnb (fun x _ => travel1 x nm)
  have eI : idx (fun b : Bk => decide (b.nm = nm)) s.bs 0 = findB s.bs nm := rfl
  rw [eI] at hI
  have hH := indexFuncRp s.rs 99 [] (fun r => r.hl) hnr (fun x _ => travel2 x)
  have eH : idx (fun r : Rp => r.hl) s.rs 0 = hix s := rfl
  rw [eH] at hH
  cases hv : validS s
  · rw [hv] at hV
    have e : travP s nm = ((0, 0), 1) := by simp [travP, hv]
    ((refine gga1 hV ?_))
    ((repeat refine AW_seq ?_); (refine wta ?_); simp (disch := omega) only [retQ, resD, oneD, rsv, rs, rsL, rsL_eq_map, List.map_map, bb, bt, zDs, zD, eqCells, simprocAttr, Try.results70, e])
  rw [hv] at hV
  by_cases hb : findB s.bs nm < 0
  · have e : travP s nm = ((0, 0), 9) := by simp [travP, hv, hb]
    ((refine ggb2 hb hV hI ?_))
    ((repeat refine AW_seq ?_); (refine wta ?_); simp (disch := omega) only [retQ, resD, oneD, rsv, rs, rsL, rsL_eq_map, List.map_map, bb, bt, zDs, zD, eqCells, simprocAttr, Try.results70, e])
  obtain ⟨j, b, hj, hbj, _⟩ := findB_hit (show 0 ≤ findB s.bs nm by omega)
  by_cases hh : hix s < 0
  · have e : travP s nm = ((0, 0), 11) := by simp [travP, hv, hb, hh]
    ((refine ggb3 (F := _∧_) ⟨hb, hh⟩ hV hI hH ?_))
    ((repeat refine AW_seq ?_); (refine wta ?_); simp (disch := omega) only [retQ, resD, oneD, rsv, rs, rsL, rsL_eq_map, List.map_map, bb, bt, zDs, zD, eqCells, simprocAttr, Try.results70, e])
  obtain ⟨i, r, hi, hri, _⟩ := hix_hit hh
  have hir := (List.getElem?_eq_some_iff.1 hri).1
  have e : travP s nm = if (speedsP s (unitH s)).2 = 0 then divP (1, 1) ((speedsP s (unitH s)).1.getD j (0, 0)) else ((0, 0), (speedsP s (unitH s)).2) := by
    have : ¬ (j : Int) < 0 := by omega
    simp [travP, hv, hh, hj, this]
  have hu : ((List.replicate s.rs.length (0 : Int)).map int).set i (int 1) = (unitH s).map int := by
    unfold unitH
    rw [hi, Int.toNat_natCast, List.map_set]
  have hul : (unitH s).length = s.rs.length := by simp [unitH]
  have hS := speeds_prog s hf (unitH s) (by omega)
  have hfull := speedsP_full (s := s) (h := unitH s)
  have hle := speedsP_le s (unitH s)
  have hj0 : ¬ (j : Int) < 0 := by omega
  have hi0 : ¬ (i : Int) < 0 := by omega
  have hrl : (List.replicate s.rs.length (int 0)).length = s.rs.length := by simp
  rw [hj] at hI
  rw [hi] at hH
  have hbl := (List.getElem?_eq_some_iff.1 hbj).1
  generalize speedsP s (unitH s) = X at *
  have hrl2 : (List.replicate s.rs.length (0 : Int)).length = s.rs.length := by simp
  have hz0 := zerosI s.rs.length
  ((refine ggb2 (F := _∧_) ⟨hj0, hdr⟩ hV hI ?_))
  ((refine wka1 hH ?_))
  ((refine wra ?_)); ((refine wea ?_); (try clear hKR KR))
  ((refine wqb hi0 ?_))
  ((refine wib hi0 ?_))
  ((refine wsa ?_))
  ((refine wqb (F := _∧_) ⟨hdr, hz0⟩ ?_))
  ((refine wqb (F := _∧_∧_∧_) ⟨hz0, hu, hir, hrl2⟩ ?_))
  have hfin : List.take s.rs.length ((unitH s).map int) = (unitH s).map int := List.take_of_length_le (by simp [hul])
  ((refine AW.freeze (3) (by first | rfl | (simp only [setH, List.getElem?_cons_zero, List.getElem?_cons_succ, fz_bk, fz_rp, hfin, hul, List.length_map, Nat.le_refl]; done)) ?_); simp (disch := omega) only [fzT, fz, fzL, fzL_ints, fzL_mat, fzH, fzB, eq_self, bb, bt, zDs, zD, eqCells, simprocAttr, fz_bk, fz_rp, hfin, hul, List.length_map, Nat.le_refl])
  cases hx : (X.2 == 0)
  · have hx' : (X.2 != 0) = true := by simpa using hx
    rw [if_neg (by simpa using hx)] at e
    ((refine ggb1 hx' hS ?_))
    ((repeat refine AW_seq ?_); (refine wta ?_); simp (disch := omega) only [retQ, resD, oneD, rsv, rs, rsL, rsL_eq_map, List.map_map, bb, bt, zDs, zD, eqCells, simprocAttr, Try.results70, e])
  have hx' : (X.2 != 0) = false := by simpa using hx
  have hx0 : X.2 = 0 := by simpa using hx
  rw [if_pos hx0] at e
  obtain ⟨_, hXl⟩ := hfull hx0
  obtain ⟨f, hfj⟩ : ∃ y, X.1[j]? = some y := ⟨_, List.getElem?_eq_getElem (by omega)⟩
  rw [List.getD_eq_getElem?_getD, hfj, Option.getD_some] at e
  have hra := frC_read X.1 j f hfj
  have hfd := frC_div X.1
  have hjl : j < X.1.length := by omega
  have hD := rDiv (1, 1) f
  rw [← e] at hD
  generalize travP s nm = Y at *
  ((refine ggb2 (F := _∧_∧_∧_) ⟨hx', hfd, hjl, hra⟩ hS hD ?_))
  ((repeat refine AW_seq ?_); (refine wta ?_); simp (disch := omega) only [retQ, resD, oneD, rsv, rs, rsL, rsL_eq_map, List.map_map, bb, bt, zDs, zD, eqCells, simprocAttr, Try.results70])
def freeP (s : Sy) : List (List (Int × Int)) × Int := if validS s = true then nullP (trS s) else ([], 1)
def goP (x : (Int × Int) × Int) : Bool := (x.1.1 == x.2) && (x.1.2 == 1)
def chkM (s : Sy) (h : List Int) (v : List (Int × Int)) : Bool × Int :=
  if validS s = true ∧ allV v = true then (if h.length = s.rs.length ∧ v.length = s.bs.length then (if rangedP s.rs h = true then (if (prodP (trS s) v).2 = 0 then (((prodP (trS s) v).1.zip h).all goP, 0) else (false, (prodP (trS s) v).2)) else (false, 2)) else (false, 3)) else (false, 1)
theorem prodA_full (x : List (Int × Int)) : ∀ (m : List (List Int)) (acc : List (Int × Int)), (prodA x acc m).2 = 0 → (prodA x acc m).1.length = acc.length + m.length
  | [], acc, _ => by simp [prodA]
  | r :: m, acc, h => by
    simp only [prodA] at h ⊢
    split at h
    · rename_i h1
      rw [if_pos h1, prodA_full x m _ h]
      simp
      omega
    · rename_i h1
      exact absurd h h1
theorem zip_atF {y : List (Int × Int)} {h : List Int} {k : Nat} {f : Int × Int} {n : Int} (hr : y[k]? = some f) (hn : h[k]? = some n) : (y.zip h)[k]? = some (f, n) := by
  rw [List.getElem?_zip_eq_some]
  exact ⟨hr, hn⟩
end Go.Proofs.Ytpcakodemleoiaa.T
end

section
namespace Go.Proofs.Ytpcakodemleoiaa.T
open Go Go.RowKit Lin
set_option linter.unusedSimpArgs false

/-! Chapter 12: the example. -/
def ex12 : Sy := ⟨[⟨hB, 300⟩], [⟨hR, [⟨hE, 0, 1, 1⟩, ⟨hB, 2, 1, 1⟩, ⟨hE, 0, 1, 1⟩, ⟨hB, 2, 1, 1⟩, ⟨hE, 0, 1, 1⟩], true⟩]⟩
theorem ex12_fits : Fits ex12 := small_fits (by decide +kernel)
theorem ex12_speeds : speedsP ex12 [1] = ([(1, 4)], 0) := by decide +kernel
theorem ex12_travel : travP ex12 hB = ((4, 1), 0) := by decide +kernel
theorem ex12_lengths : lenP ex12 [100] = ([400], 0) := by decide +kernel
def longL (s : Sy) (l : List Int) : Bool := !smallS s || l.any fun n => decide (20 < n)
theorem longL_false {s : Sy} {l : List Int} (h : longL s l = false) : smallS s = true ∧ ∀ n ∈ l, n ≤ 20 := by
  unfold longL at h
  rw [Bool.or_eq_false_iff] at h
  refine ⟨by simpa using h.1, fun n hn => ?_⟩
  have := List.any_eq_false.1 h.2 n hn
  simpa using this
end Go.Proofs.Ytpcakodemleoiaa.T
end

