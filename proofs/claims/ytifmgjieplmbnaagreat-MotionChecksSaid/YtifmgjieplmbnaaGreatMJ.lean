import Derived.Test.YtifmgjieplmbnaaGreatVJ
import Derived.Test.YtifmgjieplmbnaaGreatWX
import Derived.Test.YtifmgjieplmbnaaGreatLSJ
import Derived.Test.YtifmgjieplmbnaaGreatSKM
import Derived.Test.YtifmgjieplmbnaaGreatWOP
set_option linter.all false
section
namespace Go.Proofs.YtifmgjieplmbnaaGreat.T
open Go Go.RowKit Lin
theorem gdza3_MJ {C1 C2 C3 P Q : Prop} (c1 : C1) (c2 : C2) (c3 : C3) (q : Q) (h : C1 → C2 → C3 → Q → P := by
  intro cc1 cc2 cc3 hq
  (try with_reducible intro KR hKR)
  (repeat refine AW_seq ?_); (repeat refine AW_seq ?_); (refine AW_drawn_k tab_ok follows_mixed 0 fun KR hKR => ?_); simp only [List.replicate_succ, List.replicate_zero, List.append_nil, List.nil_append, List.cons_append, List.length_cons, List.length_nil, Nat.reduceAdd]; (repeat' ((first | refine awD_n rfl fun KK hKK => ?_ | refine awD_g rfl rfl fun KK hKK => ?_ | refine awD_gc rfl fun KK hKK => ?_ | refine awD_nc fun KK hKK => ?_); simp (disch := omega) only [bb, bt, zDs, zD, eqCells, simprocAttr, bne_self_eq_false, Int.reduceBNe, Int.reduceBEq, Bool.bne_false, Bool.bne_true, Bool.false_bne, Bool.true_bne, goCDS, callDS_fn, argsZ, argsD, ufa, uf]; (try ((first | with_reducible refine PGive.ret (cc1) ?_ | with_reducible refine PGive.ret (cc2) ?_ | with_reducible refine PGive.ret (cc3) ?_); simp (disch := omega) only [bb, bt, zDs, zD, eqCells, simprocAttr, afterDS, bne_self_eq_false, Int.reduceBNe, Int.reduceBEq, Bool.bne_false, Bool.bne_true, Bool.false_bne, Bool.true_bne])); refine hKK _ _ _ ?_; clear hKK KK)); (refine awD_nil ?_); simp only [List.reverse_cons, List.reverse_nil, List.nil_append, List.cons_append]; (refine hKR _ _ (by first | rfl | kernel_rfl) ?_); (try clear hKR KR); (repeat (with_reducible first | refine q1 ?_ | refine q2 ?_ | refine q3 ?_ | refine q4 ?_ | refine q5 ?_ | refine q6 ?_ | (refine q7 ?_ ?_; (focus (with_unfolding_all rfl)))))
  (first | exact hq | (revert hKR; revert KR; exact hq))) : P := h c1 c2 c3 q
theorem gga4_MJ {C1 C2 C3 C4 P Q : Prop} (c1 : C1) (c2 : C2) (c3 : C3) (c4 : C4) (q : Q) (h : C1 → C2 → C3 → C4 → Q → P := by
  intro cc1 cc2 cc3 cc4 hq
  (try with_reducible intro KR hKR)
  (repeat' (first | (with_reducible refine AW_seq ?_) | (with_reducible refine AW_region_k tab_ok fun KR hKR => ?_) | ((first | with_reducible refine AW_skip ?_ | with_reducible refine AW_exit ?_ | ((with_reducible refine awOps_nil ?_); refine hKR _ ?_; (try clear hKR KR))); (repeat (with_reducible first | refine q1 ?_ | refine q2 ?_ | refine q3 ?_ | refine q4 ?_ | refine q5 ?_ | refine q6 ?_ | (refine q7 ?_ ?_; (focus (with_unfolding_all rfl)))))) | ((first | ((with_reducible refine at_ops ?_); (first | refine awOps_n rfl fun KK hKK => ?_ | refine awOps_g rfl rfl fun KK hKK => ?_ | refine awOps_gc rfl fun KK hKK => ?_ | refine awOps_nc fun KK hKK => ?_)) | with_reducible refine AW_cond_k (tab := tab) fun KK hKK => ?_); simp (disch := omega) only [bb, bt, zDs, zD, eqCells, simprocAttr, bne_self_eq_false, Int.reduceBNe, Int.reduceBEq, Bool.bne_false, Bool.bne_true, Bool.false_bne, Bool.true_bne, goC, callO_fn, argsD, and_self]; (try ((first | (with_reducible refine ACall.of_pret (cc1) ?_ ?_; (focus (first | (simp only [um]; done) | rfl))) | (with_reducible refine ACall.of_pret (cc2) ?_ ?_; (focus (first | (simp only [um]; done) | rfl))) | (with_reducible refine ACall.of_pret (cc3) ?_ ?_; (focus (first | (simp only [um]; done) | rfl))) | (with_reducible refine ACall.of_pret (cc4) ?_ ?_; (focus (first | (simp only [um]; done) | rfl)))); simp only [afterC, St.put, putTM, ↓reduceIte, Nat.reduceEqDiff])); refine hKK _ ?_; clear hKK KK; (first | with_reducible refine at_ops ?_ | with_reducible refine i1 ?_ | with_reducible refine i0 ?_))))
  (first | exact hq | (revert hKR; revert KR; exact hq))) : P := h c1 c2 c3 c4 q
set_option linter.unusedSimpArgs false

/-! Quotients of fractions. -/
def recip (b : Int × Int) : Int × Int := if b.1 < 0 then (-b.2, -b.1) else (b.2, b.1)
def divR (a b : Int × Int) : (Int × Int) × Int := madeP (a.1.natAbs * b.2.natAbs) (decide (a.1 < 0) != decide (b.1 < 0)) (a.2.natAbs * b.1.natAbs)
def divP (a b : Int × Int) : (Int × Int) × Int := if vfrac a.1 a.2 = true ∧ vfrac b.1 b.2 = true then divR a b else ((0, 0), 1)
theorem recip_ok {b : Int × Int} (hb : vfrac b.1 b.2 = true) (h0 : b.1 ≠ 0) : vfrac (recip b).1 (recip b).2 = true := by
  obtain ⟨b1, b2, b3, b4, b5⟩ := fr_bounds hb
  have hc : Nat.gcd b.2.natAbs b.1.natAbs = 1 := by rw [Nat.gcd_comm]; exact b5
  unfold recip
  split
  · unfold vfrac
    simp only [Int.natAbs_neg, hc, Bool.and_eq_true, decide_eq_true_eq]
    refine ⟨⟨⟨⟨?_, ?_⟩, ?_⟩, ?_⟩, ?_⟩ <;> first | omega | trivial
  · unfold vfrac
    simp only [hc, Bool.and_eq_true, decide_eq_true_eq]
    refine ⟨⟨⟨⟨?_, ?_⟩, ?_⟩, ?_⟩, ?_⟩ <;> first | omega | trivial
theorem div_recip {a b : Int × Int} (hb : vfrac b.1 b.2 = true) : divR a b = mulR a (recip b) := by
  obtain ⟨b1, _⟩ := fr_bounds hb
  unfold divR mulR recip
  split
  · rename_i h
    simp only [Int.natAbs_neg]
    rw [decide_eq_true h, decide_eq_true (show -b.2 < 0 by omega)]
  · rename_i h
    simp only
    rw [decide_eq_false h, decide_eq_false (show ¬ b.2 < 0 by omega)]
theorem div_zero {a b : Int × Int} (h0 : b.1 = 0) : divR a b = ((0, 0), 16) := by
  unfold divR madeP
  rw [h0]
  simp
theorem Val.div {a b : Int × Int} {p q r s : Int} (h : Val a p q) (k : Val b r s) (h0 : b.1 ≠ 0) (ok : (divR a b).2 = 0) : Val (divR a b).1 (p * s) (q * r) := by
  have hr : r ≠ 0 := fun e => by
    have := k.e
    rw [e, Int.zero_mul] at this
    rcases Int.mul_eq_zero.1 this with h | h
    · exact h0 h
    · exact k.n0 h
  rw [div_recip k.v] at ok ⊢
  refine h.mul (r := s) (s := r) ⟨recip_ok k.v h0, hr, ?_⟩ ok
  have he := k.e
  unfold recip
  split
  · simp only [Int.neg_mul, Int.mul_neg]
    rw [Int.mul_comm b.2, Int.mul_comm s, he]
  · simp only
    rw [Int.mul_comm b.2, Int.mul_comm s, he]
theorem divR_err {a b : Int × Int} (ha : vfrac a.1 a.2 = true) (hb : vfrac b.1 b.2 = true) : (b.1 = 0 ∧ divR a b = ((0, 0), 16)) ∨ (b.1 ≠ 0 ∧ ((divR a b).2 = 0 ∨ (divR a b).2 = 5)) := by
  by_cases h0 : b.1 = 0
  · exact .inl ⟨h0, div_zero h0⟩
  · refine .inr ⟨h0, ?_⟩
    rw [div_recip hb]
    exact mulR_err ha (recip_ok hb h0)
theorem rDiv (a b : Int × Int) : PRet Tryz.prog 66 [frD a, frD b] (fe (divP a b)) := by
  refine PRet.intro 1 fun t => ACall.enter tab_ok Tryz.func66 rfl rfl Tryz.ntmps66 (by simp) ?_
  simp only [enterTM]
  have h1 := rValid a.1 a.2
  have h2 := rValid b.1 b.2
  cases ha : vfrac a.1 a.2
  · rw [ha] at h1
    have e : divP a b = ((0, 0), 1) := by unfold divP; rw [if_neg (by simp [ha])]
    ((refine gga1 h1 ?_))
    ((repeat refine AW_seq ?_))
    refine AW_block ?_
    ((refine gga1 h1 ?_))
    ((repeat refine AW_seq ?_); (refine wta ?_); simp (disch := omega) only [retQ, resD, oneD, rsv, rs, rsL, rsL_eq_map, List.map_map, bb, bt, zDs, zD, eqCells, simprocAttr, Tryz.results66, e])
  rw [ha] at h1
  cases hb : vfrac b.1 b.2
  · rw [hb] at h2
    have e : divP a b = ((0, 0), 1) := by unfold divP; rw [if_neg (by simp [hb])]
    ((refine gga2 h1 h2 ?_))
    ((repeat refine AW_seq ?_))
    refine AW_block ?_
    ((refine gga2 h1 h2 ?_))
    ((repeat refine AW_seq ?_); (refine wta ?_); simp (disch := omega) only [retQ, resD, oneD, rsv, rs, rsL, rsL_eq_map, List.map_map, bb, bt, zDs, zD, eqCells, simprocAttr, Tryz.results66, e])
  rw [hb] at h2
  have e : divP a b = divR a b := by unfold divP; rw [if_pos ⟨ha, hb⟩]
  have hB := fr_bounds hb
  by_cases h0 : b.1 = 0
  · have e0 : (b.1 == 0) = true := by simp [h0]
    rw [div_zero h0] at e
    ((refine gga2 h1 h2 ?_))
    ((repeat refine AW_seq ?_))
    refine AW_block ?_
    ((refine ggb2 e0 h1 h2 ?_))
    ((repeat refine AW_seq ?_); (refine wta ?_); simp (disch := omega) only [retQ, resD, oneD, rsv, rs, rsL, rsL_eq_map, List.map_map, bb, bt, zDs, zD, eqCells, simprocAttr, Tryz.results66, e])
  have e0 : (b.1 == 0) = false := by simpa using h0
  rw [div_recip hb, ← mulP_ok ha (recip_ok hb h0)] at e
  have hM := rMul a (recip b)
  rw [← e] at hM
  unfold recip at hM
  by_cases hn : b.1 < 0
  · rw [if_pos hn] at hM
    ((refine gga2 h1 h2 ?_))
    ((repeat refine AW_seq ?_))
    refine AW_block ?_
    ((refine ggb3 (F := _∧_) ⟨e0, hn⟩ h1 h2 hM ?_))
    ((repeat refine AW_seq ?_); (refine wta ?_); simp (disch := omega) only [retQ, resD, oneD, rsv, rs, rsL, rsL_eq_map, List.map_map, bb, bt, zDs, zD, eqCells, simprocAttr, Tryz.results66])
  · rw [if_neg hn] at hM
    ((refine gga2 h1 h2 ?_))
    ((repeat refine AW_seq ?_))
    refine AW_block ?_
    ((refine ggb3 (F := _∧_) ⟨e0, hn⟩ h1 h2 hM ?_))
    ((repeat refine AW_seq ?_); (refine wta ?_); simp (disch := omega) only [retQ, resD, oneD, rsv, rs, rsL, rsL_eq_map, List.map_map, bb, bt, zDs, zD, eqCells, simprocAttr, Tryz.results66])
end Go.Proofs.YtifmgjieplmbnaaGreat.T
end

section
namespace Go.Proofs.YtifmgjieplmbnaaGreat.T
open Go Go.RowKit Lin
set_option linter.unusedSimpArgs false

/-! Chapter 12: rows, by the program. -/
def trS (s : Sy) : List (List Int) := turnP (matS s) s.rs.length
theorem col_push {cells : List D} {n k : Nat} (hc : cells.length = k) (hk : k < n) (c d : D) : (cells ++ c :: List.replicate (n - (k + 1)) nilI).set k d = cells ++ d :: List.replicate (n - (k + 1)) nilI := by
  rw [List.set_append_right _ _ (by omega), hc, Nat.sub_self, List.set_cons_zero]
theorem col_get {cells : List D} {n k : Nat} (hc : cells.length = k) (c : D) : (cells ++ c :: List.replicate (n - (k + 1)) nilI)[k]? = some c := by
  rw [List.getElem?_append_right (by omega), hc, Nat.sub_self, List.getElem?_cons_zero]
theorem col_nil {cells : List D} {n k : Nat} (hk : k < n) : cells ++ List.replicate (n - k) nilI = cells ++ nilI :: List.replicate (n - (k + 1)) nilI := by
  rw [show n - k = (n - (k + 1)) + 1 by omega, List.replicate_succ]
theorem fz_nils (b g : Nat) (cs : List D) : ∀ k, fzL b g cs (List.replicate k nilI) = List.replicate k nilI
  | 0 => rfl
  | k + 1 => by simp only [List.replicate_succ, fzL, fz, fz_nils b g cs k]
theorem fzL_app (b g : Nat) (cs : List D) : ∀ x y : List D, fzL b g cs (x ++ y) = fzL b g cs x ++ fzL b g cs y
  | [], y => rfl
  | d :: x, y => by simp only [List.cons_append, fzL, fzL_app b g cs x y]
set_option maxHeartbeats 4000000 in
theorem rows_prog (s : Sy) (hf : Fits s) : PRet Tryz.prog 70 [syD s] (.tup (if validS s = true then [mat (trS s), int 0] else [ints [], int 1])) := by
  refine PRet.intro 1 fun t => ACall.enter tab_ok Tryz.func70 rfl rfl Tryz.ntmps70 (by simp) ?_
  simp only [enterTM]
  have hM := matrix_prog s hf
  have hdr := rpC_div s.rs
  cases hv : validS s
  · rw [hv] at hM
    simp only [Bool.false_eq_true, if_false] at hM
    ((refine gga1 hM ?_))
    ((repeat refine AW_seq ?_); (refine wta ?_); simp (disch := omega) only [retQ, resD, oneD, rsv, rs, rsL, rsL_eq_map, List.map_map, bb, bt, zDs, zD, eqCells, simprocAttr, Tryz.results70, Bool.false_eq_true, if_false])
    rfl
  rw [hv] at hM
  simp only [if_true] at hM ⊢
  have ok := validS_ok hv
  have hrow := ok.rows
  have hr6 := ok.r6
  have ml := ok.mat_len
  have mw := ok.mat_wid
  unfold trS
  generalize hn : s.rs.length = n at *
  have hb6 := ok.b6
  generalize matS s = m at *
  ((refine ggb1 hdr hM ?_))
  rw [nilsI]
  ((repeat refine AW_seq ?_))
  refine AW_mid (fun x : Nat => ⟨[(6, .own 1 1 (t + 1 + 1) 0 n)], [none, some ⟨59, t + 1 + 1, (turnP m n).map ints⟩], x⟩) (fun _ => True) ?_ ?_
  · refine AW_block ?_
    refine AW_loop_w (fun x : Nat × Nat => ⟨[(4, mat m), (6, .own 1 1 (t + 1 + 1) 0 n), (23, int n), (24, int x.1)], [none, some ⟨59, t + 1 + 1, (turnP m x.1).map ints ++ List.replicate (n - x.1) nilI⟩], x.2⟩) (fun x => n - x.1) (fun x => x.1 ≤ n) (0, t + 1 + 1) (Nat.zero_le _) (by (simp (disch := omega) only [StLe, tmLe, hpLe_refl, hpLe, bl, bb, bt, zDs, zD, eqCells, simprocAttr, turnP, List.range_zero, Nat.sub_zero])) ?_
    rintro ⟨k, tt⟩ hk
    simp only at hk
    have htl : ((turnP m k).map ints).length = k := by rw [List.length_map, turnP_len]
    by_cases hlt : k < n
    · rw [col_nil hlt]
      ((refine ggb0 (F := _∧_) ⟨@Int.ofNat_lt, hlt⟩ ?_))
      ((repeat refine AW_seq ?_))
      refine AW_block ?_
      ((refine gga0 ?_))
      have hg1 := col_get (n := n) htl nilI
      have hs1 := fun c d => col_push (n := n) htl hlt c d
      refine AW.begin_cell 1 k 1 3 rfl hg1 (by decide) ?_
      simp only [List.set_cons_succ, List.set_cons_zero, List.length_cons, List.length_nil, List.cons_append, List.nil_append, Nat.zero_add, Nat.reduceAdd, hs1]
      have htl2 : (turnP m k).length = k := turnP_len m k
      have hrl : (List.replicate (n - (k + 1)) nilI).length = n - (k + 1) := by simp
      have hkn : k < k + (n - (k + 1) + 1) := by omega
      refine AW_block ?_
      refine AW_loop_w (fun x : Nat × Nat × Nat => ⟨[(4, mat m), (6, .own 1 1 (t + 1 + 1) 0 n), (7, int k), (23, int n), (24, int k), (27, mat m), (28, int m.length), (29, int x.1)], [none, some ⟨59, t + 1 + 1, (turnP m k).map ints ++ .own 1 2 x.2.1 0 x.1 :: List.replicate (n - (k + 1)) nilI⟩, some ⟨3, x.2.1, (colP (m.take x.1) k).map int⟩], x.2.2⟩) (fun x => m.length - x.1) (fun x => x.1 ≤ m.length) (0, tt + 1, tt + 1) (Nat.zero_le _) (by (simp (disch := omega) only [StLe, tmLe, hpLe_refl, hpLe, bl, bb, bt, zDs, zD, eqCells, simprocAttr, colP])) ?_
      rintro ⟨j, g, t2⟩ hj
      simp only at hj
      by_cases hlj : j < m.length
      · obtain ⟨r, hr⟩ : ∃ y, m[j]? = some y := ⟨_, List.getElem?_eq_getElem hlj⟩
        have hrl2 := (hrow r (List.mem_of_getElem? hr)).1
        have hkr : k < r.length := by omega
        obtain ⟨v, hv⟩ : ∃ y, r[k]? = some y := ⟨_, List.getElem?_eq_getElem hkr⟩
        have hct := colP_take hr hv
        have hcl : (colP (m.take j) k).length = j := by simp [colP]; omega
        have hg2 := fun c => col_get (n := n) htl c
        ((refine ggb0 (F := _∧_) ⟨@Int.ofNat_lt, hlj⟩ ?_))
        ((repeat refine AW_seq ?_))
        refine AW_block ?_
        ((refine ggb0 (F := _∧_) ⟨hlj, hr⟩ ?_))
        ((repeat refine AW_seq ?_); (refine gdzb (F := _∧_∧_∧_∧_∧_∧_∧_) ⟨hg2, hs1, hkr, hv, hcl, hkn, htl2, hrl⟩ ?_))
        ((refine gga0 ?_))
        refine ⟨(j + 1, t2 + 1, t2 + 1), hlj, by show m.length - (j + 1) < m.length - j; omega, ?_⟩
        simp only [hct, List.map_append, List.map_cons, List.map_nil]
        (simp (disch := omega) only [StLe, tmLe, hpLe_refl, hpLe, bl, bb, bt, zDs, zD, eqCells, simprocAttr])
      · have hje : j = m.length := by omega
        subst hje
        rw [List.take_length]
        have hcl : (colP m k).length = m.length := by simp [colP]
        have hfin : List.take m.length ((colP m k).map int) = (colP m k).map int := List.take_of_length_le (by simp [hcl])
        ((refine wqb @Int.lt_irrefl ?_))
        ((refine wia ?_))
        ((refine wxa ?_))
        ((refine AW.freeze (2) (by first | rfl | (simp only [setH, List.getElem?_cons_zero, List.getElem?_cons_succ, fzL_app, fz_nils, hcl, hfin, List.length_map, Nat.le_refl]; done)) ?_); simp (disch := omega) only [fzT, fz, fzL, fzL_ints, fzL_mat, fzH, fzB, eq_self, bb, bt, zDs, zD, eqCells, simprocAttr, fzL_app, fz_nils, hcl, hfin, List.length_map, Nat.le_refl])
        ((refine gga0 ?_))
        refine ⟨(k + 1, t2), hlt, by show n - (k + 1) < n - k; omega, ?_⟩
        simp only [turnP_succ, List.map_append, List.map_cons, List.map_nil, List.append_assoc, List.cons_append, List.nil_append]
        (simp (disch := omega) only [StLe, tmLe, hpLe_refl, hpLe, bl, bb, bt, zDs, zD, eqCells, simprocAttr])
    · have hke : k = n := by omega
      subst hke
      ((refine ggb0 @Int.lt_irrefl ?_))
      exact ⟨tt, trivial, by (simp (disch := omega) only [StLe, tmLe, hpLe_refl, hpLe, bl, bb, bt, zDs, zD, eqCells, simprocAttr, Nat.sub_self, List.replicate_zero, List.append_nil])⟩
  rintro tt -
  have hfin : List.take n ((turnP m n).map ints) = (turnP m n).map ints := List.take_of_length_le (by simp [turnP_len])
  have htl := turnP_len m n
  ((refine AW.freeze (1) (by first | rfl | (simp only [setH, List.getElem?_cons_zero, List.getElem?_cons_succ, hfin, htl, List.length_map, Nat.le_refl]; done)) ?_); simp (disch := omega) only [fzT, fz, fzL, fzL_ints, fzL_mat, fzH, fzB, eq_self, bb, bt, zDs, zD, eqCells, simprocAttr, hfin, htl, List.length_map, Nat.le_refl])
  ((refine gga0 ?_))
  ((repeat refine AW_seq ?_); (refine wta ?_); simp (disch := omega) only [retQ, resD, oneD, bb, bt, zDs, zD, eqCells, simprocAttr, Tryz.results70])
  refine rsv_tidy _ _ ?_
  have := tidy_mat (turnP m n)
  simp only [tidyD, tidyL, Bool.not_false, Bool.and_true, Bool.true_and] at this ⊢
  exact this
end Go.Proofs.YtifmgjieplmbnaaGreat.T
end

section
namespace Go.Proofs.YtifmgjieplmbnaaGreat.T
open Go Go.RowKit Lin
set_option linter.unusedSimpArgs false

/-! Chapter 12: hauls, and speeds. -/
theorem all_take {α : Type} {p : α → Bool} {l : List α} {k : Nat} {x : α} (h : l[k]? = some x) : (l.take (k + 1)).all p = ((l.take k).all p && p x) := by
  rw [List.take_add_one, h]
  simp
theorem all_miss {α : Type} {p : α → Bool} {l : List α} {k : Nat} {x : α} (h : l[k]? = some x) (hp : p x = false) : l.all p = false := by
  rw [← Bool.not_eq_true, List.all_eq_true]
  intro hh
  rw [hh x (List.mem_of_getElem? h)] at hp
  cases hp
def ranP (x : Rp × Int) : Bool := decide (-67108864 ≤ x.2 ∧ x.2 ≤ 67108864) && (x.2 == 0 || x.1.hl)
def rangedP (rs : List Rp) (h : List Int) : Bool := (rs.zip h).all ranP
theorem zip_at {rs : List Rp} {h : List Int} {k : Nat} {r : Rp} {n : Int} (hr : rs[k]? = some r) (hn : h[k]? = some n) : (rs.zip h)[k]? = some (r, n) := by
  rw [List.getElem?_zip_eq_some]
  exact ⟨hr, hn⟩
theorem rangedP_at {rs : List Rp} {h : List Int} (hp : rangedP rs h = true) {k : Nat} {r : Rp} {n : Int} (hr : rs[k]? = some r) (hn : h[k]? = some n) : (-67108864 ≤ n ∧ n ≤ 67108864) ∧ (n = 0 ∨ r.hl = true) := by
  unfold rangedP at hp
  rw [List.all_eq_true] at hp
  have := hp _ (List.mem_of_getElem? (zip_at hr hn))
  unfold ranP at this
  simpa using this
theorem rangedP_within {rs : List Rp} {h : List Int} (hl : h.length = rs.length) (hp : rangedP rs h = true) : withinP h 67108864 = true := withinP_of fun n hn => by
  obtain ⟨k, hk⟩ := List.mem_iff_getElem?.1 hn
  have hkl := (List.getElem?_eq_some_iff.1 hk).1
  exact (rangedP_at hp (List.getElem?_eq_getElem (by omega)) hk).1
set_option maxHeartbeats 2000000 in
theorem ranged_prog (s : Sy) (hf : Fits s) (h : List Int) (hl : h.length = s.rs.length) : PRet Tryz.prog 77 [syD s, ints h] (bool (rangedP s.rs h)) := by
  refine PRet.intro 1 fun t => ACall.enter tab_ok Tryz.func77 rfl rfl Tryz.ntmps77 (by simp) ?_
  simp only [enterTM]
  have hdr := rpC_div s.rs
  have hnr := hf.nr
  have hzl : (s.rs.zip h).length = h.length := by simp [List.length_zip]; omega
  ((refine gga0 ?_))
  ((repeat refine AW_seq ?_))
  refine AW_block ?_
  refine AW_loop_w (fun k : Nat => ⟨[(2, .ptr 0 (t + 1) 0), (7, ints h), (8, int h.length), (9, int k)], [some ⟨25, t + 1, [bks s.bs, rps s.rs]⟩], t + 1⟩) (fun k => h.length - k) (fun k => k ≤ h.length ∧ ((s.rs.zip h).take k).all ranP = true) 0 ⟨Nat.zero_le _, rfl⟩ (by (simp (disch := omega) only [StLe, tmLe, hpLe_refl, hpLe, bl, bb, bt, zDs, zD, eqCells, simprocAttr])) fun k ⟨hk, hi⟩ => ?_
  by_cases hlt : k < h.length
  · obtain ⟨r, hr⟩ : ∃ x, s.rs[k]? = some x := ⟨_, List.getElem?_eq_getElem (by omega)⟩
    obtain ⟨n, hn⟩ : ∃ x, h[k]? = some x := ⟨_, List.getElem?_eq_getElem hlt⟩
    have hz := zip_at hr hn
    have hst := all_take (p := ranP) hz
    rw [hi, Bool.true_and] at hst
    have hra : (rpC s.rs)[k * 3 + 2]? = some (bool r.hl) := rpC_cell s.rs k r hr 2 (by decide)
    have hkr : k < s.rs.length := by omega
    ((refine ggb0 (F := _∧_) ⟨@Int.ofNat_lt, hlt⟩ ?_))
    ((repeat refine AW_seq ?_))
    refine AW_block ?_
    by_cases c1 : n < -67108864
    · have hp : rangedP s.rs h = false := all_miss hz (by unfold ranP; simp; omega)
      ((refine ggb0 (F := _∧_∧_) ⟨hlt, hn, c1⟩ ?_))
      ((repeat refine AW_seq ?_); (refine wta ?_); simp (disch := omega) only [retQ, resD, oneD, rsv, rs, rsL, rsL_eq_map, List.map_map, bb, bt, zDs, zD, eqCells, simprocAttr, Tryz.results77, hp])
    by_cases c2 : 67108864 < n
    · have hp : rangedP s.rs h = false := all_miss hz (by unfold ranP; simp; omega)
      ((refine ggb0 (F := _∧_∧_∧_) ⟨hlt, hn, c1, c2⟩ ?_))
      ((repeat refine AW_seq ?_); (refine wta ?_); simp (disch := omega) only [retQ, resD, oneD, rsv, rs, rsL, rsL_eq_map, List.map_map, bb, bt, zDs, zD, eqCells, simprocAttr, Tryz.results77, hp])
    cases c3 : (n == 0)
    · have c3' : (n != 0) = true := by simpa using c3
      have c3n : ¬ n = 0 := by simpa using c3
      cases hh : r.hl
      · rw [hh] at hra
        have hp : rangedP s.rs h = false := all_miss hz (by unfold ranP; simp [hh, c3n])
        ((refine ggb0 (F := _∧_∧_∧_∧_∧_∧_∧_) ⟨hlt, hn, c1, c2, c3', hdr, hkr, hra⟩ ?_))
        ((repeat refine AW_seq ?_); (refine wta ?_); simp (disch := omega) only [retQ, resD, oneD, rsv, rs, rsL, rsL_eq_map, List.map_map, bb, bt, zDs, zD, eqCells, simprocAttr, Tryz.results77, hp])
      · rw [hh] at hra
        ((refine ggb0 (F := _∧_∧_∧_∧_∧_∧_∧_) ⟨hlt, hn, c1, c2, c3', hdr, hkr, hra⟩ ?_))
        refine ⟨k + 1, ⟨hlt, by rw [hst]; unfold ranP; simp [hh]; omega⟩, by omega, ?_⟩
        (simp (disch := omega) only [StLe, tmLe, hpLe_refl, hpLe, bl, bb, bt, zDs, zD, eqCells, simprocAttr])
    · have c3' : (n != 0) = false := by simpa using c3
      have c3n : n = 0 := by simpa using c3
      ((refine ggb0 (F := _∧_∧_∧_∧_) ⟨hlt, hn, c1, c2, c3'⟩ ?_))
      refine ⟨k + 1, ⟨hlt, by rw [hst]; unfold ranP; simp [c3n]⟩, by omega, ?_⟩
      (simp (disch := omega) only [StLe, tmLe, hpLe_refl, hpLe, bl, bb, bt, zDs, zD, eqCells, simprocAttr])
  · have hke : k = h.length := by omega
    subst hke
    have hp : rangedP s.rs h = true := by
      unfold rangedP
      rw [List.take_of_length_le (by omega)] at hi
      exact hi
    ((refine ggb0 @Int.lt_irrefl ?_))
    ((repeat refine AW_seq ?_); (refine wta ?_); simp (disch := omega) only [retQ, resD, oneD, rsv, rs, rsL, rsL_eq_map, List.map_map, bb, bt, zDs, zD, eqCells, simprocAttr, Tryz.results77, hp])
def givH (s : Sy) (h : List Int) : Int := if validS s = true then (if h.length = s.rs.length then (if rangedP s.rs h = true then 0 else 2) else 3) else 1
def speedsP (s : Sy) (h : List Int) : List (Int × Int) × Int := if givH s h = 0 then solveP (trS s) h else ([], givH s h)
theorem givH_zero {s : Sy} {h : List Int} (e : givH s h = 0) : validS s = true ∧ h.length = s.rs.length ∧ rangedP s.rs h = true := by
  unfold givH at e
  split at e
  · rename_i h1
    split at e
    · rename_i h2
      split at e
      · rename_i h3; exact ⟨h1, h2, h3⟩
      · simp at e
    · simp at e
  · simp at e
/-- The matrix whose rows are the columns. -/
theorem OkS.tr_len {s : Sy} (_ok : OkS s) : (trS s).length = s.rs.length := turnP_len _ _
theorem OkS.tr_valid {s : Sy} (ok : OkS s) : validP (trS s) = true ∧ wid (trS s) = s.bs.length := by
  obtain ⟨m1, m2, m3⟩ := validP_iff.1 ok.mat_valid
  have ml := ok.mat_len
  have mw := ok.mat_wid
  have b1 := ok.b1
  have b6 := ok.b6
  have r1 := ok.r1
  have r6 := ok.r6
  have hrow : ∀ r ∈ trS s, r.length = s.bs.length ∧ ∀ x ∈ r, -32 ≤ x ∧ x ≤ 32 := fun r hr => by
    obtain ⟨j, hj, rfl⟩ := List.mem_map.1 hr
    refine ⟨by simp [colP, ml], fun x hx => ?_⟩
    obtain ⟨q, hq, rfl⟩ := List.mem_map.1 hx
    exact at_bound (by decide) (m3 q hq).2 j
  have hl := ok.tr_len
  have hw : wid (trS s) = s.bs.length := by
    obtain ⟨r, rs, e⟩ : ∃ r rs, trS s = r :: rs := by
      cases hr : trS s with
      | nil => rw [hr] at hl; simp at hl; omega
      | cons a b => exact ⟨a, b, rfl⟩
    unfold wid
    rw [e, List.headD_cons]
    exact (hrow r (by rw [e]; simp)).1
  exact ⟨validP_iff.2 ⟨by omega, by omega, fun r hr => ⟨by rw [hw]; exact (hrow r hr).1, (hrow r hr).2⟩⟩, hw⟩
theorem OkS.tr_fit {s : Sy} (ok : OkS s) : (trS s).length ≤ 1000000 ∧ (∀ r ∈ trS s, r.length ≤ 1000000) := by
  obtain ⟨h1, h2⟩ := ok.tr_valid
  obtain ⟨m1, m2, m3⟩ := validP_iff.1 h1
  exact ⟨by omega, fun r hr => by rw [(m3 r hr).1]; omega⟩
set_option maxHeartbeats 1000000 in
theorem speeds_prog (s : Sy) (hf : Fits s) (h : List Int) (hl : h.length ≤ 1000000) : PRet Tryz.prog 56 [syD s, ints h] (fse (speedsP s h)) := by
  refine PRet.intro 1 fun t => ACall.enter tab_ok Tryz.func56 rfl rfl Tryz.ntmps56 (by simp) ?_
  simp only [enterTM]
  have hR := rows_prog s hf
  have hdr := rpC_div s.rs
  have f0 : frC [] = [] := rfl
  cases hv : validS s
  · rw [hv] at hR
    simp only [Bool.false_eq_true, if_false] at hR
    have e : speedsP s h = ([], 1) := by simp [speedsP, givH, hv]
    ((refine gga1 hR ?_))
    ((repeat refine AW_seq ?_))
    refine AW_block ?_
    ((refine gga0 ?_))
    ((repeat refine AW_seq ?_); (refine wta ?_); simp (disch := omega) only [retQ, resD, oneD, rsv, rs, rsL, rsL_eq_map, List.map_map, bb, bt, zDs, zD, eqCells, simprocAttr, Tryz.results56, e, f0])
    rfl
  rw [hv] at hR
  simp only [if_true] at hR
  have ok := validS_ok hv
  by_cases hz : h.length = s.rs.length
  rotate_left 1
  · have en : ((h.length : Int) != (s.rs.length : Int)) = true := by simpa using fun e => hz (by omega)
    have e : speedsP s h = ([], 3) := by simp [speedsP, givH, hv, hz]
    ((refine gga1 hR ?_))
    ((repeat refine AW_seq ?_))
    refine AW_block ?_
    ((refine ggb0 (F := _∧_) ⟨hdr, en⟩ ?_))
    ((repeat refine AW_seq ?_); (refine wta ?_); simp (disch := omega) only [retQ, resD, oneD, rsv, rs, rsL, rsL_eq_map, List.map_map, bb, bt, zDs, zD, eqCells, simprocAttr, Tryz.results56, e, f0])
    rfl
  have en : ((h.length : Int) != (s.rs.length : Int)) = false := by simp [hz]
  have hA := ranged_prog s hf h hz
  cases hr : rangedP s.rs h
  · rw [hr] at hA
    have e : speedsP s h = ([], 2) := by simp [speedsP, givH, hv, hz, hr]
    ((refine gga1 hR ?_))
    ((repeat refine AW_seq ?_))
    refine AW_block ?_
    ((refine ggb1 (F := _∧_) ⟨hdr, en⟩ hA ?_))
    ((repeat refine AW_seq ?_); (refine wta ?_); simp (disch := omega) only [retQ, resD, oneD, rsv, rs, rsL, rsL_eq_map, List.map_map, bb, bt, zDs, zD, eqCells, simprocAttr, Tryz.results56, e, f0])
    rfl
  rw [hr] at hA
  have e : speedsP s h = solveP (trS s) h := by simp [speedsP, givH, hv, hz, hr]
  obtain ⟨f1, f2⟩ := ok.tr_fit
  have hS := solve (trS s) h f1 f2 hl
  rw [← e] at hS
  generalize speedsP s h = X at *
  ((refine gga1 hR ?_))
  ((repeat refine AW_seq ?_))
  refine AW_block ?_
  ((refine ggb2 (F := _∧_) ⟨hdr, en⟩ hA hS ?_))
  ((repeat refine AW_seq ?_); (refine wta ?_); simp (disch := omega) only [retQ, resD, oneD, bb, bt, zDs, zD, eqCells, simprocAttr, Tryz.results56])
  exact rsv_tidy _ _ (by simp only [tidyD, tidyL, tidy_fr, Bool.not_false, Bool.and_self])
/-! The reference. -/
theorem turned_ref (s : Sy) (hv : validS s = true) : PRet Tryz.prog 28 [syD s] (mat (trS s)) := by
  refine PRet.intro 1 fun t => ACall.enter tab_ok Tryz.func28 rfl rfl Tryz.ntmps28 (by simp) ?_
  simp only [enterTM]
  have ok := validS_ok hv
  have hM := matrix_ref s ok
  obtain ⟨m1, m2, m3⟩ := validP_iff.1 ok.mat_valid
  have mw := ok.mat_wid
  have hT := refTurned (matS s) s.rs.length (by omega) (by omega) (by omega) (fun r hr => by rw [(m3 r hr).1, mw])
  ((refine gga2 hM hT ?_))
  ((repeat refine AW_seq ?_); (refine wta ?_); simp (disch := omega) only [retQ, resD, oneD, bb, bt, zDs, zD, eqCells, simprocAttr, Tryz.results28])
  exact rsv_tidy _ _ (tidy_mat _)
set_option maxHeartbeats 2000000 in
theorem givH_ref (s : Sy) (hf : Fits s) (h : List Int) (hl : h.length ≤ 1000000) : PRet Tryz.prog 80 [syD s, ints h] (int (givH s h)) := by
  refine PRet.intro 1 fun t => ACall.enter tab_ok Tryz.func80 rfl rfl Tryz.ntmps80 (by simp) ?_
  simp only [enterTM]
  have hdr := rpC_div s.rs
  have hV := valid_ref s hf
  cases hv : validS s
  · rw [hv] at hV
    have e : givH s h = 1 := by simp [givH, hv]
    ((refine gga1 hV ?_))
    ((repeat refine AW_seq ?_); (refine wta ?_); simp (disch := omega) only [retQ, resD, oneD, rsv, rs, rsL, rsL_eq_map, List.map_map, bb, bt, zDs, zD, eqCells, simprocAttr, Tryz.results80, e])
  rw [hv] at hV
  by_cases hz : h.length = s.rs.length
  rotate_left 1
  · have en : ((h.length : Int) != (s.rs.length : Int)) = true := by simpa using fun e => hz (by omega)
    have e : givH s h = 3 := by simp [givH, hv, hz]
    ((refine ggb1 (F := _∧_) ⟨hdr, en⟩ hV ?_))
    ((repeat refine AW_seq ?_); (refine wta ?_); simp (disch := omega) only [retQ, resD, oneD, rsv, rs, rsL, rsL_eq_map, List.map_map, bb, bt, zDs, zD, eqCells, simprocAttr, Tryz.results80, e])
  have en : ((h.length : Int) != (s.rs.length : Int)) = false := by simp [hz]
  have eg : givH s h = if rangedP s.rs h = true then 0 else 2 := by simp [givH, hv, hz]
  have hzl : (s.rs.zip h).length = h.length := by simp [List.length_zip]; omega
  ((refine ggb1 (F := _∧_) ⟨hdr, en⟩ hV ?_))
  ((repeat refine AW_seq ?_))
  refine AW_block ?_
  refine AW_loop_w (fun k : Nat => ⟨[(1, ints h), (2, .ptr 0 (t + 1) 0), (5, int k)], [some ⟨25, t + 1, [bks s.bs, rps s.rs]⟩], t + 1⟩) (fun k => h.length - k) (fun k => k ≤ h.length ∧ ((s.rs.zip h).take k).all ranP = true) 0 ⟨Nat.zero_le _, rfl⟩ (by (simp (disch := omega) only [StLe, tmLe, hpLe_refl, hpLe, bl, bb, bt, zDs, zD, eqCells, simprocAttr])) fun k ⟨hk, hi⟩ => ?_
  by_cases hlt : k < h.length
  · obtain ⟨r, hr⟩ : ∃ x, s.rs[k]? = some x := ⟨_, List.getElem?_eq_getElem (by omega)⟩
    obtain ⟨n, hn⟩ : ∃ x, h[k]? = some x := ⟨_, List.getElem?_eq_getElem hlt⟩
    have hz2 := zip_at hr hn
    have hst := all_take (p := ranP) hz2
    rw [hi, Bool.true_and] at hst
    have hra : (rpC s.rs)[k * 3 + 2]? = some (bool r.hl) := rpC_cell s.rs k r hr 2 (by decide)
    have hkr : k < s.rs.length := by omega
    ((refine ggb0 (F := _∧_) ⟨@Int.ofNat_lt, hlt⟩ ?_))
    ((repeat refine AW_seq ?_))
    refine AW_block ?_
    by_cases c1 : n < -67108864
    · have hp : rangedP s.rs h = false := all_miss hz2 (by unfold ranP; simp; omega)
      rw [hp] at eg
      ((refine ggb0 (F := _∧_∧_) ⟨hlt, hn, c1⟩ ?_))
      ((repeat refine AW_seq ?_); (refine wta ?_); simp (disch := omega) only [retQ, resD, oneD, rsv, rs, rsL, rsL_eq_map, List.map_map, bb, bt, zDs, zD, eqCells, simprocAttr, Tryz.results80, eg, Bool.false_eq_true, if_false])
    by_cases c2 : 67108864 < n
    · have hp : rangedP s.rs h = false := all_miss hz2 (by unfold ranP; simp; omega)
      rw [hp] at eg
      ((refine ggb0 (F := _∧_∧_∧_) ⟨hlt, hn, c1, c2⟩ ?_))
      ((repeat refine AW_seq ?_); (refine wta ?_); simp (disch := omega) only [retQ, resD, oneD, rsv, rs, rsL, rsL_eq_map, List.map_map, bb, bt, zDs, zD, eqCells, simprocAttr, Tryz.results80, eg, Bool.false_eq_true, if_false])
    cases c3 : (n == 0)
    · have c3' : (n != 0) = true := by simpa using c3
      have c3n : ¬ n = 0 := by simpa using c3
      cases hh : r.hl
      · rw [hh] at hra
        have hp : rangedP s.rs h = false := all_miss hz2 (by unfold ranP; simp [hh, c3n])
        rw [hp] at eg
        ((refine ggb0 (F := _∧_∧_∧_∧_∧_∧_∧_) ⟨hlt, hn, c1, c2, c3', hdr, hkr, hra⟩ ?_))
        ((repeat refine AW_seq ?_); (refine wta ?_); simp (disch := omega) only [retQ, resD, oneD, rsv, rs, rsL, rsL_eq_map, List.map_map, bb, bt, zDs, zD, eqCells, simprocAttr, Tryz.results80, eg, Bool.false_eq_true, if_false])
      · rw [hh] at hra
        ((refine ggb0 (F := _∧_∧_∧_∧_∧_∧_∧_) ⟨hlt, hn, c1, c2, c3', hdr, hkr, hra⟩ ?_))
        refine ⟨k + 1, ⟨hlt, by rw [hst]; unfold ranP; simp [hh]; omega⟩, by omega, ?_⟩
        (simp (disch := omega) only [StLe, tmLe, hpLe_refl, hpLe, bl, bb, bt, zDs, zD, eqCells, simprocAttr])
    · have c3' : (n != 0) = false := by simpa using c3
      have c3n : n = 0 := by simpa using c3
      ((refine ggb0 (F := _∧_∧_∧_∧_) ⟨hlt, hn, c1, c2, c3'⟩ ?_))
      refine ⟨k + 1, ⟨hlt, by rw [hst]; unfold ranP; simp [c3n]⟩, by omega, ?_⟩
      (simp (disch := omega) only [StLe, tmLe, hpLe_refl, hpLe, bl, bb, bt, zDs, zD, eqCells, simprocAttr])
  · have hke : k = h.length := by omega
    subst hke
    have hp : rangedP s.rs h = true := by
      unfold rangedP
      rw [List.take_of_length_le (by omega)] at hi
      exact hi
    rw [hp] at eg
    ((refine ggb0 @Int.lt_irrefl ?_))
    ((repeat refine AW_seq ?_); (refine wta ?_); simp (disch := omega) only [retQ, resD, oneD, rsv, rs, rsL, rsL_eq_map, List.map_map, bb, bt, zDs, zD, eqCells, simprocAttr, Tryz.results80, eg, if_true])
theorem speeds_ref (s : Sy) (hf : Fits s) (h : List Int) (hl : h.length ≤ 1000000) : PRet Tryz.prog 68 [syD s, ints h] (fse (speedsP s h)) := by
  refine PRet.intro 1 fun t => ACall.enter tab_ok Tryz.func68 rfl rfl Tryz.ntmps68 (by simp) ?_
  simp only [enterTM]
  have hG := givH_ref s hf h hl
  have f0 : frC [] = [] := rfl
  by_cases hg : givH s h = 0
  rotate_left 1
  · have e : speedsP s h = ([], givH s h) := by simp [speedsP, hg]
    have hg' : (givH s h != 0) = true := by simpa using hg
    ((refine ggb1 hg' hG ?_))
    ((repeat refine AW_seq ?_); (refine wta ?_); simp (disch := omega) only [retQ, resD, oneD, rsv, rs, rsL, rsL_eq_map, List.map_map, bb, bt, zDs, zD, eqCells, simprocAttr, Tryz.results68, e, f0])
    rfl
  obtain ⟨hv, hz, hr⟩ := givH_zero hg
  have ok := validS_ok hv
  obtain ⟨tv, tw⟩ := ok.tr_valid
  have tl := ok.tr_len
  have hw := rangedP_within hz hr
  have hT := turned_ref s hv
  have hS := refSolve (trS s) h tv (by omega) hw
  have e : speedsP s h = solF (elimBy mvR (copyP (trS s) h) (wid (trS s))) (wid (trS s)) := by
    rw [← solveP_mv tv (by omega) hw]
    simp [speedsP, hg]
  rw [← e] at hS
  rw [hg] at hG
  generalize speedsP s h = X at *
  ((refine gga3 hG hT hS ?_))
  ((repeat refine AW_seq ?_); (refine wta ?_); simp (disch := omega) only [retQ, resD, oneD, bb, bt, zDs, zD, eqCells, simprocAttr, Tryz.results68])
  exact rsv_tidy _ _ (by simp only [tidyD, tidyL, tidy_fr, Bool.not_false, Bool.and_self])
end Go.Proofs.YtifmgjieplmbnaaGreat.T
end

section
namespace Go.Proofs.YtifmgjieplmbnaaGreat.T
open Go Go.RowKit Lin
set_option linter.unusedSimpArgs false

/-! Chapter 12: lengths. -/
def farP (n : Int) : Bool := decide (n < -1048576) || decide (1048576 < n)
theorem lengths1 (n : Int) : PRet Tryz.prog 82 [int n] (bool (farP n)) := by
  refine PRet.intro 1 fun t => ACall.enter tab_ok Tryz.func82 rfl rfl Tryz.ntmps82 (by simp) ?_
  simp only [enterTM]
  by_cases c1 : n < -1048576
  · have e : farP n = true := by simp [farP, c1]
    ((refine ggb0 c1 ?_))
    ((repeat refine AW_seq ?_); (refine wta ?_); simp (disch := omega) only [retQ, resD, oneD, rsv, rs, rsL, rsL_eq_map, List.map_map, bb, bt, zDs, zD, eqCells, simprocAttr, Tryz.results82, e])
  by_cases c2 : 1048576 < n
  · have e : farP n = true := by simp [farP, c2]
    ((refine ggb0 (F := _∧_) ⟨c1, c2⟩ ?_))
    ((repeat refine AW_seq ?_); (refine wta ?_); simp (disch := omega) only [retQ, resD, oneD, rsv, rs, rsL, rsL_eq_map, List.map_map, bb, bt, zDs, zD, eqCells, simprocAttr, Tryz.results82, e])
  have e : farP n = false := by simp [farP]; omega
  ((refine ggb0 (F := _∧_) ⟨c1, c2⟩ ?_))
  ((repeat refine AW_seq ?_); (refine wta ?_); simp (disch := omega) only [retQ, resD, oneD, rsv, rs, rsL, rsL_eq_map, List.map_map, bb, bt, zDs, zD, eqCells, simprocAttr, Tryz.results82, e])
def dotN (r mv : List Int) (k : Nat) : Int := sumN (fun i => Lin.at_ r i * Lin.at_ mv i) k
theorem dotN_step {r mv : List Int} {j : Nat} {n x : Int} (hr : r[j]? = some n) (hx : mv[j]? = some x) : dotN r mv (j + 1) = dotN r mv j + n * x := by
  unfold dotN
  simp only [sumN]
  have e1 : Lin.at_ r j = n := by simp [Lin.at_, hr]
  have e2 : Lin.at_ mv j = x := by simp [Lin.at_, hx]
  rw [e1, e2, Int.add_comm]
theorem dotN_le {r mv : List Int} (hr : ∀ x ∈ r, -32 ≤ x ∧ x ≤ 32) (hm : ∀ x ∈ mv, -1048576 ≤ x ∧ x ≤ 1048576) : ∀ k : Nat, -(33554432 * (k : Int)) ≤ dotN r mv k ∧ dotN r mv k ≤ 33554432 * (k : Int)
  | 0 => by simp [dotN, sumN]
  | k + 1 => by
    have ih := dotN_le hr hm k
    have h1 := at_bound (by decide) hr k
    have h2 := at_bound (by decide) hm k
    have h3 := Lin.abs_mul_le h1 h2
    unfold dotN at ih ⊢
    simp only [sumN]
    omega
def lenF (mv : List Int) (r : List Int) : Int := dotN r mv r.length
def lenP (s : Sy) (mv : List Int) : List Int × Int := if validS s = true then (if mv.length = s.bs.length then (if mv.any farP = true then ([], 2) else ((trS s).map (lenF mv), 0)) else ([], 3)) else ([], 1)
abbrev ise (x : List Int × Int) : D := .tup [ints x.1, int x.2]
set_option maxHeartbeats 4000000 in
theorem lengths_prog (s : Sy) (hf : Fits s) (mv : List Int) (hl : mv.length ≤ 1000000) : PRet Tryz.prog 31 [syD s, ints mv] (ise (lenP s mv)) := by
  refine PRet.intro 1 fun t => ACall.enter tab_ok Tryz.func31 rfl rfl Tryz.ntmps31 (by simp) ?_
  simp only [enterTM]
  have hR := rows_prog s hf
  have hdb := bkC_div s.bs
  cases hv : validS s
  · rw [hv] at hR
    simp only [Bool.false_eq_true, if_false] at hR
    have e : lenP s mv = ([], 1) := by simp [lenP, hv]
    ((refine gga1 hR ?_))
    ((repeat refine AW_seq ?_))
    refine AW_block ?_
    ((refine gga0 ?_))
    ((repeat refine AW_seq ?_); (refine wta ?_); simp (disch := omega) only [retQ, resD, oneD, rsv, rs, rsL, rsL_eq_map, List.map_map, bb, bt, zDs, zD, eqCells, simprocAttr, Tryz.results31, e])
    rfl
  rw [hv] at hR
  simp only [if_true] at hR
  have ok := validS_ok hv
  by_cases hz : mv.length = s.bs.length
  rotate_left 1
  · have en : ((mv.length : Int) != (s.bs.length : Int)) = true := by simpa using fun e => hz (by omega)
    have e : lenP s mv = ([], 3) := by simp [lenP, hv, hz]
    ((refine gga1 hR ?_))
    ((repeat refine AW_seq ?_))
    refine AW_block ?_
    ((refine ggb0 (F := _∧_) ⟨hdb, en⟩ ?_))
    ((repeat refine AW_seq ?_); (refine wta ?_); simp (disch := omega) only [retQ, resD, oneD, rsv, rs, rsL, rsL_eq_map, List.map_map, bb, bt, zDs, zD, eqCells, simprocAttr, Tryz.results31, e])
    rfl
  have en : ((mv.length : Int) != (s.bs.length : Int)) = false := by simp [hz]
  have hC := containsFuncInts (mv.map int) 82 [] (fun d => farP d.num) (by simpa using hl) (fun x hx => by
    obtain ⟨n, _, rfl⟩ := List.mem_map.1 hx
    exact lengths1 n)
  rw [any_ints farP] at hC
  cases ha : mv.any farP
  rotate_left 1
  · rw [ha] at hC
    have e : lenP s mv = ([], 2) := by simp [lenP, hv, hz, ha]
    ((refine gga1 hR ?_))
    ((repeat refine AW_seq ?_))
    refine AW_block ?_
    ((refine ggb1 (F := _∧_) ⟨hdb, en⟩ hC ?_))
    ((repeat refine AW_seq ?_); (refine wta ?_); simp (disch := omega) only [retQ, resD, oneD, rsv, rs, rsL, rsL_eq_map, List.map_map, bb, bt, zDs, zD, eqCells, simprocAttr, Tryz.results31, e])
    rfl
  rw [ha] at hC
  have e : lenP s mv = ((trS s).map (lenF mv), 0) := by simp [lenP, hv, hz, ha]
  rw [e]
  obtain ⟨tv, tw⟩ := ok.tr_valid
  obtain ⟨m1, m2, m3⟩ := validP_iff.1 tv
  have hmb : ∀ x ∈ mv, -1048576 ≤ x ∧ x ≤ 1048576 := fun x hx => by
    have := List.any_eq_false.1 ha x hx
    unfold farP at this
    simp at this
    omega
  have b6 := ok.b6
  clear e hf
  generalize trS s = m at *
  ((refine gga1 hR ?_))
  ((repeat refine AW_seq ?_))
  refine AW_mid (fun x : Nat => ⟨[(1, ints mv), (6, mat m)], [], x⟩) (fun _ => True) ?_ ?_
  · refine AW_block ?_
    ((refine ggb1 (F := _∧_) ⟨hdb, en⟩ hC ?_))
    exact ⟨t + 1, trivial, by (simp (disch := omega) only [StLe, tmLe, hpLe_refl, hpLe, bl, bb, bt, zDs, zD, eqCells, simprocAttr])⟩
  rintro t0 -
  ((refine wqa ?_))
  ((refine wqa ?_))
  refine AW.begin 8 1 3 rfl (by decide) ?_
  simp only [putTM, List.length_cons, List.length_nil, Nat.reduceEqDiff, ↓reduceIte, List.cons_append, List.nil_append]
  refine AW_mid (fun x : Nat × Nat => ⟨[(8, .own 1 0 x.1 0 m.length)], [some ⟨3, x.1, (m.map (lenF mv)).map int⟩], x.2⟩) (fun _ => True) ?_ ?_
  · refine AW_block ?_
    refine AW_loop_w (fun x : Nat × Nat × Nat => ⟨[(1, ints mv), (8, .own 1 0 x.2.1 0 x.1), (33, mat m), (34, int m.length), (35, int x.1)], [some ⟨3, x.2.1, ((m.take x.1).map (lenF mv)).map int⟩], x.2.2⟩) (fun x => m.length - x.1) (fun x => x.1 ≤ m.length) (0, t0 + 1, t0 + 1) (Nat.zero_le _) (by (simp (disch := omega) only [StLe, tmLe, hpLe_refl, hpLe, bl, bb, bt, zDs, zD, eqCells, simprocAttr, List.take_zero, List.map_nil])) ?_
    rintro ⟨k, g, tt⟩ hk
    simp only at hk
    by_cases hlt : k < m.length
    · obtain ⟨r, hr⟩ : ∃ y, m[k]? = some y := ⟨_, List.getElem?_eq_getElem hlt⟩
      obtain ⟨r1, r2⟩ := m3 r (List.mem_of_getElem? hr)
      have hst : (m.take (k + 1)).map (lenF mv) = (m.take k).map (lenF mv) ++ [lenF mv r] := by rw [List.take_add_one, hr]; simp
      have hcl : ((m.take k).map (lenF mv)).length = k := by simp; omega
      ((refine ggb0 (F := _∧_) ⟨@Int.ofNat_lt, hlt⟩ ?_))
      ((repeat refine AW_seq ?_))
      refine AW_block ?_
      ((refine ggb0 (F := _∧_) ⟨hlt, hr⟩ ?_))
      ((repeat refine AW_seq ?_))
      refine AW_block ?_
      refine AW_loop_w (fun x : Nat => ⟨[(1, ints mv), (8, .own 1 0 g 0 k), (10, ints r), (11, int (dotN r mv x)), (33, mat m), (34, int m.length), (35, int k), (39, ints r), (40, int r.length), (41, int x)], [some ⟨3, g, ((m.take k).map (lenF mv)).map int⟩], tt⟩) (fun x => r.length - x) (fun x => x ≤ r.length) 0 (Nat.zero_le _) (by (simp (disch := omega) only [StLe, tmLe, hpLe_refl, hpLe, bl, bb, bt, zDs, zD, eqCells, simprocAttr, dotN, sumN])) ?_
      intro j hj
      by_cases hlj : j < r.length
      · obtain ⟨n, hn⟩ : ∃ y, r[j]? = some y := ⟨_, List.getElem?_eq_getElem hlj⟩
        have hjm : j < mv.length := by omega
        obtain ⟨x, hx⟩ : ∃ y, mv[j]? = some y := ⟨_, List.getElem?_eq_getElem hjm⟩
        have hdj := dotN_le r2 hmb j
        have hnx := Lin.abs_mul_le (A := 32) (B := 1048576) (r2 n (List.mem_of_getElem? hn)) (hmb x (List.mem_of_getElem? hx))
        have hds := dotN_step hn hx
        ((refine ggb0 (F := _∧_) ⟨@Int.ofNat_lt, hlj⟩ ?_))
        ((repeat refine AW_seq ?_))
        refine AW_block ?_
        ((refine ggb0 (F := _∧_∧_∧_) ⟨hlj, hn, hjm, hx⟩ ?_))
        refine ⟨j + 1, hlj, by omega, ?_⟩
        simp only [hds]
        (simp (disch := omega) only [StLe, tmLe, hpLe_refl, hpLe, bl, bb, bt, zDs, zD, eqCells, simprocAttr])
      · have hje : j = r.length := by omega
        subst hje
        ((refine ggb0 (F := _∧_) ⟨@Int.lt_irrefl, hcl⟩ ?_))
        refine ⟨(k + 1, tt + 1, tt + 1), hlt, by show m.length - (k + 1) < m.length - k; omega, ?_⟩
        simp only [hst, List.map_append, List.map_cons, List.map_nil, lenF]
        (simp (disch := omega) only [StLe, tmLe, hpLe_refl, hpLe, bl, bb, bt, zDs, zD, eqCells, simprocAttr])
    · have hke : k = m.length := by omega
      subst hke
      rw [List.take_length]
      ((refine wqb @Int.lt_irrefl ?_))
      ((refine wia ?_))
      ((refine wxa ?_))
      exact ⟨(g, tt), trivial, by (simp (disch := omega) only [StLe, tmLe, hpLe_refl, hpLe, bl, bb, bt, zDs, zD, eqCells, simprocAttr])⟩
  rintro ⟨g, tt⟩ -
  have hfin : List.take m.length ((m.map (lenF mv)).map int) = (m.map (lenF mv)).map int := List.take_of_length_le (by simp)
  ((refine AW.freeze (0) (by first | rfl | (simp only [setH, List.getElem?_cons_zero, List.getElem?_cons_succ, hfin, List.length_map, Nat.le_refl]; done)) ?_); simp (disch := omega) only [fzT, fz, fzL, fzL_ints, fzL_mat, fzH, fzB, eq_self, bb, bt, zDs, zD, eqCells, simprocAttr, hfin, List.length_map, Nat.le_refl])
  ((refine gga0 ?_))
  ((repeat refine AW_seq ?_); (refine wta ?_); simp (disch := omega) only [retQ, resD, oneD, bb, bt, zDs, zD, eqCells, simprocAttr, Tryz.results31])
  exact rsv_tidy _ _ (by simp only [tidyD, tidyL, tidy_ints, Bool.not_false, Bool.and_self])
end Go.Proofs.YtifmgjieplmbnaaGreat.T
end

section
namespace Go.Proofs.YtifmgjieplmbnaaGreat.T
open Go Go.RowKit Lin
set_option linter.unusedSimpArgs false

/-! Chapter 12: travel, free motions, checks. -/
theorem travel1 (b : Bk) (nm : ByteArray) : PRet Tryz.prog 63 [.agg (bk1 b), .rp [str nm] 0] (bool (decide (b.nm = nm))) := by
  refine PRet.intro 1 fun t => ACall.enter tab_ok Tryz.func63 rfl rfl Tryz.ntmps63 (by simp) ?_
  simp only [enterTM]
  ((refine gga0 ?_))
  ((repeat refine AW_seq ?_); (refine wta ?_); simp (disch := omega) only [retQ, resD, oneD, rsv, rs, rsL, rsL_eq_map, List.map_map, bb, bt, zDs, zD, eqCells, simprocAttr, Tryz.results63])
theorem travel2 (r : Rp) : PRet Tryz.prog 65 [.agg (rp1 r)] (bool r.hl) := by
  refine PRet.intro 1 fun t => ACall.enter tab_ok Tryz.func65 rfl rfl Tryz.ntmps65 (by simp) ?_
  simp only [enterTM]
  ((refine gga0 ?_))
  ((repeat refine AW_seq ?_); (refine wta ?_); simp (disch := omega) only [retQ, resD, oneD, rsv, rs, rsL, rsL_eq_map, List.map_map, bb, bt, zDs, zD, eqCells, simprocAttr, Tryz.results65])
def unitH (s : Sy) : List Int := (List.replicate s.rs.length 0).set (hix s).toNat 1
def travP (s : Sy) (nm : ByteArray) : (Int × Int) × Int :=
  if validS s = true then (if findB s.bs nm < 0 then ((0, 0), 9) else if hix s < 0 then ((0, 0), 11) else if (speedsP s (unitH s)).2 = 0 then divP (1, 1) ((speedsP s (unitH s)).1.getD (findB s.bs nm).toNat (0, 0)) else ((0, 0), (speedsP s (unitH s)).2)) else ((0, 0), 1)
theorem speedsP_full {s : Sy} {h : List Int} (h0 : (speedsP s h).2 = 0) : givH s h = 0 ∧ (speedsP s h).1.length = s.bs.length := by
  unfold speedsP at h0 ⊢
  by_cases hg : givH s h = 0
  · rw [if_pos hg] at h0 ⊢
    obtain ⟨hv, hz, hr⟩ := givH_zero hg
    have ok := validS_ok hv
    obtain ⟨tv, tw⟩ := ok.tr_valid
    obtain ⟨_, _, _, _, hl, _⟩ := solve_val tv (by rw [hz, ok.tr_len]) (rangedP_within hz hr) h0
    exact ⟨hg, by rw [hl, tw]⟩
  · rw [if_neg hg] at h0
    exact absurd h0 hg
theorem speedsP_le (s : Sy) (h : List Int) : (speedsP s h).1.length ≤ 1000 := by
  unfold speedsP
  split
  · rename_i hg
    exact solveP_le _ _ (validS_ok (givH_zero hg).1).tr_valid.1
  · simp
set_option maxHeartbeats 2000000 in
theorem travel_prog (s : Sy) (hf : Fits s) (nm : ByteArray) : PRet Tryz.prog 24 [syD s, str nm] (fe (travP s nm)) := by
  refine PRet.intro 1 fun t => ACall.enter tab_ok Tryz.func24 rfl rfl Tryz.ntmps24 (by simp) ?_
  simp only [enterTM]
  have hV := valid_prog s hf
  have hnb := hf.nb
  have hnr := hf.nr
  have hdr := rpC_div s.rs
  ((refine wqa ?_))
  ((refine AW.freeze (1) (by first | rfl | (simp only [setH, List.getElem?_cons_zero, List.getElem?_cons_succ, fz_bk, fz_rp]; done)) ?_); simp (disch := omega) only [fzT, fz, fzL, fzL_ints, fzL_mat, fzH, fzB, eq_self, bb, bt, zDs, zD, eqCells, simprocAttr, fz_bk, fz_rp])
  have hI := indexFuncBk s.bs 63 [.rp [str nm] 0] (fun b => decide (b.nm = nm)) hnb (fun x _ => travel1 x nm)
  have eI : idx (fun b : Bk => decide (b.nm = nm)) s.bs 0 = findB s.bs nm := rfl
  rw [eI] at hI
  have hH := indexFuncRp s.rs 65 [] (fun r => r.hl) hnr (fun x _ => travel2 x)
  have eH : idx (fun r : Rp => r.hl) s.rs 0 = hix s := rfl
  rw [eH] at hH
  cases hv : validS s
  · rw [hv] at hV
    have e : travP s nm = ((0, 0), 1) := by simp [travP, hv]
    ((refine gga1 hV ?_))
    ((repeat refine AW_seq ?_); (refine wta ?_); simp (disch := omega) only [retQ, resD, oneD, rsv, rs, rsL, rsL_eq_map, List.map_map, bb, bt, zDs, zD, eqCells, simprocAttr, Tryz.results24, e])
  rw [hv] at hV
  by_cases hb : findB s.bs nm < 0
  · have e : travP s nm = ((0, 0), 9) := by simp [travP, hv, hb]
    ((refine ggb2 hb hV hI ?_))
    ((repeat refine AW_seq ?_); (refine wta ?_); simp (disch := omega) only [retQ, resD, oneD, rsv, rs, rsL, rsL_eq_map, List.map_map, bb, bt, zDs, zD, eqCells, simprocAttr, Tryz.results24, e])
  obtain ⟨j, b, hj, hbj, _⟩ := findB_hit (show 0 ≤ findB s.bs nm by omega)
  by_cases hh : hix s < 0
  · have e : travP s nm = ((0, 0), 11) := by simp [travP, hv, hb, hh]
    ((refine ggb3 (F := _∧_) ⟨hb, hh⟩ hV hI hH ?_))
    ((repeat refine AW_seq ?_); (refine wta ?_); simp (disch := omega) only [retQ, resD, oneD, rsv, rs, rsL, rsL_eq_map, List.map_map, bb, bt, zDs, zD, eqCells, simprocAttr, Tryz.results24, e])
  obtain ⟨i, r, hi, hri, _⟩ := hix_hit hh
  have hir := (List.getElem?_eq_some_iff.1 hri).1
  have e : travP s nm = if (speedsP s (unitH s)).2 = 0 then divP (1, 1) ((speedsP s (unitH s)).1.getD j (0, 0)) else ((0, 0), (speedsP s (unitH s)).2) := by
    have : ¬ (j : Int) < 0 := by omega
    simp [travP, hv, hh, hj, this]
  have hu : ((List.replicate s.rs.length (0 : Int)).map int).set i (int 1) = (unitH s).map int := by
    unfold unitH
    rw [hi, Int.toNat_natCast, List.map_set]
  have hul : (unitH s).length = s.rs.length := by simp [unitH]
  have hS := speeds_prog s hf (unitH s) (by omega)
  have hfull := speedsP_full (s := s) (h := unitH s)
  have hle := speedsP_le s (unitH s)
  have hj0 : ¬ (j : Int) < 0 := by omega
  have hi0 : ¬ (i : Int) < 0 := by omega
  have hrl : (List.replicate s.rs.length (int 0)).length = s.rs.length := by simp
  rw [hj] at hI
  rw [hi] at hH
  have hbl := (List.getElem?_eq_some_iff.1 hbj).1
  generalize speedsP s (unitH s) = X at *
  have hrl2 : (List.replicate s.rs.length (0 : Int)).length = s.rs.length := by simp
  have hz0 := zerosI s.rs.length
  ((refine ggb2 (F := _∧_) ⟨hj0, hdr⟩ hV hI ?_))
  ((refine wka1 hH ?_))
  ((refine wra ?_)); ((refine wea ?_); (try clear hKR KR))
  ((refine wqb hi0 ?_))
  ((refine wib hi0 ?_))
  ((refine wsa ?_))
  ((refine wqb (F := _∧_) ⟨hdr, hz0⟩ ?_))
  ((refine wqb (F := _∧_∧_∧_) ⟨hz0, hu, hir, hrl2⟩ ?_))
  have hfin : List.take s.rs.length ((unitH s).map int) = (unitH s).map int := List.take_of_length_le (by simp [hul])
  ((refine AW.freeze (3) (by first | rfl | (simp only [setH, List.getElem?_cons_zero, List.getElem?_cons_succ, fz_bk, fz_rp, hfin, hul, List.length_map, Nat.le_refl]; done)) ?_); simp (disch := omega) only [fzT, fz, fzL, fzL_ints, fzL_mat, fzH, fzB, eq_self, bb, bt, zDs, zD, eqCells, simprocAttr, fz_bk, fz_rp, hfin, hul, List.length_map, Nat.le_refl])
  cases hx : (X.2 == 0)
  · have hx' : (X.2 != 0) = true := by simpa using hx
    rw [if_neg (by simpa using hx)] at e
    ((refine ggb1 hx' hS ?_))
    ((repeat refine AW_seq ?_); (refine wta ?_); simp (disch := omega) only [retQ, resD, oneD, rsv, rs, rsL, rsL_eq_map, List.map_map, bb, bt, zDs, zD, eqCells, simprocAttr, Tryz.results24, e])
  have hx' : (X.2 != 0) = false := by simpa using hx
  have hx0 : X.2 = 0 := by simpa using hx
  rw [if_pos hx0] at e
  obtain ⟨_, hXl⟩ := hfull hx0
  obtain ⟨f, hfj⟩ : ∃ y, X.1[j]? = some y := ⟨_, List.getElem?_eq_getElem (by omega)⟩
  rw [List.getD_eq_getElem?_getD, hfj, Option.getD_some] at e
  have hra := frC_read X.1 j f hfj
  have hfd := frC_div X.1
  have hjl : j < X.1.length := by omega
  have hD := rDiv (1, 1) f
  rw [← e] at hD
  generalize travP s nm = Y at *
  ((refine ggb2 (F := _∧_∧_∧_) ⟨hx', hfd, hjl, hra⟩ hS hD ?_))
  ((repeat refine AW_seq ?_); (refine wta ?_); simp (disch := omega) only [retQ, resD, oneD, rsv, rs, rsL, rsL_eq_map, List.map_map, bb, bt, zDs, zD, eqCells, simprocAttr, Tryz.results24])
def freeP (s : Sy) : List (List (Int × Int)) × Int := if validS s = true then nullP (trS s) else ([], 1)
theorem tidy_frss (l : List (List (Int × Int))) : tidyL (l.map frs) = true := tidyL_all fun d hd => by
  obtain ⟨x, _, rfl⟩ := List.mem_map.1 hd
  simp only [tidyD, tidy_fr, Bool.not_false, Bool.and_self]
theorem free_prog (s : Sy) (hf : Fits s) : PRet Tryz.prog 26 [syD s] (.tup [frss (freeP s).1, int (freeP s).2]) := by
  refine PRet.intro 1 fun t => ACall.enter tab_ok Tryz.func26 rfl rfl Tryz.ntmps26 (by simp) ?_
  simp only [enterTM]
  have hR := rows_prog s hf
  cases hv : validS s
  · rw [hv] at hR
    simp only [Bool.false_eq_true, if_false] at hR
    have e : freeP s = ([], 1) := by simp [freeP, hv]
    ((refine gga1 hR ?_))
    ((repeat refine AW_seq ?_); (refine wta ?_); simp (disch := omega) only [retQ, resD, oneD, rsv, rs, rsL, rsL_eq_map, List.map_map, bb, bt, zDs, zD, eqCells, simprocAttr, Tryz.results26, e])
    rfl
  rw [hv] at hR
  simp only [if_true] at hR
  have ok := validS_ok hv
  have e : freeP s = nullP (trS s) := by simp [freeP, hv]
  obtain ⟨f1, f2⟩ := ok.tr_fit
  have hN := null (trS s) f1 f2
  rw [← e] at hN
  generalize freeP s = X at *
  ((refine gga2 hR hN ?_))
  ((repeat refine AW_seq ?_); (refine wta ?_); simp (disch := omega) only [retQ, resD, oneD, bb, bt, zDs, zD, eqCells, simprocAttr, Tryz.results26])
  exact rsv_tidy _ _ (by simp only [tidyD, tidyL, tidy_frss, Bool.not_false, Bool.and_self])
theorem check12_1 (x : Int × Int) : PRet Tryz.prog 75 [frD x] (bool (!vfrac x.1 x.2)) := by
  refine PRet.intro 1 fun t => ACall.enter tab_ok Tryz.func75 rfl rfl Tryz.ntmps75 (by simp) ?_
  simp only [enterTM]
  have hc := rValid x.1 x.2
  ((refine gga1 hc ?_))
  ((repeat refine AW_seq ?_); (refine wta ?_); simp (disch := omega) only [retQ, resD, oneD, rsv, rs, rsL, rsL_eq_map, List.map_map, bb, bt, zDs, zD, eqCells, simprocAttr, Tryz.results75])
def goP (x : (Int × Int) × Int) : Bool := (x.1.1 == x.2) && (x.1.2 == 1)
def chkM (s : Sy) (h : List Int) (v : List (Int × Int)) : Bool × Int :=
  if validS s = true ∧ allV v = true then (if h.length = s.rs.length ∧ v.length = s.bs.length then (if rangedP s.rs h = true then (if (prodP (trS s) v).2 = 0 then (((prodP (trS s) v).1.zip h).all goP, 0) else (false, (prodP (trS s) v).2)) else (false, 2)) else (false, 3)) else (false, 1)
theorem prodA_full (x : List (Int × Int)) : ∀ (m : List (List Int)) (acc : List (Int × Int)), (prodA x acc m).2 = 0 → (prodA x acc m).1.length = acc.length + m.length
  | [], acc, _ => by simp [prodA]
  | r :: m, acc, h => by
    simp only [prodA] at h ⊢
    split at h
    · rename_i h1
      rw [if_pos h1, prodA_full x m _ h]
      simp
      omega
    · rename_i h1
      exact absurd h h1
theorem zip_atF {y : List (Int × Int)} {h : List Int} {k : Nat} {f : Int × Int} {n : Int} (hr : y[k]? = some f) (hn : h[k]? = some n) : (y.zip h)[k]? = some (f, n) := by
  rw [List.getElem?_zip_eq_some]
  exact ⟨hr, hn⟩
set_option maxHeartbeats 4000000 in
theorem check12 (s : Sy) (hf : Fits s) (h : List Int) (hl : h.length ≤ 1000000) (v : List (Int × Int)) (hvl : v.length ≤ 1000000) : PRet Tryz.prog 29 [syD s, ints h, frs v] (.tup [bool (chkM s h v).1, int (chkM s h v).2]) := by
  refine PRet.intro 1 fun t => ACall.enter tab_ok Tryz.func29 rfl rfl Tryz.ntmps29 (by simp) ?_
  simp only [enterTM]
  have hR := rows_prog s hf
  have hdr := rpC_div s.rs
  have hdb := bkC_div s.bs
  have hvd := frC_div v
  have hC := containsFuncFr v 75 [] (fun x => !vfrac x.1 x.2) hvl (fun x _ => check12_1 x)
  rw [allV_any] at hC
  cases hv : validS s
  · rw [hv] at hR
    simp only [Bool.false_eq_true, if_false] at hR
    have e : chkM s h v = (false, 1) := by simp [chkM, hv]
    ((refine gga1 hR ?_))
    ((repeat refine AW_seq ?_))
    refine AW_block ?_
    ((refine gga0 ?_))
    ((repeat refine AW_seq ?_); (refine wta ?_); simp (disch := omega) only [retQ, resD, oneD, rsv, rs, rsL, rsL_eq_map, List.map_map, bb, bt, zDs, zD, eqCells, simprocAttr, Tryz.results29, e])
  rw [hv] at hR
  simp only [if_true] at hR
  have ok := validS_ok hv
  cases ha : allV v
  · rw [ha] at hC
    have e : chkM s h v = (false, 1) := by simp [chkM, ha]
    ((refine gga1 hR ?_))
    ((repeat refine AW_seq ?_))
    refine AW_block ?_
    ((refine gga1 hC ?_))
    ((repeat refine AW_seq ?_); (refine wta ?_); simp (disch := omega) only [retQ, resD, oneD, rsv, rs, rsL, rsL_eq_map, List.map_map, bb, bt, zDs, zD, eqCells, simprocAttr, Tryz.results29, e])
  rw [ha] at hC
  by_cases hz : h.length = s.rs.length
  rotate_left 1
  · have en : ((h.length : Int) != (s.rs.length : Int)) = true := by simpa using fun e => hz (by omega)
    have e : chkM s h v = (false, 3) := by simp [chkM, hv, ha, hz]
    ((refine gga1 hR ?_))
    ((repeat refine AW_seq ?_))
    refine AW_block ?_
    ((refine ggb1 (F := _∧_) ⟨hdr, en⟩ hC ?_))
    ((repeat refine AW_seq ?_); (refine wta ?_); simp (disch := omega) only [retQ, resD, oneD, rsv, rs, rsL, rsL_eq_map, List.map_map, bb, bt, zDs, zD, eqCells, simprocAttr, Tryz.results29, e])
  have en : ((h.length : Int) != (s.rs.length : Int)) = false := by simp [hz]
  by_cases hzb : v.length = s.bs.length
  rotate_left 1
  · have en2 : ((v.length : Int) != (s.bs.length : Int)) = true := by simpa using fun e => hzb (by omega)
    have e : chkM s h v = (false, 3) := by simp [chkM, hv, ha, hzb]
    ((refine gga1 hR ?_))
    ((repeat refine AW_seq ?_))
    refine AW_block ?_
    ((refine ggb1 (F := _∧_∧_∧_∧_) ⟨hdr, en, hvd, hdb, en2⟩ hC ?_))
    ((repeat refine AW_seq ?_); (refine wta ?_); simp (disch := omega) only [retQ, resD, oneD, rsv, rs, rsL, rsL_eq_map, List.map_map, bb, bt, zDs, zD, eqCells, simprocAttr, Tryz.results29, e])
  have en2 : ((v.length : Int) != (s.bs.length : Int)) = false := by simp [hzb]
  have hA := ranged_prog s hf h hz
  cases hr : rangedP s.rs h
  · rw [hr] at hA
    have e : chkM s h v = (false, 2) := by simp [chkM, hv, ha, hz, hzb, hr]
    ((refine gga1 hR ?_))
    ((repeat refine AW_seq ?_))
    refine AW_block ?_
    ((refine ggb2 (F := _∧_∧_∧_∧_) ⟨hdr, en, hvd, hdb, en2⟩ hC hA ?_))
    ((repeat refine AW_seq ?_); (refine wta ?_); simp (disch := omega) only [retQ, resD, oneD, rsv, rs, rsL, rsL_eq_map, List.map_map, bb, bt, zDs, zD, eqCells, simprocAttr, Tryz.results29, e])
  rw [hr] at hA
  have e : chkM s h v = if (prodP (trS s) v).2 = 0 then (((prodP (trS s) v).1.zip h).all goP, 0) else (false, (prodP (trS s) v).2) := by simp [chkM, hv, ha, hz, hzb, hr]
  obtain ⟨f1, f2⟩ := ok.tr_fit
  obtain ⟨tv, tw⟩ := ok.tr_valid
  have tl := ok.tr_len
  have hP := rProduct (trS s) v f1 f2 hvl
  have hyl : (prodP (trS s) v).2 = 0 → (prodP (trS s) v).1.length = h.length := fun h0 => by
    have ep : prodP (trS s) v = prodA v [] (trS s) := by unfold prodP; rw [if_pos ⟨tv, ha⟩, if_pos (by rw [tw]; exact hzb)]
    rw [ep] at h0 ⊢
    rw [prodA_full _ _ _ h0]
    simp
    omega
  generalize prodP (trS s) v = Y at *
  rw [e]
  clear e
  ((refine gga1 hR ?_))
  ((repeat refine AW_seq ?_))
  refine AW_mid (fun x : Nat => ⟨[(1, ints h), (2, frs v), (8, mat (trS s))], [], x⟩) (fun _ => True) ?_ ?_
  · refine AW_block ?_
    ((refine ggb2 (F := _∧_∧_∧_∧_) ⟨hdr, en, hvd, hdb, en2⟩ hC hA ?_))
    exact ⟨t + 1, trivial, by (simp (disch := omega) only [StLe, tmLe, hpLe_refl, hpLe, bl, bb, bt, zDs, zD, eqCells, simprocAttr])⟩
  rintro t0 -
  cases hy : (Y.2 == 0)
  · have hy' : (Y.2 != 0) = true := by simpa using hy
    rw [if_neg (by simpa using hy)]
    ((refine ggb1 hy' hP ?_))
    ((repeat refine AW_seq ?_); (refine wta ?_); simp (disch := omega) only [retQ, resD, oneD, rsv, rs, rsL, rsL_eq_map, List.map_map, bb, bt, zDs, zD, eqCells, simprocAttr, Tryz.results29])
  have hy' : (Y.2 != 0) = false := by simpa using hy
  rw [if_pos (by simpa using hy)]
  have hyl := hyl (by simpa using hy)
  have hyd := frC_div Y.1
  have hzl : (Y.1.zip h).length = h.length := by simp [List.length_zip]; omega
  ((refine ggb1 (F := _∧_) ⟨hy', hyd⟩ hP ?_))
  ((repeat refine AW_seq ?_))
  refine AW_block ?_
  refine AW_loop_w (fun x : Nat × Nat => ⟨[(1, ints h), (54, frs Y.1), (55, int Y.1.length), (56, int x.1)], [], x.2⟩) (fun x => Y.1.length - x.1) (fun x => x.1 ≤ Y.1.length ∧ ((Y.1.zip h).take x.1).all goP = true) (0, t0) ⟨Nat.zero_le _, rfl⟩ (by (simp (disch := omega) only [StLe, tmLe, hpLe_refl, hpLe, bl, bb, bt, zDs, zD, eqCells, simprocAttr])) ?_
  rintro ⟨k, tt⟩ ⟨hk, hi⟩
  simp only at hk hi
  by_cases hlt : k < Y.1.length
  · obtain ⟨f, hfk⟩ : ∃ y, Y.1[k]? = some y := ⟨_, List.getElem?_eq_getElem hlt⟩
    obtain ⟨n, hn⟩ : ∃ y, h[k]? = some y := ⟨_, List.getElem?_eq_getElem (by omega)⟩
    have hkh : k < h.length := by omega
    have hra := frC_read Y.1 k f hfk
    have hzk := zip_atF hfk hn
    have hst := all_take (p := goP) hzk
    rw [hi, Bool.true_and] at hst
    cases g1 : (f.1 == n)
    · have ho : (Y.1.zip h).all goP = false := all_miss hzk (by simp [goP, g1])
      ((refine ggb0 (F := _∧_) ⟨@Int.ofNat_lt, hlt⟩ ?_))
      ((repeat refine AW_seq ?_))
      refine AW_block ?_
      ((refine ggb0 (F := _∧_∧_) ⟨hyd, hlt, hra⟩ ?_))
      ((repeat refine AW_seq ?_); (refine gdzb (F := _∧_∧_) ⟨hkh, hn, g1⟩ ?_))
      ((refine gga0 ?_))
      ((repeat refine AW_seq ?_); (refine wta ?_); simp (disch := omega) only [retQ, resD, oneD, rsv, rs, rsL, rsL_eq_map, List.map_map, bb, bt, zDs, zD, eqCells, simprocAttr, Tryz.results29, ho])
    cases g2 : (f.2 == 1)
    · have ho : (Y.1.zip h).all goP = false := all_miss hzk (by simp [goP, g2])
      ((refine ggb0 (F := _∧_) ⟨@Int.ofNat_lt, hlt⟩ ?_))
      ((repeat refine AW_seq ?_))
      refine AW_block ?_
      ((refine ggb0 (F := _∧_∧_) ⟨hyd, hlt, hra⟩ ?_))
      ((repeat refine AW_seq ?_); (refine gdzb (F := _∧_∧_∧_) ⟨hkh, hn, g1, g2⟩ ?_))
      ((refine gga0 ?_))
      ((repeat refine AW_seq ?_); (refine wta ?_); simp (disch := omega) only [retQ, resD, oneD, rsv, rs, rsL, rsL_eq_map, List.map_map, bb, bt, zDs, zD, eqCells, simprocAttr, Tryz.results29, ho])
    ((refine ggb0 (F := _∧_) ⟨@Int.ofNat_lt, hlt⟩ ?_))
    ((repeat refine AW_seq ?_))
    refine AW_block ?_
    ((refine ggb0 (F := _∧_∧_) ⟨hyd, hlt, hra⟩ ?_))
    ((repeat refine AW_seq ?_); (refine gdzb (F := _∧_∧_∧_) ⟨hkh, hn, g1, g2⟩ ?_))
    ((refine gga0 ?_))
    refine ⟨(k + 1, tt + 1 + 1), ⟨hlt, by rw [hst]; simp [goP, g1, g2]⟩, by show Y.1.length - (k + 1) < Y.1.length - k; omega, ?_⟩
    (simp (disch := omega) only [StLe, tmLe, hpLe_refl, hpLe, bl, bb, bt, zDs, zD, eqCells, simprocAttr])
  · have hke : k = Y.1.length := by omega
    subst hke
    have ho : (Y.1.zip h).all goP = true := by
      rw [List.take_of_length_le (by omega)] at hi
      exact hi
    ((refine ggb0 @Int.lt_irrefl ?_))
    ((repeat refine AW_seq ?_); (refine wta ?_); simp (disch := omega) only [retQ, resD, oneD, rsv, rs, rsL, rsL_eq_map, List.map_map, bb, bt, zDs, zD, eqCells, simprocAttr, Tryz.results29, ho])
end Go.Proofs.YtifmgjieplmbnaaGreat.T
end

section
namespace Go.Proofs.YtifmgjieplmbnaaGreat.T
open Go Go.RowKit Lin
set_option linter.unusedSimpArgs false

/-! Chapter 12: the example. -/
theorem of12 (n : Int) : PRet Tryz.prog 58 [int n] (frD (n, 1)) := by
  refine PRet.intro 1 fun t => ACall.enter tab_ok Tryz.func58 rfl rfl Tryz.ntmps58 (by simp) ?_
  simp only [enterTM]
  ((refine gga0 ?_))
  ((repeat refine AW_seq ?_); (refine wta ?_); simp (disch := omega) only [retQ, resD, oneD, rsv, rs, rsL, rsL_eq_map, List.map_map, bb, bt, zDs, zD, eqCells, simprocAttr, Tryz.results58])
def ex12 : Sy := ⟨[⟨hB, 300⟩], [⟨hR, [⟨hE, 0, 1, 1⟩, ⟨hB, 2, 1, 1⟩, ⟨hE, 0, 1, 1⟩, ⟨hB, 2, 1, 1⟩, ⟨hE, 0, 1, 1⟩], true⟩]⟩
theorem example12 : PRet Tryz.prog 57 [] (syD ex12) := by
  refine PRet.intro 3 fun t => ACall.enter tab_ok Tryz.func57 rfl rfl Tryz.ntmps57 (by simp) ?_
  simp only [enterTM]
  have hw := of12 1
  ((refine gga1 hw ?_))
  ((repeat refine AW_seq ?_); (refine wta ?_); simp (disch := omega) only [retQ, resD, oneD, rsv, rs, rsL, rsL_eq_map, List.map_map, bb, bt, zDs, zD, eqCells, simprocAttr, Tryz.results57])
  rfl
theorem ex12_fits : Fits ex12 := small_fits (by decide +kernel)
theorem ex12_speeds : speedsP ex12 [1] = ([(1, 4)], 0) := by decide +kernel
theorem ex12_travel : travP ex12 hB = ((4, 1), 0) := by decide +kernel
theorem ex12_lengths : lenP ex12 [100] = ([400], 0) := by decide +kernel
set_option maxHeartbeats 1000000 in
theorem awake12 : PRet Tryz.prog 22 [] (bool true) := by
  refine PRet.intro 1 fun t => ACall.enter tab_ok Tryz.func22 rfl rfl Tryz.ntmps22 (by simp) ?_
  simp only [enterTM]
  have hS : PRet Tryz.prog 56 [syD ex12, .sl 1 [int 1] false] (fse ([(1, 4)], 0)) := by
    have := speeds_prog ex12 ex12_fits [1] (by simp)
    rw [ex12_speeds] at this
    exact this
  have hT : PRet Tryz.prog 24 [syD ex12, .v (.string ⟨#[98]⟩)] (fe ((4, 1), 0)) := by
    have := travel_prog ex12 ex12_fits hB
    rw [ex12_travel] at this
    exact this
  have hL : PRet Tryz.prog 31 [syD ex12, .sl 1 [int 100] false] (ise ([400], 0)) := by
    have := lengths_prog ex12 ex12_fits [100] (by simp)
    rw [ex12_lengths] at this
    exact this
  have w4 := of12 4
  have hE : PRet Tryz.prog 15 [frs [(1, 4)], .sl 2 [int 1, int 4] false] (bool true) := equalFr [(1, 4)] [(1, 4)] (by simp) (by simp)
  have hI : PRet Tryz.prog 33 [.sl 1 [int 400] false, .sl 1 [int 400] false] (bool true) := equalInts [400] [400] (by simp) (by simp)
  ((refine gga4_MJ example12 hS hT hL ?_))
  ((repeat refine AW_seq ?_); (refine gdza3_MJ w4 hE hI ?_))
  ((repeat refine AW_seq ?_); (refine wta ?_); simp (disch := omega) only [retQ, resD, oneD, rsv, rs, rsL, rsL_eq_map, List.map_map, bb, bt, zDs, zD, eqCells, simprocAttr, Tryz.results22])
theorem long12_1 (n : Int) : PRet Tryz.prog 60 [int n] (bool (decide (20 < n))) := by
  refine PRet.intro 1 fun t => ACall.enter tab_ok Tryz.func60 rfl rfl Tryz.ntmps60 (by simp) ?_
  simp only [enterTM]
  ((refine gga0 ?_))
  ((repeat refine AW_seq ?_); (refine wta ?_); simp (disch := omega) only [retQ, resD, oneD, rsv, rs, rsL, rsL_eq_map, List.map_map, bb, bt, zDs, zD, eqCells, simprocAttr, Tryz.results60])
def longL (s : Sy) (l : List Int) : Bool := !smallS s || l.any fun n => decide (20 < n)
theorem long12 (s : Sy) (l : List Int) (hl : l.length ≤ 1000000) : PRet Tryz.prog 23 [syD s, ints l] (bool (longL s l)) := by
  refine PRet.intro 1 fun t => ACall.enter tab_ok Tryz.func23 rfl rfl Tryz.ntmps23 (by simp) ?_
  simp only [enterTM]
  have hS := small_ref s
  have hC := containsFuncInts (l.map int) 60 [] (fun d => decide (20 < d.num)) (by simpa using hl) (fun x hx => by
    obtain ⟨n, _, rfl⟩ := List.mem_map.1 hx
    exact long12_1 n)
  rw [any_ints fun n => decide (20 < n)] at hC
  cases hs : smallS s
  · rw [hs] at hS
    have e : longL s l = true := by simp [longL, hs]
    ((refine gga1 hS ?_))
    ((repeat refine AW_seq ?_); (refine wta ?_); simp (disch := omega) only [retQ, resD, oneD, rsv, rs, rsL, rsL_eq_map, List.map_map, bb, bt, zDs, zD, eqCells, simprocAttr, Tryz.results23, e])
  · rw [hs] at hS
    have e : longL s l = l.any fun n => decide (20 < n) := by simp [longL, hs]
    rw [← e] at hC
    ((refine gga2 hS hC ?_))
    ((repeat refine AW_seq ?_); (refine wta ?_); simp (disch := omega) only [retQ, resD, oneD, rsv, rs, rsL, rsL_eq_map, List.map_map, bb, bt, zDs, zD, eqCells, simprocAttr, Tryz.results23])
theorem longL_false {s : Sy} {l : List Int} (h : longL s l = false) : smallS s = true ∧ ∀ n ∈ l, n ≤ 20 := by
  unfold longL at h
  rw [Bool.or_eq_false_iff] at h
  refine ⟨by simpa using h.1, fun n hn => ?_⟩
  have := List.any_eq_false.1 h.2 n hn
  simpa using this
end Go.Proofs.YtifmgjieplmbnaaGreat.T
end
