import Derived.Test.YtjjpjgnoanfaoaaGreatQGR
import Derived.Test.YtjjpjgnoanfaoaaGreatQMRN
import Derived.Test.YtjjpjgnoanfaoaaGreatQMQX
import Derived.Test.YtjjpjgnoanfaoaaGreatTJ
import Derived.Test.YtjjpjgnoanfaoaaGreatWA
import Derived.Test.YtjjpjgnoanfaoaaGreatWJK
import Derived.Test.YtjjpjgnoanfaoaaGreatSG
import Derived.Test.YtjjpjgnoanfaoaaGreatRows
import Derived.Lib.SmallJoins
import Derived.ProofKit
set_option linter.all false
namespace Go.Proofs.YtjjpjgnoanfaoaaGreat.T
open Go Go.RowKit Lin
theorem gdzb6_GRS {F C1 C2 C3 C4 C5 C6 P Q : Prop} (f : F) (c1 : C1) (c2 : C2) (c3 : C3) (c4 : C4) (c5 : C5) (c6 : C6) (q : Q) (h : F → C1 → C2 → C3 → C4 → C5 → C6 → Q → P := by
  intro ff cc1 cc2 cc3 cc4 cc5 cc6 hq
  (try with_reducible intro KR hKR)
  (repeat refine AW_seq ?_); (repeat refine AW_seq ?_); (refine AW_drawn_k tab_ok follows_mixed 0 fun KR hKR => ?_); simp only [List.replicate_succ, List.replicate_zero, List.append_nil, List.nil_append, List.cons_append, List.length_cons, List.length_nil, Nat.reduceAdd]; (repeat' ((first | refine awD_n rfl fun KK hKK => ?_ | refine awD_g rfl rfl fun KK hKK => ?_ | refine awD_gc rfl fun KK hKK => ?_ | refine awD_nc fun KK hKK => ?_); simp (disch := omega) only [bb, bt, zDs, zD, eqCells, simprocAttr, ff, bne_self_eq_false, Int.reduceBNe, Int.reduceBEq, Bool.bne_false, Bool.bne_true, Bool.false_bne, Bool.true_bne, goCDS, callDS_fn, argsZ, argsD, ufa, uf]; (try ((first | with_reducible refine PGive.ret (cc1) ?_ | with_reducible refine PGive.ret (cc2) ?_ | with_reducible refine PGive.ret (cc3) ?_ | with_reducible refine PGive.ret (cc4) ?_ | with_reducible refine PGive.ret (cc5) ?_ | with_reducible refine PGive.ret (cc6) ?_); simp (disch := omega) only [bb, bt, zDs, zD, eqCells, simprocAttr, afterDS, ff, bne_self_eq_false, Int.reduceBNe, Int.reduceBEq, Bool.bne_false, Bool.bne_true, Bool.false_bne, Bool.true_bne])); refine hKK _ _ _ ?_; clear hKK KK)); (refine awD_nil ?_); simp only [List.reverse_cons, List.reverse_nil, List.nil_append, List.cons_append]; (refine hKR _ _ (by first | rfl | kernel_rfl) ?_); (try clear hKR KR); (repeat (with_reducible first | refine q1 ?_ | refine q2 ?_ | refine q3 ?_ | refine q4 ?_ | refine q5 ?_ | refine q6 ?_ | (refine q7 ?_ ?_; (focus (with_unfolding_all rfl)))))
  (first | exact hq | (revert hKR; revert KR; exact hq))) : P := h f c1 c2 c3 c4 c5 c6 q
set_option linter.unusedSimpArgs false

/-! Chapter 16: the reference's jammed blocks, redundant ropes, witnesses. -/
theorem any_step {α : Type} (p : α → Bool) {l : List α} {k : Nat} {x : α} (h : l[k]? = some x) : (l.take (k + 1)).any p = ((l.take k).any p || p x) := by
  rw [List.take_add_one, h, Option.toList_some, List.any_append]
  simp
theorem bkC_oneN {l : List Bk} {i : Nat} {b : Bk} (h : l[i]? = some b) : ((bkC l).drop (i * 2)).take 1 = [str b.nm] := by
  have := bkC_name l i b h
  obtain ⟨h1, h2⟩ := List.getElem?_eq_some_iff.1 this
  rw [List.drop_eq_getElem_cons h1, h2]
  rfl
set_option maxHeartbeats 4000000 in
theorem jammed_ref (s : Sy) (hv : validS s = true) : PRet Tryz.prog 24 [syD s] (strsD (jamN s.bs (modesP s).1 s.bs.length)) := by
  refine PRet.intro 1 fun t => ACall.enter tab_ok Tryz.func24 rfl rfl Tryz.ntmps24 (by simp) ?_
  simp only [enterTM]
  have hM := modes_ref s hv
  have hdb := bkC_div s.bs
  have hb6 := (validS_ok hv).b6
  obtain ⟨ml, mn, _⟩ := modesP_facts s
  generalize (modesP s).1 = L at *
  ((refine gga1 hM ?_))
  refine AW.begin 4 1 9 rfl (by decide) ?_
  simp only [putTM, List.length_cons, List.length_nil, Nat.reduceEqDiff, ↓reduceIte, List.cons_append, List.nil_append]
  refine AW_mid (fun x : Nat × Nat => ⟨[(4, .own 1 1 x.1 0 (jamN s.bs L s.bs.length).length)], [none, some ⟨9, x.1, (jamN s.bs L s.bs.length).map str⟩], x.2⟩) (fun _ => True) ?_ ?_
  · refine AW_block ?_
    refine AW_loop_w (fun x : Nat × Nat × Nat => ⟨[(1, .ptr 0 (t + 1) 0), (3, frss L), (4, .own 1 1 x.2.1 0 (jamN s.bs L x.1).length), (5, int x.1)], [some ⟨25, t + 1, [bks s.bs, rps s.rs]⟩, some ⟨9, x.2.1, (jamN s.bs L x.1).map str⟩], x.2.2⟩) (fun x => s.bs.length - x.1) (fun x => x.1 ≤ s.bs.length) (0, t + 1 + 1, t + 1 + 1) (Nat.zero_le _) (by (simp (disch := omega) only [StLe, tmLe, hpLe_refl, hpLe, bl, bb, bt, zDs, zD, eqCells, simprocAttr, jamN, List.range_zero, List.filter_nil, List.map_nil, List.length_nil])) ?_
    rintro ⟨k, g, tt⟩ hk
    simp only at hk
    by_cases hlt : k < s.bs.length
    · obtain ⟨b, hb⟩ : ∃ y, s.bs[k]? = some y := ⟨_, List.getElem?_eq_getElem hlt⟩
      have hra := bkC_read s.bs k b hb
      have hrn := bkC_name s.bs k b hb
      have hr1 := bkC_oneN hb
      have hst := jamN_step (L := L) hb
      have hjl := jamN_len s.bs L k
      generalize jamN s.bs L k = J at *
      ((refine ggb0 (F := _∧_∧_) ⟨@Int.ofNat_lt, hlt, hdb⟩ ?_))
      ((repeat refine AW_seq ?_))
      refine AW_block ?_
      ((refine gga0 ?_))
      refine AW_mid (fun x : Nat => ⟨[(1, .ptr 0 (t + 1) 0), (3, frss L), (4, .own 1 1 g 0 J.length), (5, int k), (6, bool (L.any (movB k)))], [some ⟨25, t + 1, [bks s.bs, rps s.rs]⟩, some ⟨9, g, J.map str⟩], x⟩) (fun _ => True) ?_ ?_
      · refine AW_block ?_
        refine AW_loop_w (fun x : Nat × Nat => ⟨[(1, .ptr 0 (t + 1) 0), (3, frss L), (4, .own 1 1 g 0 J.length), (5, int k), (6, bool ((L.take x.1).any (movB k))), (7, int x.1)], [some ⟨25, t + 1, [bks s.bs, rps s.rs]⟩, some ⟨9, g, J.map str⟩], x.2⟩) (fun x => L.length - x.1) (fun x => x.1 ≤ L.length) (0, tt) (Nat.zero_le _) (by (simp (disch := omega) only [StLe, tmLe, hpLe_refl, hpLe, bl, bb, bt, zDs, zD, eqCells, simprocAttr, List.take_zero, List.any_nil])) ?_
        rintro ⟨j, t2⟩ hj
        simp only at hj
        by_cases hjn : j < L.length
        · obtain ⟨v, hvj⟩ : ∃ y, L[j]? = some y := ⟨_, List.getElem?_eq_getElem hjn⟩
          have hvl := ml v (List.mem_of_getElem? hvj)
          have hkv : k < v.length := by omega
          obtain ⟨f, hf⟩ : ∃ y, v[k]? = some y := ⟨_, List.getElem?_eq_getElem hkv⟩
          have hfr := frC_read v k f hf
          have hfo := frC_one hf
          have hfg := frC_get v k f hf
          have hfd := frC_div v
          have hmv : movB k v = (f.1 != 0) := by unfold movB; rw [List.getD_eq_getElem?_getD, hf]; rfl
          have hsa := any_step (movB k) hvj
          rw [hmv] at hsa
          cases hA : (L.take j).any (movB k)
          · rw [hA, Bool.false_or] at hsa
            ((refine ggb0 (F := _∧_) ⟨@Int.ofNat_lt, hjn⟩ ?_))
            ((repeat refine AW_seq ?_))
            refine AW_block ?_
            ((refine ggb0 (F := _∧_∧_∧_∧_∧_∧_) ⟨hjn, hvj, hkv, hfd, hfr, hfo, hfg⟩ ?_))
            refine ⟨(j + 1, t2), hjn, by show L.length - (j + 1) < L.length - j; omega, ?_⟩
            simp only [hsa]
            (simp (disch := omega) only [StLe, tmLe, hpLe_refl, hpLe, bl, bb, bt, zDs, zD, eqCells, simprocAttr])
          · rw [hA, Bool.true_or] at hsa
            ((refine ggb0 (F := _∧_) ⟨@Int.ofNat_lt, hjn⟩ ?_))
            ((repeat refine AW_seq ?_))
            refine AW_block ?_
            ((refine ggb0 (F := _∧_∧_∧_∧_∧_∧_) ⟨hjn, hvj, hkv, hfd, hfr, hfo, hfg⟩ ?_))
            refine ⟨(j + 1, t2), hjn, by show L.length - (j + 1) < L.length - j; omega, ?_⟩
            simp only [hsa]
            (simp (disch := omega) only [StLe, tmLe, hpLe_refl, hpLe, bl, bb, bt, zDs, zD, eqCells, simprocAttr])
        · have hje : j = L.length := by omega
          subst hje
          rw [List.take_length]
          ((refine wqb @Int.lt_irrefl ?_))
          ((refine wia ?_))
          ((refine wxa ?_))
          exact ⟨t2, trivial, by (simp (disch := omega) only [StLe, tmLe, hpLe_refl, hpLe, bl, bb, bt, zDs, zD, eqCells, simprocAttr])⟩
      rintro t2 -
      cases hA : L.any (movB k)
      · rw [hA, if_neg (by decide)] at hst
        ((refine ggb0 (F := _∧_∧_∧_∧_) ⟨hlt, hdb, hra, hrn, hr1⟩ ?_))
        refine ⟨(k + 1, t2 + 1, t2 + 1), hlt, by show s.bs.length - (k + 1) < s.bs.length - k; omega, ?_⟩
        simp only [hst, List.length_append, List.length_cons, List.length_nil, List.map_append, List.map_cons, List.map_nil]
        (simp (disch := omega) only [StLe, tmLe, hpLe_refl, hpLe, bl, bb, bt, zDs, zD, eqCells, simprocAttr])
      · rw [hA, if_pos rfl] at hst
        ((refine ggb0 (F := _∧_∧_) ⟨hlt, hdb, hra⟩ ?_))
        refine ⟨(k + 1, g, t2), hlt, by show s.bs.length - (k + 1) < s.bs.length - k; omega, ?_⟩
        simp only [hst]
        (simp (disch := omega) only [StLe, tmLe, hpLe_refl, hpLe, bl, bb, bt, zDs, zD, eqCells, simprocAttr])
    · have hke : k = s.bs.length := by omega
      subst hke
      ((refine wqb (F := _∧_) ⟨@Int.lt_irrefl, hdb⟩ ?_))
      ((refine wia ?_))
      ((refine wxa ?_))
      exact ⟨(g, tt), trivial, by (simp (disch := omega) only [StLe, tmLe, hpLe_refl, hpLe, bl, bb, bt, zDs, zD, eqCells, simprocAttr])⟩
  rintro ⟨g, tt⟩ -
  generalize jamN s.bs L s.bs.length = J at *
  have hfin : List.take J.length (J.map str) = J.map str := List.take_of_length_le (by simp)
  ((refine AW.freeze (1) (by first | rfl | (simp only [setH, List.getElem?_cons_zero, List.getElem?_cons_succ, hfin, fzS_str, List.length_map, Nat.le_refl]; done)) ?_); simp (disch := omega) only [fzT, fz, fzL, fzL_ints, fzL_mat, fzH, fzB, eq_self, bb, bt, zDs, zD, eqCells, simprocAttr, hfin, fzS_str, List.length_map, Nat.le_refl])
  ((refine gga0 ?_))
  ((repeat refine AW_seq ?_); (refine wta ?_); simp (disch := omega) only [retQ, resD, oneD, bb, bt, zDs, zD, eqCells, simprocAttr, Tryz.results24])
  exact rsv_tidy _ _ (by simp only [tidyD, tidy_strs, Bool.not_false, Bool.and_self])
theorem erase_filter {i : Nat} : ∀ {L : List Nat}, L.Nodup → ∀ k, L[k]? = some i → L.eraseIdx k = L.filter fun j => !(j == i)
  | [], _, k, h => by simp at h
  | a :: l, hn, k, h => by
    rw [List.nodup_cons] at hn
    cases k with
    | zero =>
      simp only [List.getElem?_cons_zero, Option.some.injEq] at h
      subst h
      rw [List.eraseIdx_cons_zero, List.filter_cons_of_neg (by simp)]
      symm
      rw [List.filter_eq_self]
      intro b hb
      simp only [Bool.not_eq_true', beq_eq_false_iff_ne]
      rintro rfl
      exact hn.1 hb
    | succ k =>
      simp only [List.getElem?_cons_succ] at h
      have hm := List.mem_of_getElem? h
      rw [List.eraseIdx_cons_succ, erase_filter hn.2 k h, List.filter_cons_of_pos]
      simp only [Bool.not_eq_true', beq_eq_false_iff_ne]
      rintro rfl
      exact hn.1 hm
theorem fixP_but {s : Sy} {k i : Nat} (h : (fixA s)[k]? = some i) : fixP s.rs (i : Int) s.rs.length = (fixA s).eraseIdx k := by
  rw [erase_filter (fixA_nodup s) k h]
  unfold fixA fixP
  rw [List.filter_filter]
  refine List.filter_congr fun j _ => ?_
  unfold fixB
  have e1 : ((j : Int) == -1) = false := by simpa using (by omega : (j : Int) ≠ -1)
  have e2 : ((j : Int) == (i : Int)) = (j == i) := by rw [Bool.eq_iff_iff]; simp; omega
  rw [e1, e2]
  cases (j == i) <;> simp
def isR (s : Sy) (i : Nat) : Bool := (match s.rs[i]? with | some r => !r.hl | none => false) && (rkF s (fixP s.rs (i : Int) s.rs.length) == rkF s (fixA s))
theorem rk_ref {s : Sy} (ok : OkS s) {L : List Nat} (h1 : L.length ≤ 6) (h2 : ∀ i ∈ L, i < s.rs.length) : PRet Tryz.prog 160 [mat (rowsF s L)] (int (rkF s L)) := by
  refine rank_ref _ (by rw [rowsF_len]; omega) (fun h => ?_)
  exact (rowsF_valid ok (fun e => h (by subst e; rfl)) h1 h2).1
theorem fixP_six {s : Sy} (ok : OkS s) (but : Int) : (fixP s.rs but s.rs.length).length ≤ 6 := Nat.le_trans (fixP_len s.rs but s.rs.length) ok.r6
set_option maxHeartbeats 2000000 in
theorem is_ref (s : Sy) (hv : validS s = true) {i : Nat} {r : Rp} (hr : s.rs[i]? = some r) : PRet Tryz.prog 91 [syD s, int i] (bool (isR s i)) := by
  refine PRet.intro 1 fun t => ACall.enter tab_ok Tryz.func91 rfl rfl Tryz.ntmps91 (by simp) ?_
  simp only [enterTM]
  have ok := validS_ok hv
  have hr6 := ok.r6
  have hdr := rpC_div s.rs
  have hil := (List.getElem?_eq_some_iff.1 hr).1
  have hra : (rpC s.rs)[i * 3 + 2]? = some (bool r.hl) := rpC_cell s.rs i r hr 2 (by decide)
  have e : isR s i = (!r.hl && (rkF s (fixP s.rs (i : Int) s.rs.length) == rkF s (fixA s))) := by unfold isR; rw [hr]
  rw [e]
  cases hh : r.hl
  · rw [hh] at hra
    have hF1 := fixed_ref s (i : Int) (by omega)
    have hF2 : PRet Tryz.prog 82 [syD s, int (-1)] (ints (nums (fixA s))) := fixed_ref s (-1) (by omega)
    have l1 := fixP_six ok (i : Int)
    have l2 := fixA_le ok
    have m1 : ∀ j ∈ fixP s.rs (i : Int) s.rs.length, j < s.rs.length := fun j hj => fixP_lt hj
    have m2 : ∀ j ∈ fixA s, j < s.rs.length := fun j hj => fixP_lt hj
    have hR1 := rows_ref s hv _ (show (fixP s.rs (i : Int) s.rs.length).length ≤ 1000 by omega) m1
    have hR2 := rows_ref s hv _ (show (fixA s).length ≤ 1000 by omega) m2
    have hK1 := rk_ref ok l1 m1
    have hK2 := rk_ref ok l2 m2
    generalize rkF s (fixP s.rs (i : Int) s.rs.length) = A at *
    generalize rkF s (fixA s) = B at *
    have hcast : ((A : Int) == (B : Int)) = (A == B) := by rw [Bool.eq_iff_iff]; simp; omega
    rw [Bool.not_false, Bool.true_and]
    ((refine gga0 ?_))
    ((repeat refine AW_seq ?_); (refine gdzb6_GRS (F := _∧_∧_∧_) ⟨hdr, hil, hra, hcast⟩ hF1 hR1 hK1 hF2 hR2 hK2 ?_))
    ((refine gga0 ?_))
    ((repeat refine AW_seq ?_); (refine wta ?_); simp (disch := omega) only [retQ, resD, oneD, rsv, rs, rsL, rsL_eq_map, List.map_map, bb, bt, zDs, zD, eqCells, simprocAttr, Tryz.results91])
  · rw [hh] at hra
    ((refine gga0 ?_))
    ((repeat refine AW_seq ?_); (refine gdzb (F := _∧_∧_) ⟨hdr, hil, hra⟩ ?_))
    ((refine gga0 ?_))
    ((repeat refine AW_seq ?_); (refine wta ?_); simp (disch := omega) only [retQ, resD, oneD, rsv, rs, rsL, rsL_eq_map, List.map_map, bb, bt, zDs, zD, eqCells, simprocAttr, Tryz.results91])
def redI (s : Sy) (k : Nat) : List ByteArray := ((List.range k).filter (isR s)).map fun i => (s.rs.getD i ⟨ByteArray.empty, [], false⟩).nm
theorem redI_step {s : Sy} {k : Nat} {r : Rp} (hr : s.rs[k]? = some r) : redI s (k + 1) = if isR s k = true then redI s k ++ [r.nm] else redI s k := by
  unfold redI
  rw [List.range_succ, List.filter_append, List.map_append]
  have e : (s.rs.getD k ⟨ByteArray.empty, [], false⟩).nm = r.nm := by rw [List.getD_eq_getElem?_getD, hr]; rfl
  cases h : isR s k
  · rw [List.filter_cons_of_neg (by simp [h])]
    simp
  · rw [List.filter_cons_of_pos (by simp [h]), List.filter_nil, List.map_cons, List.map_nil, e]
    simp
theorem redI_len (s : Sy) (k : Nat) : (redI s k).length ≤ k := by
  have := List.length_filter_le (isR s) (List.range k)
  simpa [redI] using this
theorem isR_red {s : Sy} (hv : validS s = true) {i : Nat} {r : Rp} (hr : s.rs[i]? = some r) : isR s i = (!r.hl && redR s r) := by
  have ok := validS_ok hv
  unfold isR
  rw [hr]
  cases hh : r.hl
  · have hm := (fixA_mem hr).2 hh
    obtain ⟨k, hk⟩ := List.mem_iff_getElem?.1 hm
    rw [fixP_but hk]
    have := redB_is ok (fxR_at.2 ⟨i, hk, hr⟩)
    unfold redB at this
    rw [this]
    simp [hh]
  · simp [hh]
theorem redI_is {s : Sy} (hv : validS s = true) : redI s s.rs.length = (redP s).1 := by
  rw [redP_fx hv]
  have h := filt_range s.rs (isR s) (fun r => !r.hl && redR s r) (fun i => (s.rs.getD i ⟨ByteArray.empty, [], false⟩).nm) (·.nm) (fun i x hx => isR_red hv hx) (fun i x hx => by rw [List.getD_eq_getElem?_getD, hx]; rfl) s.rs.length (Nat.le_refl _)
  rw [List.take_length] at h
  unfold redI
  rw [h]
  unfold fxR
  rw [List.filter_filter]
  congr 1
  refine List.filter_congr fun r _ => ?_
  rw [Bool.and_comm]
set_option maxHeartbeats 4000000 in
theorem redundant_ref (s : Sy) (hv : validS s = true) : PRet Tryz.prog 28 [syD s] (strsD (redP s).1) := by
  rw [← redI_is hv]
  refine PRet.intro 1 fun t => ACall.enter tab_ok Tryz.func28 rfl rfl Tryz.ntmps28 (by simp) ?_
  simp only [enterTM]
  have hdr := rpC_div s.rs
  have hr6 := (validS_ok hv).r6
  ((refine gga0 ?_))
  refine AW.begin 3 1 9 rfl (by decide) ?_
  simp only [putTM, List.length_cons, List.length_nil, Nat.reduceEqDiff, ↓reduceIte, List.cons_append, List.nil_append]
  refine AW_mid (fun x : Nat × Nat => ⟨[(3, .own 1 1 x.1 0 (redI s s.rs.length).length)], [none, some ⟨9, x.1, (redI s s.rs.length).map str⟩], x.2⟩) (fun _ => True) ?_ ?_
  · refine AW_block ?_
    refine AW_loop_w (fun x : Nat × Nat × Nat => ⟨[(1, .ptr 0 (t + 1) 0), (3, .own 1 1 x.2.1 0 (redI s x.1).length), (4, int x.1)], [some ⟨25, t + 1, [bks s.bs, rps s.rs]⟩, some ⟨9, x.2.1, (redI s x.1).map str⟩], x.2.2⟩) (fun x => s.rs.length - x.1) (fun x => x.1 ≤ s.rs.length) (0, t + 1 + 1, t + 1 + 1) (Nat.zero_le _) (by (simp (disch := omega) only [StLe, tmLe, hpLe_refl, hpLe, bl, bb, bt, zDs, zD, eqCells, simprocAttr, redI, List.range_zero, List.filter_nil, List.map_nil, List.length_nil])) ?_
    rintro ⟨k, g, tt⟩ hk
    simp only at hk
    by_cases hlt : k < s.rs.length
    · obtain ⟨r, hr⟩ : ∃ y, s.rs[k]? = some y := ⟨_, List.getElem?_eq_getElem hlt⟩
      have hra := rpC_get s.rs k r hr
      have hrb := rpC_one hr
      have hst := redI_step hr
      have hjl := redI_len s k
      have hI := is_ref s hv hr
      generalize redI s k = J at *
      cases hb : isR s k
      · rw [hb] at hst hI
        rw [if_neg (by decide)] at hst
        ((refine ggb0 (F := _∧_∧_) ⟨@Int.ofNat_lt, hlt, hdr⟩ ?_))
        ((repeat refine AW_seq ?_))
        refine AW_block ?_
        ((refine ggb1 (F := _∧_) ⟨hlt, hdr⟩ hI ?_))
        refine ⟨(k + 1, g, tt), hlt, by show s.rs.length - (k + 1) < s.rs.length - k; omega, ?_⟩
        simp only [hst]
        (simp (disch := omega) only [StLe, tmLe, hpLe_refl, hpLe, bl, bb, bt, zDs, zD, eqCells, simprocAttr])
      · rw [hb] at hst hI
        rw [if_pos rfl] at hst
        ((refine ggb0 (F := _∧_∧_) ⟨@Int.ofNat_lt, hlt, hdr⟩ ?_))
        ((repeat refine AW_seq ?_))
        refine AW_block ?_
        ((refine ggb1 (F := _∧_∧_∧_) ⟨hlt, hdr, hra, hrb⟩ hI ?_))
        refine ⟨(k + 1, tt + 1, tt + 1), hlt, by show s.rs.length - (k + 1) < s.rs.length - k; omega, ?_⟩
        simp only [hst, List.length_append, List.length_cons, List.length_nil, List.map_append, List.map_cons, List.map_nil]
        (simp (disch := omega) only [StLe, tmLe, hpLe_refl, hpLe, bl, bb, bt, zDs, zD, eqCells, simprocAttr])
    · have hke : k = s.rs.length := by omega
      subst hke
      ((refine wqb (F := _∧_) ⟨@Int.lt_irrefl, hdr⟩ ?_))
      ((refine wia ?_))
      ((refine wxa ?_))
      exact ⟨(g, tt), trivial, by (simp (disch := omega) only [StLe, tmLe, hpLe_refl, hpLe, bl, bb, bt, zDs, zD, eqCells, simprocAttr])⟩
  rintro ⟨g, tt⟩ -
  generalize redI s s.rs.length = J at *
  have hfin : List.take J.length (J.map str) = J.map str := List.take_of_length_le (by simp)
  ((refine AW.freeze (1) (by first | rfl | (simp only [setH, List.getElem?_cons_zero, List.getElem?_cons_succ, hfin, fzS_str, List.length_map, Nat.le_refl]; done)) ?_); simp (disch := omega) only [fzT, fz, fzL, fzL_ints, fzL_mat, fzH, fzB, eq_self, bb, bt, zDs, zD, eqCells, simprocAttr, hfin, fzS_str, List.length_map, Nat.le_refl])
  ((refine gga0 ?_))
  ((repeat refine AW_seq ?_); (refine wta ?_); simp (disch := omega) only [retQ, resD, oneD, bb, bt, zDs, zD, eqCells, simprocAttr, Tryz.results28])
  exact rsv_tidy _ _ (by simp only [tidyD, tidy_strs, Bool.not_false, Bool.and_self])
end Go.Proofs.YtjjpjgnoanfaoaaGreat.T

namespace Go.Proofs.YtjjpjgnoanfaoaaGreat.T
open Go Go.RowKit Lin
set_option linter.unusedSimpArgs false

/-! MobilityKeeps. -/
end Go.Proofs.YtjjpjgnoanfaoaaGreat.T

namespace Go.Proofs.YtjjpjgnoanfaoaaGreat.T
open Go Go.RowKit Lin
theorem gga6_GM {C1 C2 C3 C4 C5 C6 P Q : Prop} (c1 : C1) (c2 : C2) (c3 : C3) (c4 : C4) (c5 : C5) (c6 : C6) (q : Q) (h : C1 → C2 → C3 → C4 → C5 → C6 → Q → P := by
  intro cc1 cc2 cc3 cc4 cc5 cc6 hq
  (try with_reducible intro KR hKR)
  (repeat' (first | (with_reducible refine AW_seq ?_) | (with_reducible refine AW_region_k tab_ok fun KR hKR => ?_) | ((first | with_reducible refine AW_skip ?_ | with_reducible refine AW_exit ?_ | ((with_reducible refine awOps_nil ?_); refine hKR _ ?_; (try clear hKR KR))); (repeat (with_reducible first | refine q1 ?_ | refine q2 ?_ | refine q3 ?_ | refine q4 ?_ | refine q5 ?_ | refine q6 ?_ | (refine q7 ?_ ?_; (focus (with_unfolding_all rfl)))))) | ((first | ((with_reducible refine at_ops ?_); (first | refine awOps_n rfl fun KK hKK => ?_ | refine awOps_g rfl rfl fun KK hKK => ?_ | refine awOps_gc rfl fun KK hKK => ?_ | refine awOps_nc fun KK hKK => ?_)) | with_reducible refine AW_cond_k (tab := tab) fun KK hKK => ?_); simp (disch := omega) only [bb, bt, zDs, zD, eqCells, simprocAttr, bne_self_eq_false, Int.reduceBNe, Int.reduceBEq, Bool.bne_false, Bool.bne_true, Bool.false_bne, Bool.true_bne, goC, callO_fn, argsD, and_self]; (try ((first | (with_reducible refine ACall.of_pret (cc1) ?_ ?_; (focus (first | (simp only [um]; done) | rfl))) | (with_reducible refine ACall.of_pret (cc2) ?_ ?_; (focus (first | (simp only [um]; done) | rfl))) | (with_reducible refine ACall.of_pret (cc3) ?_ ?_; (focus (first | (simp only [um]; done) | rfl))) | (with_reducible refine ACall.of_pret (cc4) ?_ ?_; (focus (first | (simp only [um]; done) | rfl))) | (with_reducible refine ACall.of_pret (cc5) ?_ ?_; (focus (first | (simp only [um]; done) | rfl))) | (with_reducible refine ACall.of_pret (cc6) ?_ ?_; (focus (first | (simp only [um]; done) | rfl)))); simp only [afterC, St.put, putTM, ↓reduceIte, Nat.reduceEqDiff])); refine hKK _ ?_; clear hKK KK; (first | with_reducible refine at_ops ?_ | with_reducible refine i1 ?_ | with_reducible refine i0 ?_))))
  (first | exact hq | (revert hKR; revert KR; exact hq))) : P := h c1 c2 c3 c4 c5 c6 q
theorem ggb10_GM {F C1 C2 C3 C4 C5 C6 C7 C8 C9 C10 P Q : Prop} (f : F) (c1 : C1) (c2 : C2) (c3 : C3) (c4 : C4) (c5 : C5) (c6 : C6) (c7 : C7) (c8 : C8) (c9 : C9) (c10 : C10) (q : Q) (h : F → C1 → C2 → C3 → C4 → C5 → C6 → C7 → C8 → C9 → C10 → Q → P := by
  intro ff cc1 cc2 cc3 cc4 cc5 cc6 cc7 cc8 cc9 cc10 hq
  (try with_reducible intro KR hKR)
  (repeat' (first | (with_reducible refine AW_seq ?_) | (with_reducible refine AW_region_k tab_ok fun KR hKR => ?_) | ((first | with_reducible refine AW_skip ?_ | with_reducible refine AW_exit ?_ | ((with_reducible refine awOps_nil ?_); refine hKR _ ?_; (try clear hKR KR))); (repeat (with_reducible first | refine q1 ?_ | refine q2 ?_ | refine q3 ?_ | refine q4 ?_ | refine q5 ?_ | refine q6 ?_ | (refine q7 ?_ ?_; (focus (with_unfolding_all rfl)))))) | ((first | ((with_reducible refine at_ops ?_); (first | refine awOps_n rfl fun KK hKK => ?_ | refine awOps_g rfl rfl fun KK hKK => ?_ | refine awOps_gc rfl fun KK hKK => ?_ | refine awOps_nc fun KK hKK => ?_)) | with_reducible refine AW_cond_k (tab := tab) fun KK hKK => ?_); simp (disch := omega) only [bb, bt, zDs, zD, eqCells, simprocAttr, ff, bne_self_eq_false, Int.reduceBNe, Int.reduceBEq, Bool.bne_false, Bool.bne_true, Bool.false_bne, Bool.true_bne, goC, callO_fn, argsD, and_self]; (try ((first | (with_reducible refine ACall.of_pret (cc1) ?_ ?_; (focus (first | (simp only [um]; done) | rfl))) | (with_reducible refine ACall.of_pret (cc2) ?_ ?_; (focus (first | (simp only [um]; done) | rfl))) | (with_reducible refine ACall.of_pret (cc3) ?_ ?_; (focus (first | (simp only [um]; done) | rfl))) | (with_reducible refine ACall.of_pret (cc4) ?_ ?_; (focus (first | (simp only [um]; done) | rfl))) | (with_reducible refine ACall.of_pret (cc5) ?_ ?_; (focus (first | (simp only [um]; done) | rfl))) | (with_reducible refine ACall.of_pret (cc6) ?_ ?_; (focus (first | (simp only [um]; done) | rfl))) | (with_reducible refine ACall.of_pret (cc7) ?_ ?_; (focus (first | (simp only [um]; done) | rfl))) | (with_reducible refine ACall.of_pret (cc8) ?_ ?_; (focus (first | (simp only [um]; done) | rfl))) | (with_reducible refine ACall.of_pret (cc9) ?_ ?_; (focus (first | (simp only [um]; done) | rfl))) | (with_reducible refine ACall.of_pret (cc10) ?_ ?_; (focus (first | (simp only [um]; done) | rfl)))); simp only [afterC, St.put, putTM, ↓reduceIte, Nat.reduceEqDiff])); refine hKK _ ?_; clear hKK KK; (first | with_reducible refine at_ops ?_ | with_reducible refine i1 ?_ | with_reducible refine i0 ?_))))
  (first | exact hq | (revert hKR; revert KR; exact hq))) : P := h f c1 c2 c3 c4 c5 c6 c7 c8 c9 c10 q
set_option linter.unusedSimpArgs false

/-! MobilityModes. -/
set_option maxHeartbeats 4000000 in
theorem law_modes16 (s : Sy) : PRet Tryz.prog 3 [syD s] (bool true) := by
  refine PRet.intro 1 fun t => ACall.enter tab_ok Tryz.func3 rfl rfl Tryz.ntmps3 (by simp) ?_
  simp only [enterTM]
  have hL : PRet Tryz.prog 15 [syD s, .v (.string ⟨#[]⟩)] (bool (longM s ⟨#[]⟩)) := long16 s ⟨#[]⟩
  cases hlo : longM s ⟨#[]⟩
  rotate_left 1
  · rw [hlo] at hL
    ((refine gga2 awake16 hL ?_))
    ((repeat refine AW_seq ?_); (refine wta ?_); simp (disch := omega) only [retQ, resD, oneD, rsv, rs, rsL, rsL_eq_map, List.map_map, bb, bt, zDs, zD, eqCells, simprocAttr, Tryz.results3])
  rw [hlo] at hL
  have hs : smallS s = true := by
    unfold longM at hlo
    rw [Bool.or_eq_false_iff] at hlo
    simpa using hlo.1
  have hf := small_fits hs
  have hV := valid_ref s hf
  have hFd := freedom_prog s hf
  have hMo := modes_prog s hf
  have hJ := jammed_prog s hf
  cases hv : validS s
  · rw [hv] at hV
    have em : modesP s = ([], 1) := by simp [modesP, hv]
    have ej : jamP s = ([], 1) := by simp [jamP, em]
    rw [em] at hFd hMo
    rw [ej] at hJ
    ((refine gga6_GM awake16 hL hFd hMo hJ hV ?_))
    ((repeat refine AW_seq ?_); (refine wta ?_); simp (disch := omega) only [retQ, resD, oneD, rsv, rs, rsL, rsL_eq_map, List.map_map, bb, bt, zDs, zD, eqCells, simprocAttr, Tryz.results3])
  rw [hv] at hV
  have ok := validS_ok hv
  have hb6 := ok.b6
  obtain ⟨z1, z2, z3⟩ := modesP_facts s
  have e0 : (modesP s).2 = 0 := z3.2 hv
  have ej : jamP s = (jamN s.bs (modesP s).1 s.bs.length, 0) := by unfold jamP; rw [if_pos e0]
  have hjl := jamN_len s.bs (modesP s).1 s.bs.length
  have hMr := modes_ref s hv
  have hJr := jammed_ref s hv
  rw [ej] at hJ
  simp only at hJ
  generalize modesP s = Y at *
  obtain ⟨N, ye⟩ := Y
  simp only at *
  subst e0
  generalize jamN s.bs N s.bs.length = J at *
  have hE := equalFuncFr N N (by omega) (by omega) (fun x hx => by rw [z1 x hx]; omega) (fun x hx => by rw [z1 x hx]; omega)
  have hS := equalStrs J J (by omega) (by omega)
  rw [beq_self_eq_true] at hE hS
  have hnn : ((N.length : Int) == (N.length : Int)) = true := by simp
  ((refine ggb10_GM hnn awake16 hL hFd hMo hJ hV hMr hE hJr hS ?_))
  ((repeat refine AW_seq ?_); (refine wta ?_); simp (disch := omega) only [retQ, resD, oneD, rsv, rs, rsL, rsL_eq_map, List.map_map, bb, bt, zDs, zD, eqCells, simprocAttr, Tryz.results3])
end Go.Proofs.YtjjpjgnoanfaoaaGreat.T

/- What the arguments of chapter 4's laws stand for. -/
section
namespace Go.Proofs.YtjjpjgnoanfaoaaGreat.T
open Go Go.RowKit Go.ChangeShapes

theorem slice_one {P : Program} {w : World} {r : Reach} {base : Nat} {t e : TypeId} {v : Value} (ht : P.underlying t = some (.slice e)) (h : Value.okWide P w r base t v) : v.cells = #[v] := by
  simp only [Value.okWide, ht, Cell.okWide] at h
  cases v <;> simp_all [Value.cells, Cell.ok]
theorem ints_of : ∀ {rows : List (List D)}, (∀ r ∈ rows, (∃ n, r = [int n] ∧ (Lit.int .i64 n).wf = true) ∧ r.length = 1) → ∃ l : List Int, rows.flatten = l.map int ∧ ∀ x ∈ l, (Lit.int .i64 x).wf = true
  | [], _ => ⟨[], rfl, by simp⟩
  | r :: rows, h => by
    obtain ⟨⟨n, rfl, hw⟩, _⟩ := h r (by simp)
    obtain ⟨l, e, hl⟩ := ints_of fun x hx => h x (List.mem_cons_of_mem _ hx)
    exact ⟨n :: l, by simp [e], fun x hx => by
      rcases List.mem_cons.1 hx with rfl | hx
      · exact hw
      · exact hl x hx⟩
theorem rows_of : ∀ {rows : List (List D)}, (∀ r ∈ rows, (∃ l : List Int, r = [ints l] ∧ ∀ x ∈ l, (Lit.int .i64 x).wf = true) ∧ r.length = 1) → ∃ m : List (List Int), rows.flatten = m.map ints ∧ ∀ l ∈ m, ∀ x ∈ l, (Lit.int .i64 x).wf = true
  | [], _ => ⟨[], rfl, by simp⟩
  | r :: rows, h => by
    obtain ⟨⟨n, rfl, hw⟩, _⟩ := h r (by simp)
    obtain ⟨l, e, hl⟩ := rows_of fun x hx => h x (List.mem_cons_of_mem _ hx)
    exact ⟨n :: l, by simp [e], fun x hx => by
      rcases List.mem_cons.1 hx with rfl | hx
      · exact hw
      · exact hl x hx⟩

theorem u8_of {x : Int} (h : (Lit.int .u8 x).wf = true) : 0 ≤ x ∧ x < 256 := by
  rw [Lit.wf, Bool.and_eq_true] at h
  have h1 := of_decide_eq_true h.1
  have h2 := of_decide_eq_true h.2
  have e1 : IntKind.u8.min = 0 := rfl
  have e2 : IntKind.u8.max = 255 := rfl
  rw [e1] at h1
  rw [e2] at h2
  exact ⟨h1, by omega⟩
theorem cellsInt : Tryz.prog.cellsOf 3 = 1 := by kernel_rfl
theorem cellsInts : Tryz.prog.cellsOf 50 = 1 := by kernel_rfl
section
variable {H : Type} {enc : TypeId × Value → H} {W : World}
theorem opn_ints : Opn enc Tryz.prog W 50 fun ds => ∃ l : List Int, ds = [ints l] ∧ ∀ x ∈ l, (Lit.int .i64 x).wf = true :=
  (Opn.slice Tryz.underlying50 cellsInt (by decide) (Opn.int Tryz.underlying3)).mono fun ds ⟨rows, e, h, _⟩ => by
    obtain ⟨l, e2, hl⟩ := ints_of h
    exact ⟨l, by rw [e, e2], hl⟩
theorem opn_mat : Opn enc Tryz.prog W 99 fun ds => ∃ m : List (List Int), ds = [mat m] ∧ ∀ l ∈ m, ∀ x ∈ l, (Lit.int .i64 x).wf = true :=
  (Opn.slice Tryz.underlying99 cellsInts (by decide) opn_ints).mono fun ds ⟨rows, e, h, _⟩ => by
    obtain ⟨l, e2, hl⟩ := rows_of h
    exact ⟨l, by rw [e, e2], hl⟩
end
end Go.Proofs.YtjjpjgnoanfaoaaGreat.T
end

/- Arguments that are lists of fractions. -/
section
namespace Go.Proofs.YtjjpjgnoanfaoaaGreat.T
open Go Go.RowKit Go.ChangeShapes

theorem fracs_of : ∀ {rows : List (List D)}, (∀ r ∈ rows, (∃ a b, r = [int a, int b]) ∧ r.length = 2) → ∃ l : List (Int × Int), rows.flatten = frC l
  | [], _ => ⟨[], rfl⟩
  | r :: rows, h => by
    obtain ⟨⟨a, b, rfl⟩, _⟩ := h r (by simp)
    obtain ⟨l, e⟩ := fracs_of fun x hx => h x (List.mem_cons_of_mem _ hx)
    exact ⟨(a, b) :: l, by simp [e, frC]⟩
theorem cellsFrac : Tryz.prog.cellsOf 43 = 2 := by kernel_rfl
section
variable {H : Type} {enc : TypeId × Value → H} {W : World}
theorem opn_frac : Opn enc Tryz.prog W 43 fun ds => ∃ a b, ds = [int a, int b] :=
  (Opn.struct Tryz.underlying43 ⟨_, _, rfl, rfl, Opn.int Tryz.underlying3, _, _, rfl, by simp only [cellsInt], Opn.int Tryz.underlying3, rfl⟩ (by kernel_rfl)).mono fun ds h => by
    obtain ⟨d1, r1, rfl, ⟨a, rfl, _⟩, d2, r2, rfl, ⟨b, rfl, _⟩, rfl⟩ := h
    exact ⟨a, b, rfl⟩
theorem opn_fracs : Opn enc Tryz.prog W 40 fun ds => ∃ l : List (Int × Int), ds = [frs l] ∧ True :=
  (Opn.slice Tryz.underlying40 cellsFrac (by decide) opn_frac).mono fun ds ⟨rows, e, h, _⟩ => by
    obtain ⟨l, e2⟩ := fracs_of h
    exact ⟨l, by rw [e, e2], trivial⟩
end
end Go.Proofs.YtjjpjgnoanfaoaaGreat.T
end

/- Arguments that are systems. -/
section
namespace Go.Proofs.YtjjpjgnoanfaoaaGreat.T
open Go Go.RowKit Go.ChangeShapes

theorem flats_of {α : Type} {f : α → List D} {n : Nat} : ∀ {rows : List (List D)}, (∀ r ∈ rows, (∃ x, r = f x) ∧ r.length = n) → ∃ l : List α, rows.flatten = l.flatMap f
  | [], _ => ⟨[], rfl⟩
  | r :: rows, h => by
    obtain ⟨⟨x, rfl⟩, _⟩ := h r (by simp)
    obtain ⟨l, e⟩ := flats_of fun x hx => h x (List.mem_cons_of_mem _ hx)
    exact ⟨x :: l, by simp [e]⟩
theorem cellsHold : Tryz.prog.cellsOf 76 = 4 := by kernel_rfl
theorem cellsRope : Tryz.prog.cellsOf 72 = 3 := by kernel_rfl
theorem cellsBlock : Tryz.prog.cellsOf 78 = 2 := by kernel_rfl
theorem agg_of {P : Program} {w : World} {r : Reach} {base : Nat} {t : TypeId} {fs : Array Field} {v : Value} (ht : P.underlying t = some (.struct fs)) (h : Value.okWide P w r base t v) : ∃ cs, v = .agg cs := by
  simp only [Value.okWide, ht] at h
  obtain ⟨cs, e, _⟩ := h
  exact ⟨cs, e⟩
section
variable {H : Type} {enc : TypeId × Value → H} {W : World}
theorem opn_hold : Opn enc Tryz.prog W 76 fun ds => ∃ h : Hd, ds = hd1 h :=
  (Opn.struct Tryz.underlying76 ⟨_, _, rfl, (by kernel_rfl), Opn.str Tryz.underlying9, _, _, rfl, (by kernel_rfl), Opn.int Tryz.underlying3, _, _, rfl, (by kernel_rfl), opn_frac, rfl⟩ (by kernel_rfl)).mono fun ds h => by
    obtain ⟨d1, r1, rfl, ⟨s, rfl, _⟩, d2, r2, rfl, ⟨p, rfl, _⟩, d3, r3, rfl, ⟨a, b, rfl⟩, rfl⟩ := h
    exact ⟨⟨s, p, a, b⟩, rfl⟩
theorem opn_holds : Opn enc Tryz.prog W 70 fun ds => ∃ l : List Hd, ds = [hds l] :=
  (Opn.slice Tryz.underlying70 cellsHold (by decide) opn_hold).mono fun ds ⟨rows, e, h, _⟩ => by
    obtain ⟨l, e2⟩ := flats_of h
    exact ⟨l, by rw [e, e2]; rfl⟩
theorem opn_rope : Opn enc Tryz.prog W 72 fun ds => ∃ r : Rp, ds = rp1 r :=
  (Opn.struct Tryz.underlying72 ⟨_, _, rfl, (by kernel_rfl), Opn.str Tryz.underlying9, _, _, rfl, (by kernel_rfl), opn_holds, _, _, rfl, (by kernel_rfl), Opn.bool Tryz.underlying4, rfl⟩ (by kernel_rfl)).mono fun ds h => by
    obtain ⟨d1, r1, rfl, ⟨s, rfl, _⟩, d2, r2, rfl, ⟨l, rfl⟩, d3, r3, rfl, ⟨b, rfl⟩, rfl⟩ := h
    exact ⟨⟨s, l, b⟩, rfl⟩
theorem opn_ropes : Opn enc Tryz.prog W 23 fun ds => ∃ l : List Rp, ds = [rps l] :=
  (Opn.slice Tryz.underlying23 cellsRope (by decide) opn_rope).mono fun ds ⟨rows, e, h, _⟩ => by
    obtain ⟨l, e2⟩ := flats_of h
    exact ⟨l, by rw [e, e2]; rfl⟩
theorem opn_block : Opn enc Tryz.prog W 78 fun ds => ∃ b : Bk, ds = bk1 b :=
  (Opn.struct Tryz.underlying78 ⟨_, _, rfl, (by kernel_rfl), Opn.str Tryz.underlying9, _, _, rfl, (by kernel_rfl), Opn.int Tryz.underlying3, rfl⟩ (by kernel_rfl)).mono fun ds h => by
    obtain ⟨d1, r1, rfl, ⟨s, rfl, _⟩, d2, r2, rfl, ⟨p, rfl, _⟩, rfl⟩ := h
    exact ⟨⟨s, p⟩, rfl⟩
theorem opn_blocks : Opn enc Tryz.prog W 22 fun ds => ∃ l : List Bk, ds = [bks l] :=
  (Opn.slice Tryz.underlying22 cellsBlock (by decide) opn_block).mono fun ds ⟨rows, e, h, _⟩ => by
    obtain ⟨l, e2⟩ := flats_of h
    exact ⟨l, by rw [e, e2]; rfl⟩
theorem opn_sys : Opn enc Tryz.prog W 25 fun ds => ∃ s : Sy, ds = [bks s.bs, rps s.rs] :=
  (Opn.struct Tryz.underlying25 ⟨_, _, rfl, (by kernel_rfl), opn_blocks, _, _, rfl, (by kernel_rfl), opn_ropes, rfl⟩ (by kernel_rfl)).mono fun ds h => by
    obtain ⟨d1, r1, rfl, ⟨a, rfl⟩, d2, r2, rfl, ⟨b, rfl⟩, rfl⟩ := h
    exact ⟨⟨a, b⟩, rfl⟩
theorem arg_sys {v : Value} {base : Nat} {r : Reach} {d : DataW H} {p : List MemPlace} (h : DataW.Trod enc Tryz.prog W 0 (fun _ => true) true 25 v d p) (hv : Value.okWide Tryz.prog W r base 25 v) : ∃ s : Sy, Rep (memOf W) [] (syD s) v := by
  obtain ⟨cs, rfl⟩ : ∃ cs, v = .agg cs := by
    simp only [Value.okWide, Tryz.underlying25] at hv
    obtain ⟨cs, e, _⟩ := hv
    exact ⟨cs, e⟩
  obtain ⟨ds, hr, s, rfl⟩ := arg_agg opn_sys h
  exact ⟨s, hr⟩
theorem cellsSys : Tryz.prog.cellsOf 25 = 2 := by kernel_rfl
theorem opn_syss : Opn enc Tryz.prog W 62 fun ds => ∃ l : List Sy, ds = [sys l] ∧ True :=
  (Opn.slice Tryz.underlying62 cellsSys (by decide) opn_sys).mono fun ds ⟨rows, e, h, _⟩ => by
    obtain ⟨l, e2⟩ := flats_of (f := sy1) h
    exact ⟨l, by rw [e, e2], trivial⟩
theorem arg_rope {v : Value} {base : Nat} {r : Reach} {d : DataW H} {p : List MemPlace} (h : DataW.Trod enc Tryz.prog W 0 (fun _ => true) true 72 v d p) (hv : Value.okWide Tryz.prog W r base 72 v) : ∃ s : Rp, Rep (memOf W) [] (.agg (rp1 s)) v := by
  obtain ⟨cs, rfl⟩ : ∃ cs, v = .agg cs := by
    simp only [Value.okWide, Tryz.underlying72] at hv
    obtain ⟨cs, e, _⟩ := hv
    exact ⟨cs, e⟩
  obtain ⟨ds, hr, s, rfl⟩ := arg_agg opn_rope h
  exact ⟨s, hr⟩
theorem arg_frac {v : Value} {base : Nat} {r : Reach} {d : DataW H} {p : List MemPlace} (h : DataW.Trod enc Tryz.prog W 0 (fun _ => true) true 43 v d p) (hv : Value.okWide Tryz.prog W r base 43 v) : ∃ s : Int × Int, Rep (memOf W) [] (frD s) v := by
  obtain ⟨cs, rfl⟩ : ∃ cs, v = .agg cs := by
    simp only [Value.okWide, Tryz.underlying43] at hv
    obtain ⟨cs, e, _⟩ := hv
    exact ⟨cs, e⟩
  obtain ⟨ds, hr, a, b, rfl⟩ := arg_agg opn_frac h
  exact ⟨(a, b), hr⟩
abbrev u16s (l : List Int) : D := .sl 1 (l.map fun n => .v (.int .u16 n)) false
theorem u16_of {x : Int} (h : (Lit.int .u16 x).wf = true) : 0 ≤ x ∧ x < 65536 := by
  rw [Lit.wf, Bool.and_eq_true] at h
  have h1 := of_decide_eq_true h.1
  have h2 := of_decide_eq_true h.2
  have e1 : IntKind.u16.min = 0 := rfl
  have e2 : IntKind.u16.max = 65535 := rfl
  rw [e1] at h1
  rw [e2] at h2
  exact ⟨h1, by omega⟩
theorem u16_rows : ∀ {rows : List (List D)}, (∀ r ∈ rows, (∃ n, r = [.v (.int .u16 n)] ∧ (Lit.int .u16 n).wf = true) ∧ r.length = 1) → ∃ l : List Int, rows.flatten = l.map (fun n => .v (.int .u16 n)) ∧ ∀ x ∈ l, (Lit.int .u16 x).wf = true
  | [], _ => ⟨[], rfl, by simp⟩
  | r :: rows, h => by
    obtain ⟨⟨n, rfl, hw⟩, _⟩ := h r (by simp)
    obtain ⟨l, e, hl⟩ := u16_rows fun x hx => h x (List.mem_cons_of_mem _ hx)
    exact ⟨n :: l, by simp [e], fun x hx => by
      rcases List.mem_cons.1 hx with rfl | hx
      · exact hw
      · exact hl x hx⟩
theorem u64_of {x : Int} (h : (Lit.int .u64 x).wf = true) : 0 ≤ x ∧ x ≤ 18446744073709551615 := by
  rw [Lit.wf, Bool.and_eq_true] at h
  have h1 := of_decide_eq_true h.1
  have h2 := of_decide_eq_true h.2
  have e1 : IntKind.u64.min = 0 := rfl
  have e2 : IntKind.u64.max = 18446744073709551615 := rfl
  rw [e1] at h1
  rw [e2] at h2
  exact ⟨h1, h2⟩
end
end Go.Proofs.YtjjpjgnoanfaoaaGreat.T
end

/- The signs of the head's word (printed by mkmake.py): the kernel need not take a long string apart. -/
namespace Go.Proofs.YtjjpjgnoanfaoaaGreat.T
open Go Go.RowKit Go.Joins
def wordSigns0 : List Char := [104,97,114,110,101,115,115,32,102,52,55,98,51,102,54,100,49,50,97,57,49,99,99,100,98,50,54,50,55,97,97,51,100,57,97,98,50,55,101,98,101,51,53,52,50,98,57,49,50,98,49,55,53,56,52,55,48,48,53,54,99,101,101,48].map Char.ofNat
def wordSigns1 : List Char := [57,57,51,56,52,100,56,51,32,99,117,116,32,97,116,32,108,111,102,116,98,108,111,99,107,47,108,111,102,116,98,108,111,99,107,108,97,119,49,54,46,77,111,98,105,108,105,116,121,77,111,100,101,115,32,108,111,102,116,98,108,111,99,107].map Char.ofNat
def wordSigns2 : List Char := [47,108,111,102,116,98,108,111,99,107,108,97,119,49,54,46,77,111,98,105,108,105,116,121,82,101,100,117,110,100,97,110,116,32,108,111,102,116,98,108,111,99,107,47,108,111,102,116,98,108,111,99,107,108,97,119,49,51,46,65,100,118,97,110].map Char.ofNat
def wordSigns3 : List Char := [116,97,103,101,87,111,114,107,115,32,108,111,102,116,98,108,111,99,107,47,108,111,102,116,98,108,111,99,107,108,97,119,49,51,46,65,100,118,97,110,116,97,103,101,66,111,116,104,32,108,111,102,116,98,108,111,99,107,47,108,111,102,116,98].map Char.ofNat
def wordSigns4 : List Char := [108,111,99,107,108,97,119,49,51,46,65,100,118,97,110,116,97,103,101,66,101,115,116,32,108,111,102,116,98,108,111,99,107,47,108,111,102,116,98,108,111,99,107,108,97,119,49,52,46,76,111,115,115,101,115,67,97,114,114,121,32,108,111,102].map Char.ofNat
def wordSigns5 : List Char := [116,98,108,111,99,107,47,108,111,102,116,98,108,111,99,107,108,97,119,49,52,46,76,111,115,115,101,115,70,111,114,99,101,115,32,108,111,102,116,98,108,111,99,107,47,108,111,102,116,98,108,111,99,107,108,97,119,49,52,46,76,111,115,115].map Char.ofNat
def wordSigns6 : List Char := [101,115,79,114,100,101,114,32,108,111,102,116,98,108,111,99,107,47,108,111,102,116,98,108,111,99,107,108,97,119,49,52,46,76,111,115,115,101,115,72,111,108,100,115,32,108,111,102,116,98,108,111,99,107,47,108,111,102,116,98,108,111,99,107].map Char.ofNat
def wordSigns7 : List Char := [108,97,119,49,52,46,76,111,115,115,101,115,69,120,97,99,116,32,108,111,102,116,98,108,111,99,107,47,108,111,102,116,98,108,111,99,107,108,97,119,49,52,46,76,111,115,115,101,115,78,111,110,101].map Char.ofNat
def wordSigns : List Char := wordSigns0 ++ wordSigns1 ++ wordSigns2 ++ wordSigns3 ++ wordSigns4 ++ wordSigns5 ++ wordSigns6 ++ wordSigns7
theorem word_is : Tryz.prog.initOrder.toList = wordSigns := by
  have h : Tryz.prog.initOrder = String.ofList wordSigns := by kernel_rfl
  rw [h, String.toList_ofList]
theorem word_cut : behindMainWord (wordsSigns wordSigns) = "cut".toList :: (behindMainWord (wordsSigns wordSigns)).tail := by kernel_rfl
theorem make_of (P : Program) (l : List Char) (h : P.initOrder.toList = l) (r : List (List Char)) (hr : behindMainWord (wordsSigns l) = "cut".toList :: r) : P.make = some .cut := by
  unfold Program.make
  rw [h, hr]
  rfl
theorem enter_of (P : Program) (l : List Char) (h : P.initOrder.toList = l) (r : List (List Char)) (hr : behindMainWord (wordsSigns l) = "cut".toList :: r) (h1 : P.laysLater = false) (h2 : P.bearsReflect = false) (h3 : P.doorFits [] = true) (hs : stripLifts liftWords ("cut".toList :: r) = ([], "cut".toList :: r)) : P.mayEnter = true := by
  unfold Program.mayEnter
  rw [h, hr]
  simp only [hs, h1, h2, h3]
  rfl
theorem word_make : Tryz.prog.make = some .cut := make_of _ wordSigns word_is _ word_cut
theorem word_enter : Tryz.prog.mayEnter = true := enter_of _ wordSigns word_is _ word_cut (by kernel_rfl) (by kernel_rfl) (by kernel_rfl) (by kernel_rfl)
theorem word_lifts : Tryz.prog.liftsFinal = false := by
  unfold Program.liftsFinal Program.headLifts
  rw [word_is]
  kernel_rfl
theorem word_enterP : Tryz.pinned.checked.prog.mayEnter = true := word_enter
theorem word_liftsP : Tryz.pinned.checked.prog.liftsFinal = false := word_lifts
theorem word_makeP : Tryz.pinned.checked.prog.make = some .cut := word_make
end Go.Proofs.YtjjpjgnoanfaoaaGreat.T

