import Derived.Test.YtjjpjgnoanfaoaaYMGKAC
import Derived.Test.YtjjpjgnoanfaoaaSKM
import Derived.Test.YtjjpjgnoanfaoaaMGI
import Derived.Test.YtjjpjgnoanfaoaaTJ
import Derived.Test.YtjjpjgnoanfaoaaWA
import Derived.Test.YtjjpjgnoanfaoaaWJK
import Derived.Test.YtjjpjgnoanfaoaaSG
import Derived.Test.YtjjpjgnoanfaoaaRows
import Derived.Lib.SmallJoins
import Derived.ProofKit
set_option linter.all false
namespace Go.Proofs.Ytjjpjgnoanfaoaa.T
open Go Go.RowKit Lin
theorem gdza_AWK {P Q : Prop} (q : Q) (h : Q → P := by
  intro  hq
  (try with_reducible intro KR hKR)
  (repeat refine AW_seq ?_); (repeat refine AW_seq ?_); (refine AW_drawn_k tab_ok follows_mixed 0 fun KR hKR => ?_); simp only [List.replicate_succ, List.replicate_zero, List.append_nil, List.nil_append, List.cons_append, List.length_cons, List.length_nil, Nat.reduceAdd]; (repeat' ((first | refine awD_n rfl fun KK hKK => ?_ | refine awD_g rfl rfl fun KK hKK => ?_ | refine awD_gc rfl fun KK hKK => ?_ | refine awD_nc fun KK hKK => ?_); simp (disch := omega) only [bb, bt, zDs, zD, eqCells, simprocAttr, bne_self_eq_false, Int.reduceBNe, Int.reduceBEq, Bool.bne_false, Bool.bne_true, Bool.false_bne, Bool.true_bne]; refine hKK _ _ _ ?_; clear hKK KK)); (refine awD_nil ?_); simp only [List.reverse_cons, List.reverse_nil, List.nil_append, List.cons_append]; (refine hKR _ _ (by first | rfl | kernel_rfl) ?_); (try clear hKR KR); (repeat (with_reducible first | refine q1 ?_ | refine q2 ?_ | refine q3 ?_ | refine q4 ?_ | refine q5 ?_ | refine q6 ?_ | (refine q7 ?_ ?_; (focus (with_unfolding_all rfl)))))
  (first | exact hq | (revert hKR; revert KR; exact hq))) : P := h  q
set_option linter.unusedSimpArgs false

/-! Chapter 13: the program. -/
theorem whole13 (n : Int) : PRet Try.prog 120 [int n] (frD (n, 1)) := by
  refine PRet.intro 1 fun t => ACall.enter tab_ok Try.func120 rfl rfl Try.ntmps120 (by simp) ?_
  simp only [enterTM]
  ((refine gga0 ?_))
  ((repeat refine AW_seq ?_); (refine wta ?_); simp (disch := omega) only [retQ, resD, oneD, rsv, rs, rsL, rsL_eq_map, List.map_map, bb, bt, zDs, zD, eqCells, simprocAttr, Try.results120])
set_option maxHeartbeats 1000000 in
theorem cloneB_ (x : Bk) (r : List Bk) (hl : r.length ≤ 1000) : PFresh Try.prog 164 [bks (x :: r)] 57 2 (r.length + 1) (bkC (x :: r)) := by
  refine PFresh.intro (plain_bk _) fun t => ACall.enter tab_ok Try.func164 rfl rfl Try.ntmps164 (by simp) ?_
  simp only [enterTM]
  have f2 : bkC (x :: r) = str x.nm :: int x.w :: bkC r := rfl
  have hcl := cellsC_bk r
  have hld := bkC_div (x :: r)
  have hll := bkC_len (x :: r)
  have f1 : bks (x :: r) = .sl 2 (str x.nm :: int x.w :: bkC r) false := rfl
  rw [f2] at hld hll
  rw [f1, f2]
  simp only [List.length_cons] at hll hld
  ((refine wqa ?_))
  ((refine wqa ?_))
  ((refine wia ?_))
  ((refine wsa ?_))
  ((repeat refine AW_seq ?_); (refine AW_region_k tab_ok fun KR hKR => ?_); (repeat ((first | refine awOps_n rfl fun KK hKK => ?_ | refine awOps_g rfl rfl fun KK hKK => ?_ | refine awOps_gc rfl fun KK hKK => ?_); simp (disch := omega) only [bb, bt, zDs, zD, eqCells, simprocAttr, isSlice, hcl, hld]; refine hKK _ ?_; clear hKK KK)); (refine awOps_nil ?_); (refine hKR _ ?_); (try clear hKR KR); (repeat (with_reducible first | refine q1 ?_ | refine q2 ?_ | refine q3 ?_ | refine q4 ?_ | refine q5 ?_ | refine q6 ?_ | (refine q7 ?_ ?_; (focus (with_unfolding_all rfl))))))
  ((repeat refine AW_seq ?_); (refine wta ?_); simp (disch := omega) only [retQ, resD, oneD, rsv, rs, rsL, rsL_eq_map, List.map_map, bb, bt, zDs, zD, eqCells, simprocAttr, Try.results164])
  exact .inr ⟨0, t + 1, rfl, rfl⟩
theorem cloneBs (l : List Bk) (h0 : 1 ≤ l.length) (hl : l.length ≤ 1000) : PFresh Try.prog 164 [bks l] 57 2 l.length (bkC l) := by
  cases l with
  | nil => simp at h0
  | cons x r => exact cloneB_ x r (by simp at hl; omega)
theorem unitS_chW (s : Sy) (nm : ByteArray) : chW (fun _ b => if b.nm = nm then 1 else 0) s.bs s.bs.length = (unitS s nm).bs := by
  rw [chW_end]
  refine List.ext_getElem? fun i => ?_
  simp only [unitS, List.getElem?_mapIdx, List.getElem?_map]
  rfl
theorem any_nextU {α : Type} (p : α → Bool) {l : List α} {k : Nat} {x : α} (h : l[k]? = some x) : (l.take (k + 1)).any p = ((l.take k).any p || p x) := by
  rw [List.take_add_one, h, Option.toList_some, List.any_append]
  simp
theorem bkC_one {l : List Bk} {i : Nat} {b : Bk} (h : l[i]? = some b) : ((bkC l).drop (i * 2)).take 1 = [str b.nm] := by
  have := bkC_nm h
  obtain ⟨h1, h2⟩ := List.getElem?_eq_some_iff.1 this
  rw [List.drop_eq_getElem_cons h1, h2]
  rfl
def unitE (s : Sy) (nm : ByteArray) : Sy × Int := if validS s = true then (if findB s.bs nm < 0 then (⟨[], []⟩, 9) else (unitS s nm, 0)) else (⟨[], []⟩, 1)
set_option maxHeartbeats 4000000 in
theorem unit13 (s : Sy) (hf : Fits s) (nm : ByteArray) : PRet Try.prog 114 [syD s, str nm] (.tup [syD (unitE s nm).1, int (unitE s nm).2]) := by
  refine PRet.intro 1 fun t => ACall.enter tab_ok Try.func114 rfl rfl Try.ntmps114 (by simp) ?_
  simp only [enterTM]
  have hV := valid_prog s hf
  cases hv : validS s
  · rw [hv] at hV
    have e : unitE s nm = (⟨[], []⟩, 1) := by simp [unitE, hv]
    ((refine gga1 hV ?_))
    ((repeat refine AW_seq ?_); (refine wta ?_); simp (disch := omega) only [retQ, resD, oneD, rsv, rs, rsL, rsL_eq_map, List.map_map, bb, bt, zDs, zD, eqCells, simprocAttr, Try.results114, e])
    rfl
  rw [hv] at hV
  have ok := validS_ok hv
  have hb1 := ok.b1
  have hb6 := ok.b6
  have hC := cloneBs s.bs ok.b1 (by omega)
  have hdb := bkC_div s.bs
  have hlb := bkC_len s.bs
  ((refine gga1 hV ?_))
  intro KR hKR
  ((first | refine awOps_nc fun KK hKK => ?_ | refine awOps_gc rfl fun KK hKK => ?_); simp (disch := omega) only [bb, bt, zDs, zD, eqCells, simprocAttr, goC, callO_fn, argsD, and_self]; refine ACall.of_fresh (hC) (by first | (simp only [List.map_cons, List.map_nil, List.append_nil, List.nil_append, List.cons_append, ufa, uf]; done) | rfl) ?_; simp (disch := omega) only [bb, bt, zDs, zD, eqCells, simprocAttr, afterC]; refine hKK _ ?_; clear hKK KK)
  ((refine wra ?_)); ((refine wea ?_); (try clear hKR KR))
  ((refine ggb0 hdb ?_))
  have hcl := fun (f : Nat → Bk → Int) (k : Nat) => chW_len f s.bs k
  have hun := unitS_chW s nm
  generalize hfe : (fun (_ : Nat) (b : Bk) => if b.nm = nm then (1 : Int) else 0) = f at hun
  ((repeat refine AW_seq ?_))
  refine AW_mid (fun x : Nat => ⟨[(4, .ptr 1 (t + 1 + 1) 0), (6, .ptr 2 (t + 1 + 1 + 1) 0), (7, bool (s.bs.any fun b => decide (b.nm = nm)))], [none, some ⟨49, t + 1 + 1, [.sl 2 [] true, .sl 3 [] true]⟩, some ⟨49, t + 1 + 1 + 1, [.own 2 3 (t + 1 + 1 + 1 + 1) 0 s.bs.length, rps s.rs]⟩, some ⟨57, t + 1 + 1 + 1 + 1, bkC (chW f s.bs s.bs.length)⟩], x⟩) (fun _ => True) ?_ ?_
  · refine AW_block ?_
    refine AW_loop_w (fun x : Nat × Nat => ⟨[(1, str nm), (4, .ptr 1 (t + 1 + 1) 0), (6, .ptr 2 (t + 1 + 1 + 1) 0), (7, bool ((s.bs.take x.1).any fun b => decide (b.nm = nm))), (21, int s.bs.length), (22, int x.1)], [none, some ⟨49, t + 1 + 1, [.sl 2 [] true, .sl 3 [] true]⟩, some ⟨49, t + 1 + 1 + 1, [.own 2 3 (t + 1 + 1 + 1 + 1) 0 s.bs.length, rps s.rs]⟩, some ⟨57, t + 1 + 1 + 1 + 1, bkC (chW f s.bs x.1)⟩], x.2⟩) (fun x => s.bs.length - x.1) (fun x => x.1 ≤ s.bs.length) (0, t + 1 + 1 + 1 + 1) (Nat.zero_le _) (by (simp (disch := omega) only [StLe, tmLe, hpLe_refl, hpLe, bl, bb, bt, zDs, zD, eqCells, simprocAttr, List.take_zero, List.any_nil, chW])) ?_
    rintro ⟨k, tt⟩ hk
    simp only at hk
    by_cases hlt : k < s.bs.length
    · obtain ⟨b, hb⟩ : ∃ y, s.bs[k]? = some y := ⟨_, List.getElem?_eq_getElem hlt⟩
      have hC0 := chW_at (f := f) hb
      have hst := chW_set (f := f) hb
      have hsa := any_nextU (fun b => decide (b.nm = nm)) hb
      have hlc := bkC_len (chW f s.bs k)
      rw [hcl] at hlc
      have hw1 := bkC_wt hC0 0
      have hD0 : ((chW f s.bs k).set k ⟨b.nm, 0⟩)[k]? = some ⟨b.nm, 0⟩ := List.getElem?_set_self (by rw [hcl]; exact hlt)
      have hnm := bkC_nm hD0
      have hn1 := bkC_one hD0
      have hw2 := bkC_wt hD0 1
      rw [List.set_set] at hw2
      have hld := bkC_len ((chW f s.bs k).set k ⟨b.nm, 0⟩)
      rw [List.length_set, hcl] at hld
      cases he : decide (b.nm = nm)
      · have hf0 : f k b = 0 := by rw [← hfe]; exact if_neg (by simpa using he)
        rw [hf0] at hst
        rw [he, Bool.or_false] at hsa
        ((refine ggb0 (F := _∧_) ⟨@Int.ofNat_lt, hlt⟩ ?_))
        ((repeat refine AW_seq ?_))
        refine AW_block ?_
        ((refine ggb0 (F := _∧_∧_∧_∧_∧_∧_) ⟨hlt, hlc, hw1, hnm, hn1, hld, he⟩ ?_))
        refine ⟨(k + 1, tt), hlt, by show s.bs.length - (k + 1) < s.bs.length - k; omega, ?_⟩
        simp only [hst, hsa]
        (simp (disch := omega) only [StLe, tmLe, hpLe_refl, hpLe, bl, bb, bt, zDs, zD, eqCells, simprocAttr])
      · have hf1 : f k b = 1 := by rw [← hfe]; exact if_pos (by simpa using he)
        rw [hf1] at hst
        rw [he, Bool.or_true] at hsa
        ((refine ggb0 (F := _∧_) ⟨@Int.ofNat_lt, hlt⟩ ?_))
        ((repeat refine AW_seq ?_))
        refine AW_block ?_
        ((refine ggb0 (F := _∧_∧_∧_∧_∧_∧_∧_) ⟨hlt, hlc, hw1, hnm, hn1, hld, he, hw2⟩ ?_))
        refine ⟨(k + 1, tt), hlt, by show s.bs.length - (k + 1) < s.bs.length - k; omega, ?_⟩
        simp only [hst, hsa]
        (simp (disch := omega) only [StLe, tmLe, hpLe_refl, hpLe, bl, bb, bt, zDs, zD, eqCells, simprocAttr])
    · have hke : k = s.bs.length := by omega
      subst hke
      rw [List.take_length]
      ((refine wqb @Int.lt_irrefl ?_))
      ((refine wia ?_))
      ((refine wxa ?_))
      exact ⟨tt, trivial, by (simp (disch := omega) only [StLe, tmLe, hpLe_refl, hpLe, bl, bb, bt, zDs, zD, eqCells, simprocAttr])⟩
  rintro tt -
  rw [hun]
  obtain ⟨x1, x2⟩ := idx_lt (fun b : Bk => decide (b.nm = nm)) s.bs 0
  cases ha : s.bs.any (fun b => decide (b.nm = nm))
  · have hfb : findB s.bs nm < 0 := by unfold findB; rw [x2 ha]; omega
    have e : unitE s nm = (⟨[], []⟩, 9) := by simp [unitE, hv, hfb]
    ((refine gga0 ?_))
    ((repeat refine AW_seq ?_); (refine wta ?_); simp (disch := omega) only [retQ, resD, oneD, rsv, rs, rsL, rsL_eq_map, List.map_map, bb, bt, zDs, zD, eqCells, simprocAttr, Try.results114, e])
    rfl
  · have hfb : ¬ findB s.bs nm < 0 := by
      obtain ⟨k, x, hk, _⟩ := x1 ha
      unfold findB
      rw [hk]
      omega
    have e : unitE s nm = (unitS s nm, 0) := by simp [unitE, hv, hfb]
    have hul := unit_len s nm
    have hlu := bkC_len (unitS s nm).bs
    rw [hul] at hlu
    have hfin : List.take (s.bs.length * 2) (bkC (unitS s nm).bs) = bkC (unitS s nm).bs := List.take_of_length_le (by omega)
    have er : (unitS s nm).rs = s.rs := rfl
    rw [e]
    ((refine AW.freeze (3) (by first | rfl | (simp only [setH, List.getElem?_cons_zero, List.getElem?_cons_succ, fz_bk, fz_rp, hfin, hlu, Nat.le_refl]; done)) ?_); simp (disch := omega) only [fzT, fz, fzL, fzL_ints, fzL_mat, fzH, fzB, eq_self, bb, bt, zDs, zD, eqCells, simprocAttr, fz_bk, fz_rp, hfin, hlu, Nat.le_refl])
    ((refine gga0 ?_))
    ((repeat refine AW_seq ?_); (refine wta ?_); simp (disch := omega) only [retQ, resD, oneD, bb, bt, zDs, zD, eqCells, simprocAttr, Try.results114])
    rw [← er]
    exact rsv_tidy _ _ (by simp only [tidyD, tidyL, tidy_bk, tidy_rp, Bool.not_false, Bool.and_self])
theorem over13 (n : Int) (s : Sy) (hf : Fits s) : PRet Try.prog 115 [int n, syD s] (fe (overN n s)) := by
  refine PRet.intro 1 fun t => ACall.enter tab_ok Try.func115 rfl rfl Try.ntmps115 (by simp) ?_
  simp only [enterTM]
  have hH := haul_prog s hf
  have hW := whole13 n
  have hD := rDiv (n, 1) (haulP s).1
  unfold overN
  generalize haulP s = X at *
  cases hx : (X.2 == 0)
  · have e1 : (X.2 != 0) = true := by simpa using hx
    rw [if_neg (by simpa using hx)]
    ((refine ggb1 e1 hH ?_))
    ((repeat refine AW_seq ?_); (refine wta ?_); simp (disch := omega) only [retQ, resD, oneD, rsv, rs, rsL, rsL_eq_map, List.map_map, bb, bt, zDs, zD, eqCells, simprocAttr, Try.results115])
  · have e1 : (X.2 != 0) = false := by simpa using hx
    rw [if_pos (by simpa using hx)]
    generalize divP (n, 1) X.1 = Y at *
    ((refine ggb1 e1 hH ?_))
    ((repeat refine AW_seq ?_); (refine gdza2 hW hD ?_))
    ((repeat refine AW_seq ?_); (refine wta ?_); simp (disch := omega) only [retQ, resD, oneD, rsv, rs, rsL, rsL_eq_map, List.map_map, bb, bt, zDs, zD, eqCells, simprocAttr, Try.results115])
theorem unit_fits {s : Sy} (hf : Fits s) (nm : ByteArray) : Fits (unitE s nm).1 := by
  unfold unitE
  split
  · split
    · exact small_fits rfl
    · exact ⟨by rw [unit_len]; exact hf.nb, hf.nr, fun b hb => by
        obtain ⟨c, hc, rfl⟩ := List.mem_map.1 hb
        exact hf.sb c hc, hf.sr⟩
  · exact small_fits rfl
theorem forces13 (s : Sy) (hf : Fits s) (nm : ByteArray) : PRet Try.prog 53 [syD s, str nm] (fe (forP s nm)) := by
  refine PRet.intro 1 fun t => ACall.enter tab_ok Try.func53 rfl rfl Try.ntmps53 (by simp) ?_
  simp only [enterTM]
  have hU := unit13 s hf nm
  have hO := over13 1 _ (unit_fits hf nm)
  have e : forP s nm = if (unitE s nm).2 = 0 then overN 1 (unitE s nm).1 else ((0, 0), (unitE s nm).2) := by
    unfold forP unitE
    split
    · split
      · rfl
      · rfl
    · rfl
  rw [e]
  generalize unitE s nm = X at *
  cases hx : (X.2 == 0)
  · have e1 : (X.2 != 0) = true := by simpa using hx
    rw [if_neg (by simpa using hx)]
    ((refine ggb1 e1 hU ?_))
    ((repeat refine AW_seq ?_); (refine wta ?_); simp (disch := omega) only [retQ, resD, oneD, rsv, rs, rsL, rsL_eq_map, List.map_map, bb, bt, zDs, zD, eqCells, simprocAttr, Try.results53])
  · have e1 : (X.2 != 0) = false := by simpa using hx
    rw [if_pos (by simpa using hx)]
    generalize overN 1 X.1 = Y at *
    ((refine ggb2 e1 hU hO ?_))
    ((repeat refine AW_seq ?_); (refine wta ?_); simp (disch := omega) only [retQ, resD, oneD, rsv, rs, rsL, rsL_eq_map, List.map_map, bb, bt, zDs, zD, eqCells, simprocAttr, Try.results53])
theorem travels13 (s : Sy) (hf : Fits s) (nm : ByteArray) : PRet Try.prog 54 [syD s, str nm] (fe (travP s nm)) := by
  refine PRet.intro 1 fun t => ACall.enter tab_ok Try.func54 rfl rfl Try.ntmps54 (by simp) ?_
  simp only [enterTM]
  have hT := travel_prog s hf nm
  generalize travP s nm = X at *
  ((refine gga1 hT ?_))
  ((repeat refine AW_seq ?_); (refine wta ?_); simp (disch := omega) only [retQ, resD, oneD, rsv, rs, rsL, rsL_eq_map, List.map_map, bb, bt, zDs, zD, eqCells, simprocAttr, Try.results54])
theorem work13_1 (r : Rp) : PRet Try.prog 119 [.agg (rp1 r)] (bool r.hl) := by
  refine PRet.intro 1 fun t => ACall.enter tab_ok Try.func119 rfl rfl Try.ntmps119 (by simp) ?_
  simp only [enterTM]
  ((refine gga0 ?_))
  ((repeat refine AW_seq ?_); (refine wta ?_); simp (disch := omega) only [retQ, resD, oneD, rsv, rs, rsL, rsL_eq_map, List.map_map, bb, bt, zDs, zD, eqCells, simprocAttr, Try.results119])
set_option maxRecDepth 100000 in
set_option maxHeartbeats 8000000 in
theorem work13 (s : Sy) (hf : Fits s) (h : List Int) (hl : h.length ≤ 1000000) : PRet Try.prog 55 [syD s, ints h] (.tup [frD (workP s h).1, frD (workP s h).2.1, int (workP s h).2.2]) := by
  refine PRet.intro 1 fun t => ACall.enter tab_ok Try.func55 rfl rfl Try.ntmps55 (by simp) ?_
  simp only [enterTM]
  have hS := speeds_prog s hf h hl
  have hH := haul_prog s hf
  unfold workP
  by_cases h1 : (speedsP s h).2 = 0
  rotate_left 1
  · have e1 : ((speedsP s h).2 != 0) = true := by simpa using h1
    rw [if_neg h1]
    generalize speedsP s h = X at *
    ((refine ggb1 e1 hS ?_))
    ((repeat refine AW_seq ?_); (refine wta ?_); simp (disch := omega) only [retQ, resD, oneD, rsv, rs, rsL, rsL_eq_map, List.map_map, bb, bt, zDs, zD, eqCells, simprocAttr, Try.results55])
  have e1 : ((speedsP s h).2 != 0) = false := by simpa using h1
  rw [if_pos h1]
  by_cases h2 : (haulP s).2 = 0
  rotate_left 1
  · have e2 : ((haulP s).2 != 0) = true := by simpa using h2
    rw [if_neg h2]
    generalize speedsP s h = X at *
    generalize haulP s = Y at *
    ((refine ggb2 (F := _∧_) ⟨e1, e2⟩ hS hH ?_))
    ((repeat refine AW_seq ?_); (refine wta ?_); simp (disch := omega) only [retQ, resD, oneD, rsv, rs, rsL, rsL_eq_map, List.map_map, bb, bt, zDs, zD, eqCells, simprocAttr, Try.results55])
  have e2 : ((haulP s).2 != 0) = false := by simpa using h2
  rw [if_pos h2]
  obtain ⟨hv, htz, i, r, ei, hr, hh, _, Z, D, hD, hZ, hVt⟩ := haulP_val h2
  have ok := validS_ok hv
  obtain ⟨X', E, hE, hX, hvl, hV⟩ := speedsP_val h1
  obtain ⟨hg, _⟩ := speedsP_full h1
  obtain ⟨_, hhl, hp⟩ := givH_zero hg
  have hil := (List.getElem?_eq_some_iff.1 hr).1
  have hih : i < h.length := by omega
  obtain ⟨n, hn⟩ : ∃ y, h[i]? = some y := ⟨_, List.getElem?_eq_getElem hih⟩
  have eh : h.getD (hix s).toNat 0 = n := by rw [ei, Int.toNat_natCast, List.getD_eq_getElem?_getD, hn]; rfl
  rw [eh]
  have hI := indexFuncRp s.rs 119 [] (fun r => r.hl) hf.nr (fun x _ => work13_1 x)
  have eI : idx (fun r : Rp => r.hl) s.rs 0 = hix s := rfl
  rw [eI, ei] at hI
  have hW := whole13 n
  have hM := rMul (haulP s).1 (n, 1)
  have hav : allV (speedsP s h).1 = true := allV_of hV
  have hw0 := whole13 0
  have hdb := bkC_div s.bs
  have hb6 := ok.b6
  clear hZ hX hV hVt htz hg hp
  generalize speedsP s h = V at *
  generalize haulP s = T at *
  obtain ⟨v, ve⟩ := V
  obtain ⟨tf, te⟩ := T
  simp only at *
  subst h1
  subst h2
  generalize mulP tf (n, 1) = M at *
  ((refine gga3 hS hH hI ?_))
  ((repeat refine AW_seq ?_); (refine gdob2 (F := _∧_) ⟨hih, hn⟩ hW hM ?_))
  by_cases hm : M.2 = 0
  rotate_left 1
  · have e3 : (M.2 != 0) = true := by simpa using hm
    rw [if_neg hm]
    ((refine ggb0 e3 ?_))
    ((repeat refine AW_seq ?_); (refine wta ?_); simp (disch := omega) only [retQ, resD, oneD, rsv, rs, rsL, rsL_eq_map, List.map_map, bb, bt, zDs, zD, eqCells, simprocAttr, Try.results55])
  have e3 : (M.2 != 0) = false := by simpa using hm
  rw [if_pos hm]
  ((refine ggb1 (F := _∧_) ⟨e3, hdb⟩ hw0 ?_))
  have hvd := frC_div v
  generalize hdd : dotF (wtsS s) v (0, 1) = R at *
  ((repeat refine AW_seq ?_))
  refine AW_mid (fun x : Nat => ⟨[(4, .ptr 1 (t + 1 + 1) 0), (5, .ptr 2 (t + 1 + 1 + 1) 0), (11, .ptr 4 (t + 1 + 1 + 1 + 1 + 1) 0), (12, .ptr 5 (t + 1 + 1 + 1 + 1 + 1 + 1) 0)], [none, some ⟨37, t + 1 + 1, [int 0, int 0]⟩, some ⟨37, t + 1 + 1 + 1, [int 0, int 0]⟩, none, some ⟨37, t + 1 + 1 + 1 + 1 + 1, [int M.1.1, int M.1.2]⟩, some ⟨37, t + 1 + 1 + 1 + 1 + 1 + 1, [int R.1.1, int R.1.2]⟩], x⟩) (fun _ => R.2 = 0) ?_ ?_
  · refine AW_block ?_
    refine AW_loop_w (fun x : (Int × Int) × Nat × Nat => ⟨[(4, .ptr 1 (t + 1 + 1) 0), (5, .ptr 2 (t + 1 + 1 + 1) 0), (7, frs v), (11, .ptr 4 (t + 1 + 1 + 1 + 1 + 1) 0), (12, .ptr 5 (t + 1 + 1 + 1 + 1 + 1 + 1) 0), (58, bks s.bs), (59, int s.bs.length), (60, int x.2.1)], [none, some ⟨37, t + 1 + 1, [int 0, int 0]⟩, some ⟨37, t + 1 + 1 + 1, [int 0, int 0]⟩, none, some ⟨37, t + 1 + 1 + 1 + 1 + 1, [int M.1.1, int M.1.2]⟩, some ⟨37, t + 1 + 1 + 1 + 1 + 1 + 1, [int x.1.1, int x.1.2]⟩], x.2.2⟩) (fun x => s.bs.length - x.2.1) (fun x => x.2.1 ≤ s.bs.length ∧ dotF ((wtsS s).drop x.2.1) (v.drop x.2.1) x.1 = R) ((0, 1), 0, t + 1 + 1 + 1 + 1 + 1 + 1) ⟨Nat.zero_le _, hdd⟩ (by (simp (disch := omega) only [StLe, tmLe, hpLe_refl, hpLe, bl, bb, bt, zDs, zD, eqCells, simprocAttr])) ?_
    rintro ⟨c, k, tt⟩ ⟨hk, hd⟩
    simp only at hk hd
    by_cases hlt : k < s.bs.length
    · obtain ⟨b, hb⟩ : ∃ y, s.bs[k]? = some y := ⟨_, List.getElem?_eq_getElem hlt⟩
      obtain ⟨f, hfk⟩ : ∃ y, v[k]? = some y := ⟨_, List.getElem?_eq_getElem (by omega)⟩
      have hwk : (wtsS s)[k]? = some b.w := by simp [wtsS, hb]
      have hra := bkC_read s.bs k b hb
      have hrf := frC_read v k f hfk
      have hkv : k < v.length := by omega
      rw [dotF_plus hwk hfk] at hd
      have hW2 := whole13 b.w
      have hM2 := rMul (b.w, 1) f
      unfold plusP at hd
      generalize mulP (b.w, 1) f = Y at *
      ((refine ggb0 (F := _∧_) ⟨@Int.ofNat_lt, hlt⟩ ?_))
      ((repeat refine AW_seq ?_))
      refine AW_block ?_
      ((refine ggb0 (F := _∧_∧_) ⟨hlt, hdb, hra⟩ ?_))
      ((repeat refine AW_seq ?_); (refine gdob2 (F := _∧_∧_) ⟨hkv, hvd, hrf⟩ hW2 hM2 ?_))
      by_cases hy : Y.2 = 0
      rotate_left 1
      · have e4 : (Y.2 == 0) = false := by simpa using hy
        have e5 : (Y.2 != 0) = true := by simpa using hy
        rw [if_neg hy, if_neg hy] at hd
        subst hd
        rw [if_neg hy]
        ((refine ggb0 (F := _∧_) ⟨e4, e5⟩ ?_))
        ((repeat refine AW_seq ?_); (refine wta ?_); simp (disch := omega) only [retQ, resD, oneD, rsv, rs, rsL, rsL_eq_map, List.map_map, bb, bt, zDs, zD, eqCells, simprocAttr, Try.results55])
      have e4 : (Y.2 == 0) = true := by simpa using hy
      rw [if_pos hy] at hd
      have hA := rAdd c Y.1
      generalize addP c Y.1 = Q at *
      by_cases hq : Q.2 = 0
      rotate_left 1
      · have e5 : (Q.2 != 0) = true := by simpa using hq
        rw [if_neg hq] at hd
        subst hd
        rw [if_neg hq]
        ((refine ggb1 (F := _∧_) ⟨e4, e5⟩ hA ?_))
        ((repeat refine AW_seq ?_); (refine wta ?_); simp (disch := omega) only [retQ, resD, oneD, rsv, rs, rsL, rsL_eq_map, List.map_map, bb, bt, zDs, zD, eqCells, simprocAttr, Try.results55])
      have e5 : (Q.2 != 0) = false := by simpa using hq
      rw [if_pos hq] at hd
      ((refine ggb1 (F := _∧_) ⟨e4, e5⟩ hA ?_))
      refine ⟨(Q.1, k + 1, tt + 1 + 1), ⟨hlt, hd⟩, by show s.bs.length - (k + 1) < s.bs.length - k; omega, ?_⟩
      (simp (disch := omega) only [StLe, tmLe, hpLe_refl, hpLe, bl, bb, bt, zDs, zD, eqCells, simprocAttr])
    · have hke : k = s.bs.length := by omega
      subst hke
      have hde : dotF ((wtsS s).drop s.bs.length) (v.drop s.bs.length) c = (c, 0) := by
        have hdn : v.drop s.bs.length = [] := List.drop_eq_nil_of_le (by omega)
        rw [hdn]
        cases (wtsS s).drop s.bs.length <;> rfl
      rw [hde] at hd
      subst hd
      ((refine wqb @Int.lt_irrefl ?_))
      ((refine wia ?_))
      ((refine wxa ?_))
      exact ⟨tt, rfl, by (simp (disch := omega) only [StLe, tmLe, hpLe_refl, hpLe, bl, bb, bt, zDs, zD, eqCells, simprocAttr])⟩
  rintro tt hR
  rw [if_pos hR]
  ((repeat refine AW_seq ?_))
  ((repeat refine AW_seq ?_); (refine gdza_AWK ?_))
  ((repeat refine AW_seq ?_); (refine wta ?_); simp (disch := omega) only [retQ, resD, oneD, rsv, rs, rsL, rsL_eq_map, List.map_map, bb, bt, zDs, zD, eqCells, simprocAttr, Try.results55])
def cntB (s : Sy) (b : Bk) : Int := if 0 < b.w ∧ b.w ≤ 16777216 ∧ s.bs.length ≤ 6 then b.w else 0
def cntS (s : Sy) (k : Nat) : Int := ((s.bs.take k).map (cntB s)).sum
theorem cntS_step {s : Sy} {k : Nat} {b : Bk} (h : s.bs[k]? = some b) : cntS s (k + 1) = cntS s k + cntB s b := by
  unfold cntS
  rw [List.take_add_one, h, Option.toList_some, List.map_append, List.sum_append]
  simp
theorem cntS_le (s : Sy) : ∀ k, 0 ≤ cntS s k ∧ cntS s k ≤ k * 16777216
  | 0 => by simp [cntS]
  | k + 1 => by
    have ih := cntS_le s k
    cases h : s.bs[k]? with
    | none =>
      have e : cntS s (k + 1) = cntS s k := by
        unfold cntS
        rw [List.take_add_one, h]
        simp
      rw [e]
      omega
    | some b =>
      rw [cntS_step h]
      unfold cntB
      split <;> omega
theorem cntS_is {s : Sy} (hv : validS s = true) : cntS s s.bs.length = sumW s := by
  have ok := validS_ok hv
  unfold cntS sumW wtsS
  rw [List.take_length]
  congr 1
  refine List.map_congr_left fun b hb => ?_
  have := ok.wts b hb
  have := ok.b6
  unfold cntB
  split <;> omega
theorem over_cnt (s : Sy) : overN (cntS s s.bs.length) s = ratP s := by
  unfold ratP
  by_cases hv : validS s = true
  · rw [cntS_is hv]
  · have e : haulP s = ((0, 0), 1) := by
      unfold haulP tensP
      rw [if_neg hv, if_neg (by decide)]
    unfold overN
    rw [e]
    rfl
set_option maxHeartbeats 4000000 in
theorem ratio13 (s : Sy) (hf : Fits s) : PRet Try.prog 58 [syD s] (fe (ratP s)) := by
  refine PRet.intro 1 fun t => ACall.enter tab_ok Try.func58 rfl rfl Try.ntmps58 (by simp) ?_
  simp only [enterTM]
  have hO := over13 (cntS s s.bs.length) s hf
  rw [over_cnt] at hO
  have hdb := bkC_div s.bs
  have hnb := hf.nb
  have hz0 : cntS s 0 = 0 := rfl
  generalize ratP s = Y at *
  ((refine ggb0 hdb ?_))
  ((repeat refine AW_seq ?_))
  refine AW_mid (fun x : Nat => ⟨[(1, .ptr 0 (t + 1) 0), (2, .ptr 1 (t + 1 + 1) 0), (4, int (cntS s s.bs.length))], [some ⟨49, t + 1, [bks s.bs, rps s.rs]⟩, some ⟨37, t + 1 + 1, [int 0, int 0]⟩], x⟩) (fun _ => True) ?_ ?_
  · refine AW_block ?_
    refine AW_loop_w (fun x : Nat × Nat => ⟨[(1, .ptr 0 (t + 1) 0), (2, .ptr 1 (t + 1 + 1) 0), (4, int (cntS s x.1)), (8, bks s.bs), (9, int s.bs.length), (10, int x.1)], [some ⟨49, t + 1, [bks s.bs, rps s.rs]⟩, some ⟨37, t + 1 + 1, [int 0, int 0]⟩], x.2⟩) (fun x => s.bs.length - x.1) (fun x => x.1 ≤ s.bs.length) (0, t + 1 + 1) (Nat.zero_le _) (by (simp (disch := omega) only [StLe, tmLe, hpLe_refl, hpLe, bl, bb, bt, zDs, zD, eqCells, simprocAttr, hz0])) ?_
    rintro ⟨k, tt⟩ hk
    simp only at hk
    by_cases hlt : k < s.bs.length
    · obtain ⟨b, hb⟩ : ∃ y, s.bs[k]? = some y := ⟨_, List.getElem?_eq_getElem hlt⟩
      have hra := bkC_read s.bs k b hb
      have hst := cntS_step hb
      have hle := cntS_le s k
      unfold cntB at hst
      generalize cntS s k = c at *
      ((refine ggb0 (F := _∧_) ⟨@Int.ofNat_lt, hlt⟩ ?_))
      ((repeat refine AW_seq ?_))
      refine AW_block ?_
      by_cases c1 : 0 < b.w
      · by_cases c2 : b.w ≤ 16777216
        · by_cases c3 : s.bs.length ≤ 6
          · have c3' : (s.bs.length : Int) ≤ 6 := by omega
            rw [if_pos ⟨c1, c2, c3⟩] at hst
            ((refine ggb0 (F := _∧_∧_∧_∧_∧_) ⟨hlt, hdb, hra, c1, c2, c3'⟩ ?_))
            refine ⟨(k + 1, tt + 1), hlt, by show s.bs.length - (k + 1) < s.bs.length - k; omega, ?_⟩
            simp only [hst]
            (simp (disch := omega) only [StLe, tmLe, hpLe_refl, hpLe, bl, bb, bt, zDs, zD, eqCells, simprocAttr])
          · have c3' : ¬ (s.bs.length : Int) ≤ 6 := by omega
            rw [if_neg (by omega), Int.add_zero] at hst
            ((refine ggb0 (F := _∧_∧_∧_∧_∧_) ⟨hlt, hdb, hra, c1, c2, c3'⟩ ?_))
            refine ⟨(k + 1, tt + 1), hlt, by show s.bs.length - (k + 1) < s.bs.length - k; omega, ?_⟩
            simp only [hst]
            (simp (disch := omega) only [StLe, tmLe, hpLe_refl, hpLe, bl, bb, bt, zDs, zD, eqCells, simprocAttr])
        · rw [if_neg (by omega), Int.add_zero] at hst
          ((refine ggb0 (F := _∧_∧_∧_∧_) ⟨hlt, hdb, hra, c1, c2⟩ ?_))
          refine ⟨(k + 1, tt + 1), hlt, by show s.bs.length - (k + 1) < s.bs.length - k; omega, ?_⟩
          simp only [hst]
          (simp (disch := omega) only [StLe, tmLe, hpLe_refl, hpLe, bl, bb, bt, zDs, zD, eqCells, simprocAttr])
      · rw [if_neg (by omega), Int.add_zero] at hst
        ((refine ggb0 (F := _∧_∧_∧_) ⟨hlt, hdb, hra, c1⟩ ?_))
        refine ⟨(k + 1, tt + 1), hlt, by show s.bs.length - (k + 1) < s.bs.length - k; omega, ?_⟩
        simp only [hst]
        (simp (disch := omega) only [StLe, tmLe, hpLe_refl, hpLe, bl, bb, bt, zDs, zD, eqCells, simprocAttr])
    · have hke : k = s.bs.length := by omega
      subst hke
      ((refine wqb @Int.lt_irrefl ?_))
      ((refine wia ?_))
      ((refine wxa ?_))
      exact ⟨tt, trivial, by (simp (disch := omega) only [StLe, tmLe, hpLe_refl, hpLe, bl, bb, bt, zDs, zD, eqCells, simprocAttr])⟩
  rintro tt -
  ((refine gga1 hO ?_))
  ((repeat refine AW_seq ?_); (refine wta ?_); simp (disch := omega) only [retQ, resD, oneD, rsv, rs, rsL, rsL_eq_map, List.map_map, bb, bt, zDs, zD, eqCells, simprocAttr, Try.results58])
end Go.Proofs.Ytjjpjgnoanfaoaa.T

namespace Go.Proofs.Ytjjpjgnoanfaoaa.T
open Go Go.RowKit Lin
theorem gdoa2_AWL {C1 C2 P Q : Prop} (c1 : C1) (c2 : C2) (q : Q) (h : C1 → C2 → Q → P := by
  intro cc1 cc2 hq
  (try with_reducible intro KR hKR)
  (repeat refine AW_seq ?_); (repeat refine AW_seq ?_); (refine AW_drawn_k tab_ok follows_mixed 1 fun KR hKR => ?_); simp only [List.replicate_succ, List.replicate_zero, List.append_nil, List.nil_append, List.cons_append, List.length_cons, List.length_nil, Nat.reduceAdd]; (repeat' ((first | refine awD_n rfl fun KK hKK => ?_ | refine awD_g rfl rfl fun KK hKK => ?_ | refine awD_gc rfl fun KK hKK => ?_ | refine awD_nc fun KK hKK => ?_); simp (disch := omega) only [bb, bt, zDs, zD, eqCells, simprocAttr, bne_self_eq_false, Int.reduceBNe, Int.reduceBEq, Bool.bne_false, Bool.bne_true, Bool.false_bne, Bool.true_bne, goCDS, callDS_fn, argsZ, argsD, ufa, uf]; (try ((first | with_reducible refine PGive.ret (cc1) ?_ | with_reducible refine PGive.ret (cc2) ?_); simp (disch := omega) only [bb, bt, zDs, zD, eqCells, simprocAttr, afterDS, bne_self_eq_false, Int.reduceBNe, Int.reduceBEq, Bool.bne_false, Bool.bne_true, Bool.false_bne, Bool.true_bne])); refine hKK _ _ _ ?_; clear hKK KK)); (refine awD_nil ?_); simp only [List.reverse_cons, List.reverse_nil, List.nil_append, List.cons_append]; (refine hKR _ _ (by first | rfl | kernel_rfl) ?_); (try clear hKR KR); (repeat (with_reducible first | refine q1 ?_ | refine q2 ?_ | refine q3 ?_ | refine q4 ?_ | refine q5 ?_ | refine q6 ?_ | (refine q7 ?_ ?_; (focus (with_unfolding_all rfl)))))
  (first | exact hq | (revert hKR; revert KR; exact hq))) : P := h c1 c2 q
theorem gga4_AWL {C1 C2 C3 C4 P Q : Prop} (c1 : C1) (c2 : C2) (c3 : C3) (c4 : C4) (q : Q) (h : C1 → C2 → C3 → C4 → Q → P := by
  intro cc1 cc2 cc3 cc4 hq
  (try with_reducible intro KR hKR)
  (repeat' (first | (with_reducible refine AW_seq ?_) | (with_reducible refine AW_region_k tab_ok fun KR hKR => ?_) | ((first | with_reducible refine AW_skip ?_ | with_reducible refine AW_exit ?_ | ((with_reducible refine awOps_nil ?_); refine hKR _ ?_; (try clear hKR KR))); (repeat (with_reducible first | refine q1 ?_ | refine q2 ?_ | refine q3 ?_ | refine q4 ?_ | refine q5 ?_ | refine q6 ?_ | (refine q7 ?_ ?_; (focus (with_unfolding_all rfl)))))) | ((first | ((with_reducible refine at_ops ?_); (first | refine awOps_n rfl fun KK hKK => ?_ | refine awOps_g rfl rfl fun KK hKK => ?_ | refine awOps_gc rfl fun KK hKK => ?_ | refine awOps_nc fun KK hKK => ?_)) | with_reducible refine AW_cond_k (tab := tab) fun KK hKK => ?_); simp (disch := omega) only [bb, bt, zDs, zD, eqCells, simprocAttr, bne_self_eq_false, Int.reduceBNe, Int.reduceBEq, Bool.bne_false, Bool.bne_true, Bool.false_bne, Bool.true_bne, goC, callO_fn, argsD, and_self]; (try ((first | (with_reducible refine ACall.of_pret (cc1) ?_ ?_; (focus (first | (simp only [um]; done) | rfl))) | (with_reducible refine ACall.of_pret (cc2) ?_ ?_; (focus (first | (simp only [um]; done) | rfl))) | (with_reducible refine ACall.of_pret (cc3) ?_ ?_; (focus (first | (simp only [um]; done) | rfl))) | (with_reducible refine ACall.of_pret (cc4) ?_ ?_; (focus (first | (simp only [um]; done) | rfl)))); simp only [afterC, St.put, putTM, ↓reduceIte, Nat.reduceEqDiff])); refine hKK _ ?_; clear hKK KK; (first | with_reducible refine at_ops ?_ | with_reducible refine i1 ?_ | with_reducible refine i0 ?_))))
  (first | exact hq | (revert hKR; revert KR; exact hq))) : P := h c1 c2 c3 c4 q
set_option linter.unusedSimpArgs false

/-! Chapter 13: what its laws use. -/
theorem f13 (n : Int) : PRet Try.prog 57 [int n] (frD (n, 1)) := by
  refine PRet.intro 1 fun t => ACall.enter tab_ok Try.func57 rfl rfl Try.ntmps57 (by simp) ?_
  simp only [enterTM]
  ((refine gga0 ?_))
  ((repeat refine AW_seq ?_); (refine wta ?_); simp (disch := omega) only [retQ, resD, oneD, rsv, rs, rsL, rsL_eq_map, List.map_map, bb, bt, zDs, zD, eqCells, simprocAttr, Try.results57])
def ex13 : Sy := ⟨[⟨hB, 10⟩], [⟨hR, [⟨hE, 0, 1, 1⟩, ⟨hB, 2, 1, 1⟩, ⟨hE, 0, 1, 1⟩], true⟩]⟩
theorem example13 : PRet Try.prog 113 [] (syD ex13) := by
  refine PRet.intro 4 fun t => ACall.enter tab_ok Try.func113 rfl rfl Try.ntmps113 (by simp) ?_
  simp only [enterTM]
  have h1 := f13 1
  ((refine gga1 h1 ?_))
  ((repeat refine AW_seq ?_); (refine wta ?_); simp (disch := omega) only [retQ, resD, oneD, rsv, rs, rsL, rsL_eq_map, List.map_map, bb, bt, zDs, zD, eqCells, simprocAttr, Try.results113])
  rfl
theorem ex13_fits : Fits ex13 := small_fits (by decide +kernel)
theorem ex13_for : forP ex13 hB = ((2, 1), 0) := by decide +kernel
theorem ex13_trav : travP ex13 hB = ((2, 1), 0) := by decide +kernel
theorem ex13_work : workP ex13 [6] = ((30, 1), (30, 1), 0) := by decide +kernel
set_option maxHeartbeats 2000000 in
theorem awake13 : PRet Try.prog 51 [] (bool true) := by
  refine PRet.intro 1 fun t => ACall.enter tab_ok Try.func51 rfl rfl Try.ntmps51 (by simp) ?_
  simp only [enterTM]
  have hX := example13
  have hF : PRet Try.prog 53 [syD ex13, str ⟨#[98]⟩] (fe ((2, 1), 0)) := by
    have := forces13 ex13 ex13_fits hB
    rwa [ex13_for] at this
  have hT : PRet Try.prog 54 [syD ex13, str ⟨#[98]⟩] (fe ((2, 1), 0)) := by
    have := travels13 ex13 ex13_fits hB
    rwa [ex13_trav] at this
  have hW : PRet Try.prog 55 [syD ex13, .sl 1 [int 6] false] (.tup [frD (30, 1), frD (30, 1), int 0]) := by
    have := work13 ex13 ex13_fits [6] (by simp)
    rwa [ex13_work] at this
  have h2 := f13 2
  have h3 := f13 30
  generalize ex13 = e at *
  ((refine gga4_AWL hX hF hT hW ?_))
  ((repeat refine AW_seq ?_); (refine gdza2 h2 h3 ?_))
  ((repeat refine AW_seq ?_); (refine wta ?_); simp (disch := omega) only [retQ, resD, oneD, rsv, rs, rsL, rsL_eq_map, List.map_map, bb, bt, zDs, zD, eqCells, simprocAttr, Try.results51])
theorem large13 (s : Sy) : PRet Try.prog 52 [syD s] (bool (!smallS s)) := by
  refine PRet.intro 1 fun t => ACall.enter tab_ok Try.func52 rfl rfl Try.ntmps52 (by simp) ?_
  simp only [enterTM]
  have hS := small_ref s
  cases hs : smallS s
  all_goals
    rw [hs] at hS
    ((refine gga1 hS ?_))
    ((repeat refine AW_seq ?_); (refine wta ?_); simp (disch := omega) only [retQ, resD, oneD, rsv, rs, rsL, rsL_eq_map, List.map_map, bb, bt, zDs, zD, eqCells, simprocAttr, Try.results52])
/-! AdvantageSame. -/
set_option maxHeartbeats 2000000 in
theorem law_same13 (s : Sy) (nm : ByteArray) : PRet Try.prog 8 [syD s, str nm] (bool true) := by
  refine PRet.intro 1 fun t => ACall.enter tab_ok Try.func8 rfl rfl Try.ntmps8 (by simp) ?_
  simp only [enterTM]
  have hL := large13 s
  cases hs : smallS s
  · rw [hs] at hL
    ((refine gga2 awake13 hL ?_))
    ((repeat refine AW_seq ?_); (refine wta ?_); simp (disch := omega) only [retQ, resD, oneD, rsv, rs, rsL, rsL_eq_map, List.map_map, bb, bt, zDs, zD, eqCells, simprocAttr, Try.results8])
  rw [hs] at hL
  by_cases hn : (60 : Int) < nm.size
  · ((refine ggb2 hn awake13 hL ?_))
    ((repeat refine AW_seq ?_); (refine wta ?_); simp (disch := omega) only [retQ, resD, oneD, rsv, rs, rsL, rsL_eq_map, List.map_map, bb, bt, zDs, zD, eqCells, simprocAttr, Try.results8])
  have hf := small_fits hs
  have hF := forces13 s hf nm
  have hT := travels13 s hf nm
  have hnF := forP_nil (s := s) (nm := nm)
  have hnT := travP_nil (s := s) (nm := nm)
  have hsm := adv_same (s := s) (nm := nm)
  generalize forP s nm = X at *
  generalize travP s nm = Y at *
  obtain ⟨x, xe⟩ := X
  obtain ⟨y, ye⟩ := Y
  simp only at *
  by_cases h1 : xe = 0
  · subst h1
    by_cases h2 : ye = 0
    · subst h2
      obtain ⟨rfl, h3⟩ := hsm rfl rfl
      have h3' : (x.1 != 0) = true := by simpa using h3
      have e1 : (x.1 == x.1) = true := by simp
      have e2 : (x.2 == x.2) = true := by simp
      ((refine ggb4 (F := _∧_∧_∧_) ⟨hn, e1, e2, h3'⟩ awake13 hL hF hT ?_))
      ((repeat refine AW_seq ?_); (refine wta ?_); simp (disch := omega) only [retQ, resD, oneD, rsv, rs, rsL, rsL_eq_map, List.map_map, bb, bt, zDs, zD, eqCells, simprocAttr, Try.results8])
    · have e1 : (ye != 0) = true := by simpa using h2
      have e2 : (ye == 0) = false := by simpa using h2
      obtain rfl := hnT h2
      ((refine ggb4 (F := _∧_∧_) ⟨hn, e1, e2⟩ awake13 hL hF hT ?_))
      ((repeat refine AW_seq ?_); (refine wta ?_); simp (disch := omega) only [retQ, resD, oneD, rsv, rs, rsL, rsL_eq_map, List.map_map, bb, bt, zDs, zD, eqCells, simprocAttr, Try.results8])
  · have e1 : (xe != 0) = true := by simpa using h1
    have e2 : (xe == 0) = false := by simpa using h1
    obtain rfl := hnF h1
    by_cases h2 : ye = 0
    · subst h2
      ((refine ggb4 (F := _∧_∧_) ⟨hn, e1, e2⟩ awake13 hL hF hT ?_))
      ((repeat refine AW_seq ?_); (refine wta ?_); simp (disch := omega) only [retQ, resD, oneD, rsv, rs, rsL, rsL_eq_map, List.map_map, bb, bt, zDs, zD, eqCells, simprocAttr, Try.results8])
    · have e3 : (ye == 0) = false := by simpa using h2
      obtain rfl := hnT h2
      ((refine ggb4 (F := _∧_∧_∧_) ⟨hn, e1, e2, e3⟩ awake13 hL hF hT ?_))
      ((repeat refine AW_seq ?_); (refine wta ?_); simp (disch := omega) only [retQ, resD, oneD, rsv, rs, rsL, rsL_eq_map, List.map_map, bb, bt, zDs, zD, eqCells, simprocAttr, Try.results8])
/-! AdvantageEqual. -/
def mulK (h : List Int) (n : Int) (k : Nat) : List Int := (h.take k).map (· * n) ++ h.drop k
theorem mulK_len (h : List Int) (n : Int) (k : Nat) (hk : k ≤ h.length) : (mulK h n k).length = h.length := by simp [mulK]; omega
theorem mulK_at {h : List Int} {n x : Int} {k : Nat} (hx : h[k]? = some x) : (mulK h n k)[k]? = some x := by
  have hk := (List.getElem?_eq_some_iff.1 hx).1
  unfold mulK
  rw [List.getElem?_append_right (by simp; omega)]
  simp only [List.length_map, List.length_take]
  rw [List.getElem?_drop, Nat.min_eq_left (by omega), Nat.sub_self, Nat.add_zero, hx]
theorem mulK_set {h : List Int} {n x : Int} {k : Nat} (hx : h[k]? = some x) : (mulK h n k).set k (x * n) = mulK h n (k + 1) := by
  have hk := (List.getElem?_eq_some_iff.1 hx).1
  have hl : ((h.take k).map (· * n)).length = k := by simp; omega
  unfold mulK
  rw [List.set_append_right _ _ (by omega), hl, Nat.sub_self, List.take_add_one, hx, Option.toList_some, List.map_append, List.append_assoc, List.drop_eq_getElem_cons hk]
  rfl
theorem mulK_end (h : List Int) (n : Int) : mulK h n h.length = h.map (· * n) := by simp [mulK]
theorem mulK_zero (h : List Int) (n : Int) : mulK h n 0 = h := by simp [mulK]
set_option maxRecDepth 100000 in
set_option maxHeartbeats 8000000 in
theorem law_equal13 (s : Sy) (h : List Int) (n : Int) (hn : 0 ≤ n ∧ n < 256) : PRet Try.prog 9 [syD s, ints h, .v (.int .u8 n)] (bool true) := by
  refine PRet.intro 1 fun t => ACall.enter tab_ok Try.func9 rfl rfl Try.ntmps9 (by simp) ?_
  simp only [enterTM]
  have hL := large13 s
  cases hs : smallS s
  · rw [hs] at hL
    ((refine gga2 awake13 hL ?_))
    ((repeat refine AW_seq ?_); (refine wta ?_); simp (disch := omega) only [retQ, resD, oneD, rsv, rs, rsL, rsL_eq_map, List.map_map, bb, bt, zDs, zD, eqCells, simprocAttr, Try.results9])
  rw [hs] at hL
  by_cases hh : (10 : Int) < h.length
  · ((refine ggb2 hh awake13 hL ?_))
    ((repeat refine AW_seq ?_); (refine wta ?_); simp (disch := omega) only [retQ, resD, oneD, rsv, rs, rsL, rsL_eq_map, List.map_map, bb, bt, zDs, zD, eqCells, simprocAttr, Try.results9])
  have hf := small_fits hs
  have hW := work13 s hf h (by omega)
  have hW2 := work13 s hf (h.map (· * n)) (by rw [List.length_map]; omega)
  obtain ⟨wn, wc⟩ := work_cases (s := s) (h := h)
  have wt := fun h0 => work_times (s := s) (h := h) h0 (n := n) (by omega)
  have ws := work_same (s := s) (h := h)
  have ws2 := work_same (s := s) (h := h.map (· * n))
  have hrange : (workP s h).2.2 = 0 → ∀ x ∈ h, -67108864 ≤ x ∧ x ≤ 67108864 := fun h0 x hx => by
    obtain ⟨_, _, _, _, _, e, _⟩ := wc h0
    obtain ⟨hg, _⟩ := speedsP_full e
    obtain ⟨_, hl, hp⟩ := givH_zero hg
    exact withinP_spec (rangedP_within hl hp) x hx
  clear wc
  generalize workP s h = X at *
  generalize workP s (h.map (· * n)) = Y at *
  obtain ⟨a, b, e⟩ := X
  obtain ⟨c, d, g⟩ := Y
  simp only at *
  by_cases he : e = 0
  rotate_left 1
  · have e1 : (e != 0) = true := by simpa using he
    obtain ⟨rfl, rfl⟩ := wn he
    ((refine ggb3 (F := _∧_) ⟨hh, e1⟩ awake13 hL hW ?_))
    ((repeat refine AW_seq ?_); (refine wta ?_); simp (disch := omega) only [retQ, resD, oneD, rsv, rs, rsL, rsL_eq_map, List.map_map, bb, bt, zDs, zD, eqCells, simprocAttr, Try.results9])
  subst he
  obtain rfl := ws rfl
  have hr := hrange rfl
  have x1 : (a.1 != a.1) = false := by simp
  have x2 : (a.2 != a.2) = false := by simp
  have hC := cloneInts h (by omega)
  have hz := mulK_zero h n
  have hend := mulK_end h n
  ((refine ggb3 (F := _∧_∧_) ⟨hh, x1, x2⟩ awake13 hL hW ?_))
  intro KR hKR
  ((first | refine awOps_nc fun KK hKK => ?_ | refine awOps_gc rfl fun KK hKK => ?_); simp (disch := omega) only [bb, bt, zDs, zD, eqCells, simprocAttr, goC, callO_fn, argsD, and_self]; refine ACall.of_fresh (hC) (by first | (simp only [List.map_cons, List.map_nil, List.append_nil, List.nil_append, List.cons_append, ufa, uf]; done) | rfl) ?_; simp (disch := omega) only [bb, bt, zDs, zD, eqCells, simprocAttr, afterC]; refine hKK _ ?_; clear hKK KK)
  ((refine wra ?_)); ((refine wea ?_); (try clear hKR KR))
  ((refine gga0 ?_))
  ((repeat refine AW_seq ?_))
  refine AW_mid (fun x : Nat => ⟨[(2, .v (.int .u8 n)), (3, .ptr 0 (t + 1) 0), (7, .ptr 1 (t + 1 + 1) 0), (10, .own 1 3 (t + 1 + 1 + 1 + 1) 0 h.length)], [some ⟨49, t + 1, [bks s.bs, rps s.rs]⟩, some ⟨37, t + 1 + 1, [int a.1, int a.2]⟩, none, some ⟨3, t + 1 + 1 + 1 + 1, (mulK h n h.length).map int⟩], x⟩) (fun _ => True) ?_ ?_
  · refine AW_block ?_
    refine AW_loop_w (fun x : Nat × Nat => ⟨[(2, .v (.int .u8 n)), (3, .ptr 0 (t + 1) 0), (7, .ptr 1 (t + 1 + 1) 0), (10, .own 1 3 (t + 1 + 1 + 1 + 1) 0 h.length), (49, int h.length), (50, int x.1)], [some ⟨49, t + 1, [bks s.bs, rps s.rs]⟩, some ⟨37, t + 1 + 1, [int a.1, int a.2]⟩, none, some ⟨3, t + 1 + 1 + 1 + 1, (mulK h n x.1).map int⟩], x.2⟩) (fun x => h.length - x.1) (fun x => x.1 ≤ h.length) (0, t + 1 + 1 + 1 + 1) (Nat.zero_le _) (by (simp (disch := omega) only [StLe, tmLe, hpLe_refl, hpLe, bl, bb, bt, zDs, zD, eqCells, simprocAttr, hz])) ?_
    rintro ⟨k, tt⟩ hk
    simp only at hk
    by_cases hlt : k < h.length
    · obtain ⟨x, hx⟩ : ∃ y, h[k]? = some y := ⟨_, List.getElem?_eq_getElem hlt⟩
      obtain ⟨r1, r2⟩ := hr x (List.mem_of_getElem? hx)
      have hat := mulK_at (n := n) hx
      have hlk := mulK_len h n k hk
      have hset : ((mulK h n k).map int).set k (int (x * n)) = (mulK h n (k + 1)).map int := by rw [← mulK_set hx, List.map_set]
      have c1 : ¬ (1099511627776 : Int) < x := by omega
      have c2 : ¬ x < -1099511627776 := by omega
      have b1 : -(67108864 * 255) ≤ x * n ∧ x * n ≤ 67108864 * 255 := by
        have p1 := Int.mul_le_mul_of_nonneg_right r1 hn.1
        have p2 := Int.mul_le_mul_of_nonneg_right r2 hn.1
        omega
      have hw := wr64 (x * n) (by omega)
      ((refine ggb0 (F := _∧_) ⟨@Int.ofNat_lt, hlt⟩ ?_))
      ((repeat refine AW_seq ?_))
      refine AW_block ?_
      ((refine ggb0 (F := _∧_∧_∧_∧_∧_∧_) ⟨hlt, hat, hlk, c1, c2, hw, hset⟩ ?_))
      refine ⟨(k + 1, tt), hlt, by show h.length - (k + 1) < h.length - k; omega, ?_⟩
      (simp (disch := omega) only [StLe, tmLe, hpLe_refl, hpLe, bl, bb, bt, zDs, zD, eqCells, simprocAttr])
    · have hke : k = h.length := by omega
      subst hke
      ((refine wqb @Int.lt_irrefl ?_))
      ((refine wia ?_))
      ((refine wxa ?_))
      exact ⟨tt, trivial, by (simp (disch := omega) only [StLe, tmLe, hpLe_refl, hpLe, bl, bb, bt, zDs, zD, eqCells, simprocAttr])⟩
  rintro tt -
  rw [hend]
  have hfin : List.take h.length ((h.map (· * n)).map int) = (h.map (· * n)).map int := List.take_of_length_le (by simp)
  have hle : h.length ≤ (h.map (· * n)).length := by simp
  ((refine AW.freeze (3) (by first | rfl | (simp only [setH, List.getElem?_cons_zero, List.getElem?_cons_succ, fzL_ints, fz_bk, fz_rp, hfin, hle, List.length_map, Nat.le_refl]; done)) ?_); simp (disch := omega) only [fzT, fz, fzL, fzL_ints, fzL_mat, fzH, fzB, eq_self, bb, bt, zDs, zD, eqCells, simprocAttr, fzL_ints, fz_bk, fz_rp, hfin, hle, List.length_map, Nat.le_refl])
  rcases wt rfl with ⟨h0, hm⟩ | h0 | h0
  rotate_left 1
  · subst h0
    ((refine gga1 hW2 ?_))
    ((repeat refine AW_seq ?_); (refine wta ?_); simp (disch := omega) only [retQ, resD, oneD, rsv, rs, rsL, rsL_eq_map, List.map_map, bb, bt, zDs, zD, eqCells, simprocAttr, Try.results9])
  · subst h0
    ((refine gga1 hW2 ?_))
    ((repeat refine AW_seq ?_); (refine wta ?_); simp (disch := omega) only [retQ, resD, oneD, rsv, rs, rsL, rsL_eq_map, List.map_map, bb, bt, zDs, zD, eqCells, simprocAttr, Try.results9])
  subst h0
  obtain rfl := ws2 rfl
  have hF := f13 n
  have hM := rMul a (n, 1)
  generalize mulP a (n, 1) = M at *
  have x3 : (c.1 == c.1) = true := by simp
  have x4 : (c.2 == c.2) = true := by simp
  ((refine gga1 hW2 ?_))
  ((repeat refine AW_seq ?_); (refine gdoa2_AWL hF hM ?_))
  by_cases hm0 : M.2 = 0
  · have x5 : (M.2 != 0) = false := by simpa using hm0
    rw [← hm hm0]
    ((refine ggb0 (F := _∧_∧_) ⟨x3, x4, x5⟩ ?_))
    ((repeat refine AW_seq ?_); (refine wta ?_); simp (disch := omega) only [retQ, resD, oneD, rsv, rs, rsL, rsL_eq_map, List.map_map, bb, bt, zDs, zD, eqCells, simprocAttr, Try.results9])
  · have x5 : (M.2 != 0) = true := by simpa using hm0
    ((refine ggb0 (F := _∧_∧_) ⟨x3, x4, x5⟩ ?_))
    ((repeat refine AW_seq ?_); (refine wta ?_); simp (disch := omega) only [retQ, resD, oneD, rsv, rs, rsL, rsL_eq_map, List.map_map, bb, bt, zDs, zD, eqCells, simprocAttr, Try.results9])
end Go.Proofs.Ytjjpjgnoanfaoaa.T

namespace Go.Proofs.Ytjjpjgnoanfaoaa.T
open Go Go.RowKit Lin
set_option linter.unusedSimpArgs false

/-! Chapter 13: the best of some systems. -/
theorem sys_len (l : List Sy) : (l.flatMap sy1).length = l.length * 2 := flat_len (f := sy1) (n := 2) (fun _ => rfl) l
theorem sys_div (l : List Sy) : (l.flatMap sy1).length / 2 = l.length := by rw [sys_len]; omega
theorem sys_read (l : List Sy) (k : Nat) (x : Sy) (h : l[k]? = some x) : ((l.flatMap sy1).drop (k * 2)).take 2 = [bks x.bs, rps x.rs] := flat_read (f := sy1) (n := 2) (fun _ => rfl) l k x h
theorem indexFuncSy (l : List Sy) (g : FuncId) (caps : List D) (p : Sy → Bool) (hl : l.length ≤ 1000000) (hp : ∀ x ∈ l, PRet Try.prog g ((syD x :: caps).map ufa) (bool (p x))) : PRet Try.prog 121 [sys l, .fn g caps] (int (idx p l 0)) := by
  refine PRet.intro 1 fun t => ACall.enter tab_ok Try.func121 rfl rfl Try.ntmps121 (by simp) ?_
  simp only [enterTM]
  have hla := sys_len l
  have ha2 := sys_div l
  ((refine ggb0 ha2 ?_))
  ((repeat refine AW_seq ?_))
  refine AW_block ?_
  refine AW_loop_w (fun k : Nat => ⟨[(0, sys l), (1, .fn g caps), (7, int l.length), (8, int k)], [], t⟩) (fun k => l.length - k) (fun k => k ≤ l.length ∧ idx p l 0 = idx p (l.drop k) k) 0 ⟨Nat.zero_le _, rfl⟩ (by (simp (disch := omega) only [StLe, tmLe, hpLe_refl, hpLe, bl, bb, bt, zDs, zD, eqCells, simprocAttr])) fun k ⟨hk, hi⟩ => ?_
  by_cases hlt : k < l.length
  · obtain ⟨x, hx⟩ : ∃ x, l[k]? = some x := ⟨_, List.getElem?_eq_getElem hlt⟩
    have hm := List.mem_of_getElem? hx
    have hd : l.drop k = x :: l.drop (k + 1) := by
      obtain ⟨h1, h2⟩ := List.getElem?_eq_some_iff.1 hx
      rw [List.drop_eq_getElem_cons h1, h2]
    rw [hd] at hi
    have hra := sys_read l k x hx
    have hc := hp x hm
    ((refine ggb0 (F := _∧_) ⟨@Int.ofNat_lt, hlt⟩ ?_))
    ((repeat refine AW_seq ?_))
    refine AW_block ?_
    cases hpx : p x
    · rw [hpx] at hc
      ((refine ggb0 (F := _∧_∧_) ⟨ha2, hlt, hra⟩ ?_))
      ((refine wka1 hc ?_))
      ((refine gga0 ?_))
      refine ⟨k + 1, ⟨hlt, by rw [hi]; simp [idx, hpx]⟩, by omega, ?_⟩
      (simp (disch := omega) only [StLe, tmLe, hpLe_refl, hpLe, bl, bb, bt, zDs, zD, eqCells, simprocAttr])
    · rw [hpx] at hc
      ((refine ggb0 (F := _∧_∧_) ⟨ha2, hlt, hra⟩ ?_))
      ((refine wka1 hc ?_))
      ((refine gga0 ?_))
      ((repeat refine AW_seq ?_); (refine wta ?_); simp (disch := omega) only [retQ, resD, oneD, rsv, rs, rsL, rsL_eq_map, List.map_map, bb, bt, zDs, zD, eqCells, simprocAttr, Try.results121, hi, idx, hpx])
  · ((refine ggb0 (F := _∧_) ⟨@Int.ofNat_lt, hlt⟩ ?_))
    ((repeat refine AW_seq ?_); (refine wta ?_); simp (disch := omega) only [retQ, resD, oneD, rsv, rs, rsL, rsL_eq_map, List.map_map, bb, bt, zDs, zD, eqCells, simprocAttr, Try.results121, hi])
    rw [List.drop_eq_nil_of_le (by omega)]; rfl
theorem idx_anyS {α : Type} (p : α → Bool) (l : List α) : decide (0 ≤ idx p l 0) = l.any p := by
  obtain ⟨h1, h2⟩ := idx_lt p l 0
  cases ha : l.any p
  · rw [h2 ha]; rfl
  · obtain ⟨k, x, e, _⟩ := h1 ha
    rw [e]
    simp
theorem containsFuncSy (l : List Sy) (g : FuncId) (caps : List D) (p : Sy → Bool) (hl : l.length ≤ 1000000) (hp : ∀ x ∈ l, PRet Try.prog g ((syD x :: caps).map ufa) (bool (p x))) : PRet Try.prog 59 [sys l, .fn g caps] (bool (l.any p)) := by
  refine PRet.intro 1 fun t => ACall.enter tab_ok Try.func59 rfl rfl Try.ntmps59 (by simp) ?_
  simp only [enterTM]
  have hI := indexFuncSy l g caps p hl hp
  have hA := idx_anyS p l
  generalize idx p l 0 = z at *
  ((refine gga1 hI ?_))
  ((repeat refine AW_seq ?_); (refine wta ?_); simp (disch := omega) only [retQ, resD, oneD, rsv, rs, rsL, rsL_eq_map, List.map_map, bb, bt, zDs, zD, eqCells, simprocAttr, Try.results59, hA])
theorem best1 (s : Sy) (hf : Fits s) : PRet Try.prog 128 [syD s] (bool (!validS s)) := by
  refine PRet.intro 1 fun t => ACall.enter tab_ok Try.func128 rfl rfl Try.ntmps128 (by simp) ?_
  simp only [enterTM]
  have hV := valid_prog s hf
  cases hv : validS s
  all_goals
    rw [hv] at hV
    ((refine gga1 hV ?_))
    ((repeat refine AW_seq ?_); (refine wta ?_); simp (disch := omega) only [retQ, resD, oneD, rsv, rs, rsL, rsL_eq_map, List.map_map, bb, bt, zDs, zD, eqCells, simprocAttr, Try.results128])
theorem bstK_in (l : List Sy) (nm : ByteArray) (k : Nat) (hk : k ≤ l.length) : (bstK l nm k).2 < 0 ∨ (0 ≤ (bstK l nm k).2 ∧ vfrac (bstK l nm k).1.1 (bstK l nm k).1.2 = true) := by
  rcases bstK_spec l nm k hk with ⟨h, _⟩ | ⟨n, b, h1, _, _, h4, h5, _⟩
  · left; omega
  · right
    rw [h5]
    exact ⟨by omega, forP_vfrac h4⟩
theorem bstK_num (l : List Sy) (nm : ByteArray) (k : Nat) (hk : k ≤ l.length) : -1 ≤ (bstK l nm k).2 ∧ (bstK l nm k).2 < l.length := by
  rcases bstK_spec l nm k hk with ⟨h, _⟩ | ⟨n, b, h1, h2, _⟩
  · omega
  · omega
set_option maxRecDepth 100000 in
set_option maxHeartbeats 8000000 in
theorem best13 (l : List Sy) (nm : ByteArray) (hl : l.length ≤ 1000) (hf : ∀ x ∈ l, Fits x) : PRet Try.prog 63 [sys l, str nm] (.tup [int (bestP l nm).1, int (bestP l nm).2]) := by
  refine PRet.intro 1 fun t => ACall.enter tab_ok Try.func63 rfl rfl Try.ntmps63 (by simp) ?_
  simp only [enterTM]
  have hC := containsFuncSy l 128 [] (fun s => !validS s) (by omega) (fun x hx => best1 x (hf x hx))
  have hla := sys_len l
  have hld := sys_div l
  cases ha : l.any (fun s => !validS s)
  rotate_left 1
  · rw [ha] at hC
    have e : bestP l nm = (0, 1) := by unfold bestP; rw [if_pos ha]
    ((refine gga0 ?_))
    ((repeat refine AW_seq ?_))
    refine AW_block ?_
    ((refine gga1 hC ?_))
    ((repeat refine AW_seq ?_); (refine wta ?_); simp (disch := omega) only [retQ, resD, oneD, rsv, rs, rsL, rsL_eq_map, List.map_map, bb, bt, zDs, zD, eqCells, simprocAttr, Try.results63, e])
  rw [ha] at hC
  by_cases h20 : 20 < l.length
  · have h20' : (20 : Int) < l.length := by omega
    have e : bestP l nm = (0, 4) := by unfold bestP; rw [if_neg (by rw [ha]; decide), if_pos h20]
    ((refine gga0 ?_))
    ((repeat refine AW_seq ?_))
    refine AW_block ?_
    ((refine ggb1 (F := _∧_) ⟨h20', hld⟩ hC ?_))
    ((repeat refine AW_seq ?_); (refine wta ?_); simp (disch := omega) only [retQ, resD, oneD, rsv, rs, rsL, rsL_eq_map, List.map_map, bb, bt, zDs, zD, eqCells, simprocAttr, Try.results63, e])
  have h20' : ¬ (20 : Int) < l.length := by omega
  have e : bestP l nm = if (bstK l nm l.length).2 < 0 then (0, 12) else ((bstK l nm l.length).2, 0) := by unfold bestP; rw [if_neg (by rw [ha]; decide), if_neg h20]
  rw [e]
  ((refine gga0 ?_))
  ((repeat refine AW_seq ?_))
  refine AW_block ?_
  ((refine ggb1 (F := _∧_) ⟨h20', hld⟩ hC ?_))
  have hz : bstK l nm 0 = ((0, 0), -1) := rfl
  ((repeat refine AW_seq ?_))
  refine AW_mid (fun x : Nat => ⟨[(7, int (bstK l nm l.length).2)], [], x⟩) (fun _ => True) ?_ ?_
  · refine AW_block ?_
    refine AW_loop_w (fun x : Nat × Nat => ⟨[(1, str nm), (6, .ptr 0 (t + 1) 0), (7, int (bstK l nm x.1).2), (22, sys l), (23, int l.length), (24, int x.1)], [some ⟨37, t + 1, [int (bstK l nm x.1).1.1, int (bstK l nm x.1).1.2]⟩], x.2⟩) (fun x => l.length - x.1) (fun x => x.1 ≤ l.length) (0, t + 1) (Nat.zero_le _) (by (simp (disch := omega) only [StLe, tmLe, hpLe_refl, hpLe, bl, bb, bt, zDs, zD, eqCells, simprocAttr, hz])) ?_
    rintro ⟨k, tt⟩ hk
    simp only at hk
    by_cases hlt : k < l.length
    · obtain ⟨x, hx⟩ : ∃ y, l[k]? = some y := ⟨_, List.getElem?_eq_getElem hlt⟩
      have hra := sys_read l k x hx
      have hF := forces13 x (hf x (List.mem_of_getElem? hx)) nm
      have hst := bstK_step (nm := nm) hx
      have hin := bstK_in l nm k hk
      have hnum := bstK_num l nm k hk
      have hfv := forP_vfrac (s := x) (nm := nm)
      unfold bstS at hst
      generalize forP x nm = Y at *
      generalize bstK l nm k = B at *
      have hM := rCmp Y.1 B.1
      by_cases hy : Y.2 = 0
      rotate_left 1
      · have e1 : (Y.2 != 0) = true := by simpa using hy
        rw [if_neg (fun h => hy h.1)] at hst
        ((refine ggb0 (F := _∧_) ⟨@Int.ofNat_lt, hlt⟩ ?_))
        ((repeat refine AW_seq ?_))
        refine AW_block ?_
        ((refine ggb1 (F := _∧_∧_∧_) ⟨hlt, hld, hra, e1⟩ hF ?_))
        refine ⟨(k + 1, tt + 1 + 1), hlt, by show l.length - (k + 1) < l.length - k; omega, ?_⟩
        simp only [hst]
        (simp (disch := omega) only [StLe, tmLe, hpLe_refl, hpLe, bl, bb, bt, zDs, zD, eqCells, simprocAttr])
      have e1 : (Y.2 != 0) = false := by simpa using hy
      by_cases hb : B.2 < 0
      · rw [if_pos ⟨hy, .inl hb⟩] at hst
        ((refine ggb0 (F := _∧_) ⟨@Int.ofNat_lt, hlt⟩ ?_))
        ((repeat refine AW_seq ?_))
        refine AW_block ?_
        ((refine ggb2 (F := _∧_∧_∧_∧_) ⟨hlt, hld, hra, e1, hb⟩ hF hM ?_))
        refine ⟨(k + 1, tt + 1 + 1), hlt, by show l.length - (k + 1) < l.length - k; omega, ?_⟩
        simp only [hst]
        (simp (disch := omega) only [StLe, tmLe, hpLe_refl, hpLe, bl, bb, bt, zDs, zD, eqCells, simprocAttr])
      have hbv := (hin.resolve_left hb).2
      rw [cmpP_ok (hfv hy) hbv] at hM
      by_cases hc : 0 < cmpV Y.1 B.1
      · rw [if_pos ⟨hy, .inr hc⟩] at hst
        ((refine ggb0 (F := _∧_) ⟨@Int.ofNat_lt, hlt⟩ ?_))
        ((repeat refine AW_seq ?_))
        refine AW_block ?_
        ((refine ggb2 (F := _∧_∧_∧_∧_∧_) ⟨hlt, hld, hra, e1, hb, hc⟩ hF hM ?_))
        refine ⟨(k + 1, tt + 1 + 1), hlt, by show l.length - (k + 1) < l.length - k; omega, ?_⟩
        simp only [hst]
        (simp (disch := omega) only [StLe, tmLe, hpLe_refl, hpLe, bl, bb, bt, zDs, zD, eqCells, simprocAttr])
      · rw [if_neg (fun h => h.2.elim hb hc)] at hst
        ((refine ggb0 (F := _∧_) ⟨@Int.ofNat_lt, hlt⟩ ?_))
        ((repeat refine AW_seq ?_))
        refine AW_block ?_
        ((refine ggb2 (F := _∧_∧_∧_∧_∧_) ⟨hlt, hld, hra, e1, hb, hc⟩ hF hM ?_))
        refine ⟨(k + 1, tt + 1 + 1), hlt, by show l.length - (k + 1) < l.length - k; omega, ?_⟩
        simp only [hst]
        (simp (disch := omega) only [StLe, tmLe, hpLe_refl, hpLe, bl, bb, bt, zDs, zD, eqCells, simprocAttr])
    · have hke : k = l.length := by omega
      subst hke
      ((refine wqb @Int.lt_irrefl ?_))
      ((refine wia ?_))
      ((refine wxa ?_))
      exact ⟨tt, trivial, by (simp (disch := omega) only [StLe, tmLe, hpLe_refl, hpLe, bl, bb, bt, zDs, zD, eqCells, simprocAttr])⟩
  rintro tt -
  generalize bstK l nm l.length = B at *
  by_cases hb : B.2 < 0
  · rw [if_pos hb]
    ((refine ggb0 hb ?_))
    ((repeat refine AW_seq ?_); (refine wta ?_); simp (disch := omega) only [retQ, resD, oneD, rsv, rs, rsL, rsL_eq_map, List.map_map, bb, bt, zDs, zD, eqCells, simprocAttr, Try.results63])
  · rw [if_neg hb]
    ((refine ggb0 hb ?_))
    ((repeat refine AW_seq ?_); (refine wta ?_); simp (disch := omega) only [retQ, resD, oneD, rsv, rs, rsL, rsL_eq_map, List.map_map, bb, bt, zDs, zD, eqCells, simprocAttr, Try.results63])
end Go.Proofs.Ytjjpjgnoanfaoaa.T

namespace Go.Proofs.Ytjjpjgnoanfaoaa.T
open Go Go.RowKit Lin
theorem gdoa2_AWH {C1 C2 P Q : Prop} (c1 : C1) (c2 : C2) (q : Q) (h : C1 → C2 → Q → P := by
  intro cc1 cc2 hq
  (try with_reducible intro KR hKR)
  (repeat refine AW_seq ?_); (repeat refine AW_seq ?_); (refine AW_drawn_k tab_ok follows_mixed 1 fun KR hKR => ?_); simp only [List.replicate_succ, List.replicate_zero, List.append_nil, List.nil_append, List.cons_append, List.length_cons, List.length_nil, Nat.reduceAdd]; (repeat' ((first | refine awD_n rfl fun KK hKK => ?_ | refine awD_g rfl rfl fun KK hKK => ?_ | refine awD_gc rfl fun KK hKK => ?_ | refine awD_nc fun KK hKK => ?_); simp (disch := omega) only [bb, bt, zDs, zD, eqCells, simprocAttr, bne_self_eq_false, Int.reduceBNe, Int.reduceBEq, Bool.bne_false, Bool.bne_true, Bool.false_bne, Bool.true_bne, goCDS, callDS_fn, argsZ, argsD, ufa, uf]; (try ((first | with_reducible refine PGive.ret (cc1) ?_ | with_reducible refine PGive.ret (cc2) ?_); simp (disch := omega) only [bb, bt, zDs, zD, eqCells, simprocAttr, afterDS, bne_self_eq_false, Int.reduceBNe, Int.reduceBEq, Bool.bne_false, Bool.bne_true, Bool.false_bne, Bool.true_bne])); refine hKK _ _ _ ?_; clear hKK KK)); (refine awD_nil ?_); simp only [List.reverse_cons, List.reverse_nil, List.nil_append, List.cons_append]; (refine hKR _ _ (by first | rfl | kernel_rfl) ?_); (try clear hKR KR); (repeat (with_reducible first | refine q1 ?_ | refine q2 ?_ | refine q3 ?_ | refine q4 ?_ | refine q5 ?_ | refine q6 ?_ | (refine q7 ?_ ?_; (focus (with_unfolding_all rfl)))))
  (first | exact hq | (revert hKR; revert KR; exact hq))) : P := h c1 c2 q
set_option linter.unusedSimpArgs false

/-! AdvantageHolds. -/
def bndF (a : Int × Int) : Prop := 0 ≤ a.2 ∧ a.2 ≤ 1152921504606846976 ∧ -1152921504606846976 ≤ a.1 ∧ a.1 ≤ 1152921504606846976
theorem bndF.of {a : Int × Int} (h : vfrac a.1 a.2 = true) : bndF a := by
  obtain ⟨h1, h2, h3, h4, _⟩ := fr_bounds h
  exact ⟨by omega, h2, h3, h4⟩
theorem madeP_bnd (n : Nat) (s : Bool) (d : Nat) : bndF (madeP n s d).1 := by
  unfold madeP
  split
  · simp [bndF]
  · generalize n / Nat.gcd n d = x
    generalize d / Nat.gcd n d = y
    unfold signP
    split
    · simp [bndF]
    · cases s
      all_goals
        simp only [bndF]
        simp
        omega
theorem addR_bnd (a b : Int × Int) : bndF (addR a b).1 := by
  unfold addR
  split
  · exact madeP_bnd _ _ _
  · split <;> exact madeP_bnd _ _ _
set_option maxHeartbeats 1000000 in
theorem refAddW (a b : Int × Int) (ha : bndF a) (hb : bndF b) : PRet Try.prog 62 [frD a, frD b] (fe (addR a b)) := by
  obtain ⟨a1, a2, a3, a4⟩ := ha
  obtain ⟨b1, b2, b3, b4⟩ := hb
  obtain ⟨n, d⟩ := a
  obtain ⟨u, v⟩ := b
  simp only at *
  have s1 := refSize n (by omega)
  have s2 := refSize u (by omega)
  have s3 := refSize d (by omega)
  have s4 := refSize v (by omega)
  have m1 := refMul n.natAbs v.natAbs (by omega)
  have m2 := refMul u.natAbs d.natAbs (by omega)
  have m3 := refMul d.natAbs v.natAbs (by omega)
  have c1 : n.natAbs * v.natAbs ≤ 1152921504606846976 * 1152921504606846976 := Nat.mul_le_mul (by omega) (by omega)
  have c2 : u.natAbs * d.natAbs ≤ 1152921504606846976 * 1152921504606846976 := Nat.mul_le_mul (by omega) (by omega)
  have c3 : d.natAbs * v.natAbs ≤ 1152921504606846976 * 1152921504606846976 := Nat.mul_le_mul (by omega) (by omega)
  unfold addR
  simp only
  generalize n.natAbs * v.natAbs = x at *
  generalize u.natAbs * d.natAbs = y at *
  generalize d.natAbs * v.natAbs = z at *
  refine PRet.intro 2 fun t => ACall.enter tab_ok Try.func62 rfl rfl Try.ntmps62 (by simp) ?_
  simp only [enterTM]
  ((refine gga0 ?_))
  ((repeat refine AW_seq ?_); (refine gdoa3 s1 s4 m1 ?_))
  ((repeat refine AW_seq ?_); (refine gdoa3 s2 s3 m2 ?_))
  ((repeat refine AW_seq ?_); (refine gdoa3 s3 s4 m3 ?_))
  by_cases hsg : decide (n < 0) = decide (u < 0)
  · have e : (decide (n < 0) == decide (u < 0)) = true := by rw [hsg]; simp
    rw [if_pos hsg]
    have hp := refPlus x y (by omega)
    have hm := made (x + y) (decide (n < 0)) z (by omega) (by omega)
    generalize madeP (x + y) (decide (n < 0)) z = r at *
    ((refine ggb0 e ?_))
    ((repeat refine AW_seq ?_); (refine gdza2 hp hm ?_))
    ((repeat refine AW_seq ?_); (refine wta ?_); simp (disch := omega) only [retQ, resD, oneD, rsv, rs, rsL, rsL_eq_map, List.map_map, bb, bt, zDs, zD, eqCells, simprocAttr, Try.results62])
  · have e : (decide (n < 0) == decide (u < 0)) = false := by simpa using hsg
    rw [if_neg hsg]
    have hl := refLess x y (by omega)
    by_cases hlt : x < y
    · rw [decide_eq_true hlt] at hl
      rw [if_pos hlt]
      have hp := refMinus y x (by omega)
      have hm := made (y - x) (decide (u < 0)) z (by omega) (by omega)
      generalize madeP (y - x) (decide (u < 0)) z = r at *
      ((refine ggb1 e hl ?_))
      ((repeat refine AW_seq ?_); (refine gdza2 hp hm ?_))
      ((repeat refine AW_seq ?_); (refine wta ?_); simp (disch := omega) only [retQ, resD, oneD, rsv, rs, rsL, rsL_eq_map, List.map_map, bb, bt, zDs, zD, eqCells, simprocAttr, Try.results62])
    · rw [decide_eq_false hlt] at hl
      rw [if_neg hlt]
      have hp := refMinus x y (by omega)
      have hm := made (x - y) (decide (n < 0)) z (by omega) (by omega)
      generalize madeP (x - y) (decide (n < 0)) z = r at *
      ((refine ggb1 e hl ?_))
      ((repeat refine AW_seq ?_); (refine gdza2 hp hm ?_))
      ((repeat refine AW_seq ?_); (refine wta ?_); simp (disch := omega) only [retQ, resD, oneD, rsv, rs, rsL, rsL_eq_map, List.map_map, bb, bt, zDs, zD, eqCells, simprocAttr, Try.results62])
theorem bestP_nil {l : List Sy} {nm : ByteArray} (h : (bestP l nm).2 ≠ 0) : (bestP l nm).1 = 0 := by
  unfold bestP at h ⊢
  split
  · rfl
  · rename_i h1
    rw [if_neg h1] at h
    split
    · rfl
    · rename_i h2
      rw [if_neg h2] at h
      split
      · rfl
      · rename_i h3
        rw [if_neg h3] at h
        exact absurd rfl h
theorem bestP_ok {l : List Sy} {nm : ByteArray} (h : (bestP l nm).2 = 0) : ∃ (n : Nat) (b : Sy), bestP l nm = ((n : Int), 0) ∧ n < l.length ∧ l[n]? = some b ∧ (forP b nm).2 = 0 ∧ ∀ i s, l[i]? = some s → (forP s nm).2 = 0 → ¬ 0 < cmpV (forP s nm).1 (forP b nm).1 ∧ (cmpV (forP s nm).1 (forP b nm).1 = 0 → n ≤ i) := by
  unfold bestP at h ⊢
  split at h
  · exact absurd h (by decide)
  · rename_i h1
    split at h
    · exact absurd h (by decide)
    · rename_i h2
      split at h
      · exact absurd h (by decide)
      · rename_i h3
        rcases bstK_spec l nm l.length (Nat.le_refl _) with ⟨h4, _⟩ | ⟨n, b, g1, g2, g3, g4, _, g6⟩
        · omega
        · rw [if_neg h1, if_neg h2, if_neg h3, g1]
          exact ⟨n, b, rfl, g2, g3, g4, fun i s hi hf => g6 i s (List.getElem?_eq_some_iff.1 hi).1 hi hf⟩
set_option maxRecDepth 100000 in
set_option maxHeartbeats 16000000 in
theorem law_holds13 (s : Sy) (l : List Sy) (nm : ByteArray) : PRet Try.prog 11 [syD s, sys l, str nm] (bool true) := by
  refine PRet.intro 1 fun t => ACall.enter tab_ok Try.func11 rfl rfl Try.ntmps11 (by simp) ?_
  simp only [enterTM]
  have hL := large13 s
  have hld := sys_div l
  cases hs : smallS s
  · rw [hs] at hL
    ((refine gga2 awake13 hL ?_))
    ((repeat refine AW_seq ?_); (refine wta ?_); simp (disch := omega) only [retQ, resD, oneD, rsv, rs, rsL, rsL_eq_map, List.map_map, bb, bt, zDs, zD, eqCells, simprocAttr, Try.results11])
  rw [hs] at hL
  by_cases hn : (60 : Int) < nm.size
  · ((refine ggb2 hn awake13 hL ?_))
    ((repeat refine AW_seq ?_); (refine wta ?_); simp (disch := omega) only [retQ, resD, oneD, rsv, rs, rsL, rsL_eq_map, List.map_map, bb, bt, zDs, zD, eqCells, simprocAttr, Try.results11])
  by_cases hl6 : 6 < l.length
  · have hl6' : (6 : Int) < l.length := by omega
    ((refine ggb2 (F := _∧_∧_) ⟨hn, hld, hl6'⟩ awake13 hL ?_))
    ((repeat refine AW_seq ?_); (refine wta ?_); simp (disch := omega) only [retQ, resD, oneD, rsv, rs, rsL, rsL_eq_map, List.map_map, bb, bt, zDs, zD, eqCells, simprocAttr, Try.results11])
  have hl6' : ¬ (6 : Int) < l.length := by omega
  have hC := containsFuncSy l 52 [] (fun x => !smallS x) (by omega) (fun x _ => large13 x)
  cases ha : l.any (fun x => !smallS x)
  rotate_left 1
  · rw [ha] at hC
    ((refine ggb3 (F := _∧_∧_) ⟨hn, hld, hl6'⟩ awake13 hL hC ?_))
    ((repeat refine AW_seq ?_); (refine wta ?_); simp (disch := omega) only [retQ, resD, oneD, rsv, rs, rsL, rsL_eq_map, List.map_map, bb, bt, zDs, zD, eqCells, simprocAttr, Try.results11])
  rw [ha] at hC
  have hfl : ∀ x ∈ l, Fits x := fun x hx => small_fits (by have := List.any_eq_false.1 ha x hx; simpa using this)
  have hf := small_fits hs
  have hH := haul_prog s hf
  have hB := best13 l nm (by omega) hfl
  have hf0 := f13 0
  ((refine ggb4 (F := _∧_∧_) ⟨hn, hld, hl6'⟩ awake13 hL hC hH ?_))
  ((repeat refine AW_seq ?_))
  refine AW_mid (fun x : Nat => ⟨[(1, sys l), (2, str nm)], [], x⟩) (fun _ => True) ?_ ?_
  · by_cases h0 : (haulP s).2 = 0
    rotate_left 1
    · have e0 : ((haulP s).2 == 0) = false := by simpa using h0
      ((refine ggb0 e0 ?_))
      exact ⟨t + 1 + 1, trivial, by (simp (disch := omega) only [StLe, tmLe, hpLe_refl, hpLe, bl, bb, bt, zDs, zD, eqCells, simprocAttr])⟩
    have e0 : ((haulP s).2 == 0) = true := by simpa using h0
    obtain ⟨hv, hz, i, r, ei, hr, _⟩ := haulP_val h0
    have ok := validS_ok hv
    have hb6 := ok.b6
    have hdb := bkC_div s.bs
    have hend := fun {c : Int × Int} (h : SumI s i s.bs.length c) => SumI.end_ ei h h0
    generalize (haulP s).1 = H0 at *
    ((refine ggb1 (F := _∧_) ⟨e0, hdb⟩ hf0 ?_))
    ((repeat refine AW_seq ?_))
    refine AW_mid (fun x : (Int × Int) × Bool × Nat => ⟨[(1, sys l), (2, str nm), (7, .ptr 1 (t + 1 + 1) 0), (9, .ptr 2 (t + 1 + 1 + 1) 0), (10, bool x.2.1)], [none, some ⟨37, t + 1 + 1, [int H0.1, int H0.2]⟩, some ⟨37, t + 1 + 1 + 1, [int x.1.1, int x.1.2]⟩], x.2.2⟩) (fun x => x.2.1 = true → x.1 = H0) ?_ ?_
    · refine AW_block ?_
      refine AW_loop_w (fun x : (Int × Int) × Bool × Nat × Nat => ⟨[(1, sys l), (2, str nm), (3, .ptr 0 (t + 1) 0), (7, .ptr 1 (t + 1 + 1) 0), (9, .ptr 2 (t + 1 + 1 + 1) 0), (10, bool x.2.1), (56, bks s.bs), (57, int s.bs.length), (58, int x.2.2.1)], [some ⟨49, t + 1, [bks s.bs, rps s.rs]⟩, some ⟨37, t + 1 + 1, [int H0.1, int H0.2]⟩, some ⟨37, t + 1 + 1 + 1, [int x.1.1, int x.1.2]⟩], x.2.2.2⟩) (fun x => s.bs.length - x.2.2.1) (fun x => x.2.2.1 ≤ s.bs.length ∧ bndF x.1 ∧ (x.2.1 = true → SumI s i x.2.2.1 x.1)) ((0, 1), true, 0, t + 1 + 1 + 1) ⟨Nat.zero_le _, by simp [bndF], fun _ => SumI.zero s i⟩ (by (simp (disch := omega) only [StLe, tmLe, hpLe_refl, hpLe, bl, bb, bt, zDs, zD, eqCells, simprocAttr])) ?_
      rintro ⟨c, F, k, tt⟩ ⟨hk, hcb, hsum⟩
      simp only at hk hcb hsum
      by_cases hlt : k < s.bs.length
      · obtain ⟨b, hb⟩ : ∃ y, s.bs[k]? = some y := ⟨_, List.getElem?_eq_getElem hlt⟩
        have bw := ok.wts b (List.mem_of_getElem? hb)
        have hra := bkC_read s.bs k b hb
        have hF := forces13 s hf b.nm
        have hu := hold_unit hv hz ei hb
        have hW := f13 b.w
        have hD := rDiv (b.w, 1) (forP s b.nm).1
        have hterm := fun h => hold_term (s := s) (b := b) h bw ei
        have hzero := fun h => hold_zero (s := s) (b := b) h ei
        generalize forP s b.nm = X at *
        generalize divP (b.w, 1) X.1 = M at *
        obtain ⟨x, xe⟩ := X
        simp only at *
        ((refine ggb0 (F := _∧_) ⟨@Int.ofNat_lt, hlt⟩ ?_))
        ((repeat refine AW_seq ?_))
        refine AW_block ?_
        rcases hu with rfl | rfl | rfl
        rotate_left 1
        · obtain ⟨Y, E, hE, hY, eY⟩ := hzero rfl
          ((refine ggb1 (F := _∧_∧_) ⟨hdb, hlt, hra⟩ hF ?_))
          refine ⟨(c, F, k + 1, tt + 1 + 1), ⟨hlt, hcb, fun h => SumI.same hv ei (hsum h) hb hE hY eY⟩, by show s.bs.length - (k + 1) < s.bs.length - k; omega, ?_⟩
          (simp (disch := omega) only [StLe, tmLe, hpLe_refl, hpLe, bl, bb, bt, zDs, zD, eqCells, simprocAttr])
        · ((refine ggb1 (F := _∧_∧_) ⟨hdb, hlt, hra⟩ hF ?_))
          exact ⟨(c, false, tt + 1 + 1), fun h => (by cases h), by (simp (disch := omega) only [StLe, tmLe, hpLe_refl, hpLe, bl, bb, bt, zDs, zD, eqCells, simprocAttr])⟩
        ((refine ggb1 (F := _∧_∧_) ⟨hdb, hlt, hra⟩ hF ?_))
        ((repeat refine AW_seq ?_); (refine gdoa2_AWH hW hD ?_))
        by_cases hd0 : M.2 = 0
        rotate_left 1
        · have e1 : (M.2 != 0) = true := by simpa using hd0
          ((refine ggb0 e1 ?_))
          exact ⟨(c, false, tt + 1 + 1 + 1), fun h => (by cases h), by (simp (disch := omega) only [StLe, tmLe, hpLe_refl, hpLe, bl, bb, bt, zDs, zD, eqCells, simprocAttr])⟩
        obtain ⟨Y, E, r, q, hE, hY, hvM, eY⟩ := hterm rfl hd0
        have hnx := fun (h : SumI s i k c) => SumI.next hv ei h hb hE hY hvM eY
        have hA := refAddW c M.1 hcb (bndF.of hvM.v)
        have hab := addR_bnd c M.1
        have e1 : (M.2 != 0) = false := by simpa using hd0
        generalize addR c M.1 = A at *
        cases F
        · ((refine ggb1 e1 hA ?_))
          refine ⟨(A.1, false, k + 1, tt + 1 + 1 + 1 + 1), ⟨hlt, hab, fun h => (by cases h)⟩, by show s.bs.length - (k + 1) < s.bs.length - k; omega, ?_⟩
          (simp (disch := omega) only [StLe, tmLe, hpLe_refl, hpLe, bl, bb, bt, zDs, zD, eqCells, simprocAttr])
        · ((refine ggb1 e1 hA ?_))
          refine ⟨(A.1, A.2 == 0, k + 1, tt + 1 + 1 + 1 + 1), ⟨hlt, hab, fun h => hnx (hsum rfl) (by simpa using h)⟩, by show s.bs.length - (k + 1) < s.bs.length - k; omega, ?_⟩
          (simp (disch := omega) only [StLe, tmLe, hpLe_refl, hpLe, bl, bb, bt, zDs, zD, eqCells, simprocAttr])
      · have hke : k = s.bs.length := by omega
        subst hke
        ((refine wqb @Int.lt_irrefl ?_))
        ((refine wia ?_))
        ((refine wxa ?_))
        exact ⟨(c, F, tt), fun h => hend (hsum h), by (simp (disch := omega) only [StLe, tmLe, hpLe_refl, hpLe, bl, bb, bt, zDs, zD, eqCells, simprocAttr])⟩
    rintro ⟨c, F, tt⟩ hcF
    simp only at hcF
    cases F
    · ((refine gga0 ?_))
      exact ⟨tt, trivial, by (simp (disch := omega) only [StLe, tmLe, hpLe_refl, hpLe, bl, bb, bt, zDs, zD, eqCells, simprocAttr])⟩
    · obtain rfl := hcF rfl
      have v1 : (c.1 == c.1) = true := by simp
      have v2 : (c.2 == c.2) = true := by simp
      ((refine ggb0 (F := _∧_) ⟨v1, v2⟩ ?_))
      exact ⟨tt, trivial, by (simp (disch := omega) only [StLe, tmLe, hpLe_refl, hpLe, bl, bb, bt, zDs, zD, eqCells, simprocAttr])⟩
  rintro t1 -
  by_cases g0 : (bestP l nm).2 = 0
  rotate_left 1
  · have e1 : ((bestP l nm).2 != 0) = true := by simpa using g0
    have e2 := bestP_nil g0
    ((refine ggb1 (F := _∧_) ⟨e1, e2⟩ hB ?_))
    ((repeat refine AW_seq ?_); (refine wta ?_); simp (disch := omega) only [retQ, resD, oneD, rsv, rs, rsL, rsL_eq_map, List.map_map, bb, bt, zDs, zD, eqCells, simprocAttr, Try.results11])
  obtain ⟨n, b, hn1, hn2, hn3, hn4, hn5⟩ := bestP_ok g0
  rw [hn1] at hB
  have hFb := forces13 b (hfl b (List.mem_of_getElem? hn3)) nm
  have hbv := forP_vfrac hn4
  have heb : forP b nm = ((forP b nm).1, 0) := Prod.ext rfl hn4
  rw [heb] at hFb
  clear heb hn4
  generalize (forP b nm).1 = B at *
  have hrb := sys_read l n b hn3
  have n0 : ¬ (n : Int) < 0 := by omega
  have n1 : ¬ (l.length : Int) ≤ (n : Int) := by omega
  ((refine ggb2 (F := _∧_∧_∧_∧_) ⟨hld, n0, n1, hn2, hrb⟩ hB hFb ?_))
  ((repeat refine AW_seq ?_))
  refine AW_block ?_
  refine AW_loop_w (fun x : Nat × Nat => ⟨[(2, str nm), (19, int n), (21, .ptr 0 (t1 + 1) 0), (133, sys l), (134, int l.length), (135, int x.1)], [some ⟨37, t1 + 1, [int B.1, int B.2]⟩], x.2⟩) (fun x => l.length - x.1) (fun x => x.1 ≤ l.length) (0, t1 + 1) (Nat.zero_le _) (by (simp (disch := omega) only [StLe, tmLe, hpLe_refl, hpLe, bl, bb, bt, zDs, zD, eqCells, simprocAttr])) ?_
  rintro ⟨k, tt⟩ hk
  simp only at hk
  by_cases hlt : k < l.length
  · obtain ⟨x, hx⟩ : ∃ y, l[k]? = some y := ⟨_, List.getElem?_eq_getElem hlt⟩
    have hra := sys_read l k x hx
    have hFx := forces13 x (hfl x (List.mem_of_getElem? hx)) nm
    have hxv := forP_vfrac (s := x) (nm := nm)
    have h5 := hn5 k x hx
    generalize forP x nm = X at *
    obtain ⟨y, ye⟩ := X
    simp only at *
    have hM := rCmp y B
    ((refine ggb0 (F := _∧_) ⟨@Int.ofNat_lt, hlt⟩ ?_))
    ((repeat refine AW_seq ?_))
    refine AW_block ?_
    by_cases hye : ye = 0
    rotate_left 1
    · have e1 : (ye == 0) = false := by simpa using hye
      ((refine ggb1 (F := _∧_∧_∧_) ⟨hld, hlt, hra, e1⟩ hFx ?_))
      refine ⟨(k + 1, tt + 1 + 1), hlt, by show l.length - (k + 1) < l.length - k; omega, ?_⟩
      (simp (disch := omega) only [StLe, tmLe, hpLe_refl, hpLe, bl, bb, bt, zDs, zD, eqCells, simprocAttr])
    subst hye
    obtain ⟨c1, c2⟩ := h5 rfl
    rw [cmpP_ok (hxv rfl) hbv] at hM
    generalize cmpV y B = C at *
    by_cases hc0 : C = 0
    · subst hc0
      have c3 : ¬ (k : Int) < (n : Int) := by have := c2 rfl; omega
      ((refine ggb2 (F := _∧_∧_∧_) ⟨hld, hlt, hra, c3⟩ hFx hM ?_))
      refine ⟨(k + 1, tt + 1 + 1), hlt, by show l.length - (k + 1) < l.length - k; omega, ?_⟩
      (simp (disch := omega) only [StLe, tmLe, hpLe_refl, hpLe, bl, bb, bt, zDs, zD, eqCells, simprocAttr])
    · have e2 : (C == 0) = false := by simpa using hc0
      ((refine ggb2 (F := _∧_∧_∧_∧_) ⟨hld, hlt, hra, c1, e2⟩ hFx hM ?_))
      refine ⟨(k + 1, tt + 1 + 1), hlt, by show l.length - (k + 1) < l.length - k; omega, ?_⟩
      (simp (disch := omega) only [StLe, tmLe, hpLe_refl, hpLe, bl, bb, bt, zDs, zD, eqCells, simprocAttr])
  · have hke : k = l.length := by omega
    subst hke
    ((refine ggb0 @Int.lt_irrefl ?_))
    ((repeat refine AW_seq ?_); (refine wta ?_); simp (disch := omega) only [retQ, resD, oneD, rsv, rs, rsL, rsL_eq_map, List.map_map, bb, bt, zDs, zD, eqCells, simprocAttr, Try.results11])
end Go.Proofs.Ytjjpjgnoanfaoaa.T

/- What the arguments of chapter 4's laws stand for. -/
section
namespace Go.Proofs.Ytjjpjgnoanfaoaa.T
open Go Go.RowKit Go.ChangeShapes

theorem slice_one {P : Program} {w : World} {r : Reach} {base : Nat} {t e : TypeId} {v : Value} (ht : P.underlying t = some (.slice e)) (h : Value.okWide P w r base t v) : v.cells = #[v] := by
  simp only [Value.okWide, ht, Cell.okWide] at h
  cases v <;> simp_all [Value.cells, Cell.ok]
theorem ints_of : ∀ {rows : List (List D)}, (∀ r ∈ rows, (∃ n, r = [int n] ∧ (Lit.int .i64 n).wf = true) ∧ r.length = 1) → ∃ l : List Int, rows.flatten = l.map int ∧ ∀ x ∈ l, (Lit.int .i64 x).wf = true
  | [], _ => ⟨[], rfl, by simp⟩
  | r :: rows, h => by
    obtain ⟨⟨n, rfl, hw⟩, _⟩ := h r (by simp)
    obtain ⟨l, e, hl⟩ := ints_of fun x hx => h x (List.mem_cons_of_mem _ hx)
    exact ⟨n :: l, by simp [e], fun x hx => by
      rcases List.mem_cons.1 hx with rfl | hx
      · exact hw
      · exact hl x hx⟩
theorem rows_of : ∀ {rows : List (List D)}, (∀ r ∈ rows, (∃ l : List Int, r = [ints l] ∧ ∀ x ∈ l, (Lit.int .i64 x).wf = true) ∧ r.length = 1) → ∃ m : List (List Int), rows.flatten = m.map ints ∧ ∀ l ∈ m, ∀ x ∈ l, (Lit.int .i64 x).wf = true
  | [], _ => ⟨[], rfl, by simp⟩
  | r :: rows, h => by
    obtain ⟨⟨n, rfl, hw⟩, _⟩ := h r (by simp)
    obtain ⟨l, e, hl⟩ := rows_of fun x hx => h x (List.mem_cons_of_mem _ hx)
    exact ⟨n :: l, by simp [e], fun x hx => by
      rcases List.mem_cons.1 hx with rfl | hx
      · exact hw
      · exact hl x hx⟩

theorem u8_of {x : Int} (h : (Lit.int .u8 x).wf = true) : 0 ≤ x ∧ x < 256 := by
  rw [Lit.wf, Bool.and_eq_true] at h
  have h1 := of_decide_eq_true h.1
  have h2 := of_decide_eq_true h.2
  have e1 : IntKind.u8.min = 0 := rfl
  have e2 : IntKind.u8.max = 255 := rfl
  rw [e1] at h1
  rw [e2] at h2
  exact ⟨h1, by omega⟩
theorem cellsInt : Try.prog.cellsOf 3 = 1 := by kernel_rfl
theorem cellsInts : Try.prog.cellsOf 81 = 1 := by kernel_rfl
section
variable {H : Type} {enc : TypeId × Value → H} {W : World}
theorem opn_ints : Opn enc Try.prog W 81 fun ds => ∃ l : List Int, ds = [ints l] ∧ ∀ x ∈ l, (Lit.int .i64 x).wf = true :=
  (Opn.slice Try.underlying81 cellsInt (by decide) (Opn.int Try.underlying3)).mono fun ds ⟨rows, e, h, _⟩ => by
    obtain ⟨l, e2, hl⟩ := ints_of h
    exact ⟨l, by rw [e, e2], hl⟩
theorem opn_mat : Opn enc Try.prog W 118 fun ds => ∃ m : List (List Int), ds = [mat m] ∧ ∀ l ∈ m, ∀ x ∈ l, (Lit.int .i64 x).wf = true :=
  (Opn.slice Try.underlying118 cellsInts (by decide) opn_ints).mono fun ds ⟨rows, e, h, _⟩ => by
    obtain ⟨l, e2, hl⟩ := rows_of h
    exact ⟨l, by rw [e, e2], hl⟩
end
end Go.Proofs.Ytjjpjgnoanfaoaa.T
end

/- Arguments that are lists of fractions. -/
section
namespace Go.Proofs.Ytjjpjgnoanfaoaa.T
open Go Go.RowKit Go.ChangeShapes

theorem fracs_of : ∀ {rows : List (List D)}, (∀ r ∈ rows, (∃ a b, r = [int a, int b]) ∧ r.length = 2) → ∃ l : List (Int × Int), rows.flatten = frC l
  | [], _ => ⟨[], rfl⟩
  | r :: rows, h => by
    obtain ⟨⟨a, b, rfl⟩, _⟩ := h r (by simp)
    obtain ⟨l, e⟩ := fracs_of fun x hx => h x (List.mem_cons_of_mem _ hx)
    exact ⟨(a, b) :: l, by simp [e, frC]⟩
theorem cellsFrac : Try.prog.cellsOf 37 = 2 := by kernel_rfl
section
variable {H : Type} {enc : TypeId × Value → H} {W : World}
theorem opn_frac : Opn enc Try.prog W 37 fun ds => ∃ a b, ds = [int a, int b] :=
  (Opn.struct Try.underlying37 ⟨_, _, rfl, rfl, Opn.int Try.underlying3, _, _, rfl, by simp only [cellsInt], Opn.int Try.underlying3, rfl⟩ (by kernel_rfl)).mono fun ds h => by
    obtain ⟨d1, r1, rfl, ⟨a, rfl, _⟩, d2, r2, rfl, ⟨b, rfl, _⟩, rfl⟩ := h
    exact ⟨a, b, rfl⟩
theorem opn_fracs : Opn enc Try.prog W 51 fun ds => ∃ l : List (Int × Int), ds = [frs l] ∧ True :=
  (Opn.slice Try.underlying51 cellsFrac (by decide) opn_frac).mono fun ds ⟨rows, e, h, _⟩ => by
    obtain ⟨l, e2⟩ := fracs_of h
    exact ⟨l, by rw [e, e2], trivial⟩
end
end Go.Proofs.Ytjjpjgnoanfaoaa.T
end

/- Arguments that are systems. -/
section
namespace Go.Proofs.Ytjjpjgnoanfaoaa.T
open Go Go.RowKit Go.ChangeShapes

theorem flats_of {α : Type} {f : α → List D} {n : Nat} : ∀ {rows : List (List D)}, (∀ r ∈ rows, (∃ x, r = f x) ∧ r.length = n) → ∃ l : List α, rows.flatten = l.flatMap f
  | [], _ => ⟨[], rfl⟩
  | r :: rows, h => by
    obtain ⟨⟨x, rfl⟩, _⟩ := h r (by simp)
    obtain ⟨l, e⟩ := flats_of fun x hx => h x (List.mem_cons_of_mem _ hx)
    exact ⟨x :: l, by simp [e]⟩
theorem cellsHold : Try.prog.cellsOf 66 = 4 := by kernel_rfl
theorem cellsRope : Try.prog.cellsOf 61 = 3 := by kernel_rfl
theorem cellsBlock : Try.prog.cellsOf 57 = 2 := by kernel_rfl
theorem agg_of {P : Program} {w : World} {r : Reach} {base : Nat} {t : TypeId} {fs : Array Field} {v : Value} (ht : P.underlying t = some (.struct fs)) (h : Value.okWide P w r base t v) : ∃ cs, v = .agg cs := by
  simp only [Value.okWide, ht] at h
  obtain ⟨cs, e, _⟩ := h
  exact ⟨cs, e⟩
section
variable {H : Type} {enc : TypeId × Value → H} {W : World}
theorem opn_hold : Opn enc Try.prog W 66 fun ds => ∃ h : Hd, ds = hd1 h :=
  (Opn.struct Try.underlying66 ⟨_, _, rfl, (by kernel_rfl), Opn.str Try.underlying9, _, _, rfl, (by kernel_rfl), Opn.int Try.underlying3, _, _, rfl, (by kernel_rfl), opn_frac, rfl⟩ (by kernel_rfl)).mono fun ds h => by
    obtain ⟨d1, r1, rfl, ⟨s, rfl, _⟩, d2, r2, rfl, ⟨p, rfl, _⟩, d3, r3, rfl, ⟨a, b, rfl⟩, rfl⟩ := h
    exact ⟨⟨s, p, a, b⟩, rfl⟩
theorem opn_holds : Opn enc Try.prog W 59 fun ds => ∃ l : List Hd, ds = [hds l] :=
  (Opn.slice Try.underlying59 cellsHold (by decide) opn_hold).mono fun ds ⟨rows, e, h, _⟩ => by
    obtain ⟨l, e2⟩ := flats_of h
    exact ⟨l, by rw [e, e2]; rfl⟩
theorem opn_rope : Opn enc Try.prog W 61 fun ds => ∃ r : Rp, ds = rp1 r :=
  (Opn.struct Try.underlying61 ⟨_, _, rfl, (by kernel_rfl), Opn.str Try.underlying9, _, _, rfl, (by kernel_rfl), opn_holds, _, _, rfl, (by kernel_rfl), Opn.bool Try.underlying4, rfl⟩ (by kernel_rfl)).mono fun ds h => by
    obtain ⟨d1, r1, rfl, ⟨s, rfl, _⟩, d2, r2, rfl, ⟨l, rfl⟩, d3, r3, rfl, ⟨b, rfl⟩, rfl⟩ := h
    exact ⟨⟨s, l, b⟩, rfl⟩
theorem opn_ropes : Opn enc Try.prog W 47 fun ds => ∃ l : List Rp, ds = [rps l] :=
  (Opn.slice Try.underlying47 cellsRope (by decide) opn_rope).mono fun ds ⟨rows, e, h, _⟩ => by
    obtain ⟨l, e2⟩ := flats_of h
    exact ⟨l, by rw [e, e2]; rfl⟩
theorem opn_block : Opn enc Try.prog W 57 fun ds => ∃ b : Bk, ds = bk1 b :=
  (Opn.struct Try.underlying57 ⟨_, _, rfl, (by kernel_rfl), Opn.str Try.underlying9, _, _, rfl, (by kernel_rfl), Opn.int Try.underlying3, rfl⟩ (by kernel_rfl)).mono fun ds h => by
    obtain ⟨d1, r1, rfl, ⟨s, rfl, _⟩, d2, r2, rfl, ⟨p, rfl, _⟩, rfl⟩ := h
    exact ⟨⟨s, p⟩, rfl⟩
theorem opn_blocks : Opn enc Try.prog W 46 fun ds => ∃ l : List Bk, ds = [bks l] :=
  (Opn.slice Try.underlying46 cellsBlock (by decide) opn_block).mono fun ds ⟨rows, e, h, _⟩ => by
    obtain ⟨l, e2⟩ := flats_of h
    exact ⟨l, by rw [e, e2]; rfl⟩
theorem opn_sys : Opn enc Try.prog W 49 fun ds => ∃ s : Sy, ds = [bks s.bs, rps s.rs] :=
  (Opn.struct Try.underlying49 ⟨_, _, rfl, (by kernel_rfl), opn_blocks, _, _, rfl, (by kernel_rfl), opn_ropes, rfl⟩ (by kernel_rfl)).mono fun ds h => by
    obtain ⟨d1, r1, rfl, ⟨a, rfl⟩, d2, r2, rfl, ⟨b, rfl⟩, rfl⟩ := h
    exact ⟨⟨a, b⟩, rfl⟩
theorem arg_sys {v : Value} {base : Nat} {r : Reach} {d : DataW H} {p : List MemPlace} (h : DataW.Trod enc Try.prog W 0 (fun _ => true) true 49 v d p) (hv : Value.okWide Try.prog W r base 49 v) : ∃ s : Sy, Rep (memOf W) [] (syD s) v := by
  obtain ⟨cs, rfl⟩ : ∃ cs, v = .agg cs := by
    simp only [Value.okWide, Try.underlying49] at hv
    obtain ⟨cs, e, _⟩ := hv
    exact ⟨cs, e⟩
  obtain ⟨ds, hr, s, rfl⟩ := arg_agg opn_sys h
  exact ⟨s, hr⟩
theorem cellsSys : Try.prog.cellsOf 49 = 2 := by kernel_rfl
theorem opn_syss : Opn enc Try.prog W 89 fun ds => ∃ l : List Sy, ds = [sys l] ∧ True :=
  (Opn.slice Try.underlying89 cellsSys (by decide) opn_sys).mono fun ds ⟨rows, e, h, _⟩ => by
    obtain ⟨l, e2⟩ := flats_of (f := sy1) h
    exact ⟨l, by rw [e, e2], trivial⟩
theorem arg_rope {v : Value} {base : Nat} {r : Reach} {d : DataW H} {p : List MemPlace} (h : DataW.Trod enc Try.prog W 0 (fun _ => true) true 61 v d p) (hv : Value.okWide Try.prog W r base 61 v) : ∃ s : Rp, Rep (memOf W) [] (.agg (rp1 s)) v := by
  obtain ⟨cs, rfl⟩ : ∃ cs, v = .agg cs := by
    simp only [Value.okWide, Try.underlying61] at hv
    obtain ⟨cs, e, _⟩ := hv
    exact ⟨cs, e⟩
  obtain ⟨ds, hr, s, rfl⟩ := arg_agg opn_rope h
  exact ⟨s, hr⟩
theorem arg_frac {v : Value} {base : Nat} {r : Reach} {d : DataW H} {p : List MemPlace} (h : DataW.Trod enc Try.prog W 0 (fun _ => true) true 37 v d p) (hv : Value.okWide Try.prog W r base 37 v) : ∃ s : Int × Int, Rep (memOf W) [] (frD s) v := by
  obtain ⟨cs, rfl⟩ : ∃ cs, v = .agg cs := by
    simp only [Value.okWide, Try.underlying37] at hv
    obtain ⟨cs, e, _⟩ := hv
    exact ⟨cs, e⟩
  obtain ⟨ds, hr, a, b, rfl⟩ := arg_agg opn_frac h
  exact ⟨(a, b), hr⟩
abbrev u16s (l : List Int) : D := .sl 1 (l.map fun n => .v (.int .u16 n)) false
theorem u16_of {x : Int} (h : (Lit.int .u16 x).wf = true) : 0 ≤ x ∧ x < 65536 := by
  rw [Lit.wf, Bool.and_eq_true] at h
  have h1 := of_decide_eq_true h.1
  have h2 := of_decide_eq_true h.2
  have e1 : IntKind.u16.min = 0 := rfl
  have e2 : IntKind.u16.max = 65535 := rfl
  rw [e1] at h1
  rw [e2] at h2
  exact ⟨h1, by omega⟩
theorem u16_rows : ∀ {rows : List (List D)}, (∀ r ∈ rows, (∃ n, r = [.v (.int .u16 n)] ∧ (Lit.int .u16 n).wf = true) ∧ r.length = 1) → ∃ l : List Int, rows.flatten = l.map (fun n => .v (.int .u16 n)) ∧ ∀ x ∈ l, (Lit.int .u16 x).wf = true
  | [], _ => ⟨[], rfl, by simp⟩
  | r :: rows, h => by
    obtain ⟨⟨n, rfl, hw⟩, _⟩ := h r (by simp)
    obtain ⟨l, e, hl⟩ := u16_rows fun x hx => h x (List.mem_cons_of_mem _ hx)
    exact ⟨n :: l, by simp [e], fun x hx => by
      rcases List.mem_cons.1 hx with rfl | hx
      · exact hw
      · exact hl x hx⟩
theorem cellsU16 : Try.prog.cellsOf 69 = 1 := by kernel_rfl
theorem opn_u16s : Opn enc Try.prog W 68 fun ds => ∃ l : List Int, ds = [u16s l] ∧ ∀ x ∈ l, (Lit.int .u16 x).wf = true :=
  (Opn.slice Try.underlying68 cellsU16 (by decide) (Opn.int Try.underlying69)).mono fun ds ⟨rows, e, h, _⟩ => by
    obtain ⟨l, e2, hl⟩ := u16_rows h
    exact ⟨l, by rw [e, e2], hl⟩
theorem opn_span : Opn enc Try.prog W 23 fun ds => ∃ a b, ds = [int a, int b] :=
  (Opn.struct Try.underlying23 ⟨_, _, rfl, rfl, Opn.int Try.underlying3, _, _, rfl, by simp only [cellsInt], Opn.int Try.underlying3, rfl⟩ (by kernel_rfl)).mono fun ds h => by
    obtain ⟨d1, r1, rfl, ⟨a, rfl, _⟩, d2, r2, rfl, ⟨b, rfl, _⟩, rfl⟩ := h
    exact ⟨a, b, rfl⟩
theorem arg_span {v : Value} {base : Nat} {r : Reach} {d : DataW H} {p : List MemPlace} (h : DataW.Trod enc Try.prog W 0 (fun _ => true) true 23 v d p) (hv : Value.okWide Try.prog W r base 23 v) : ∃ s : Int × Int, Rep (memOf W) [] (frD s) v := by
  obtain ⟨cs, rfl⟩ : ∃ cs, v = .agg cs := by
    simp only [Value.okWide, Try.underlying23] at hv
    obtain ⟨cs, e, _⟩ := hv
    exact ⟨cs, e⟩
  obtain ⟨ds, hr, a, b, rfl⟩ := arg_agg opn_span h
  exact ⟨(a, b), hr⟩
theorem u64_of {x : Int} (h : (Lit.int .u64 x).wf = true) : 0 ≤ x ∧ x ≤ 18446744073709551615 := by
  rw [Lit.wf, Bool.and_eq_true] at h
  have h1 := of_decide_eq_true h.1
  have h2 := of_decide_eq_true h.2
  have e1 : IntKind.u64.min = 0 := rfl
  have e2 : IntKind.u64.max = 18446744073709551615 := rfl
  rw [e1] at h1
  rw [e2] at h2
  exact ⟨h1, h2⟩
end
end Go.Proofs.Ytjjpjgnoanfaoaa.T
end

/- The signs of the head's word (printed by mkmake.py): the kernel need not take a long string apart. -/
namespace Go.Proofs.Ytjjpjgnoanfaoaa.T
open Go Go.RowKit Go.Joins
def wordSigns0 : List Char := [104,97,114,110,101,115,115,32,49,97,49,101,98,56,101,56,98,53,99,50,97,51,50,48,50,55,97,48,50,57,50,56,50,52,50,48,51,54,53,50,102,99,100,97,56,49,48,52,99,54,49,55,102,57,51,55,49,101,102,53,98,52,56,56].map Char.ofNat
def wordSigns1 : List Char := [51,100,51,102,57,52,53,98,32,99,117,116,32,97,116,32,108,111,102,116,98,108,111,99,107,47,108,111,102,116,98,108,111,99,107,108,97,119,48,51,46,83,112,97,110,78,97,114,114,111,119,32,108,111,102,116,98,108,111,99,107,47,108,111].map Char.ofNat
def wordSigns2 : List Char := [102,116,98,108,111,99,107,108,97,119,48,51,46,83,112,97,110,70,114,97,99,116,105,111,110,115,32,108,111,102,116,98,108,111,99,107,47,108,111,102,116,98,108,111,99,107,108,97,119,49,49,46,83,116,97,116,105,99,115,84,117,114,110,115].map Char.ofNat
def wordSigns3 : List Char := [32,108,111,102,116,98,108,111,99,107,47,108,111,102,116,98,108,111,99,107,108,97,119,49,49,46,83,116,97,116,105,99,115,65,100,100,115,32,108,111,102,116,98,108,111,99,107,47,108,111,102,116,98,108,111,99,107,108,97,119,49,54,46,77].map Char.ofNat
def wordSigns4 : List Char := [111,98,105,108,105,116,121,79,114,100,101,114,32,108,111,102,116,98,108,111,99,107,47,108,111,102,116,98,108,111,99,107,108,97,119,49,51,46,65,100,118,97,110,116,97,103,101,83,97,109,101,32,108,111,102,116,98,108,111,99,107,47,108,111].map Char.ofNat
def wordSigns5 : List Char := [102,116,98,108,111,99,107,108,97,119,49,51,46,65,100,118,97,110,116,97,103,101,69,113,117,97,108,32,108,111,102,116,98,108,111,99,107,47,108,111,102,116,98,108,111,99,107,108,97,119,49,51,46,65,100,118,97,110,116,97,103,101,79,119].map Char.ofNat
def wordSigns6 : List Char := [110,32,108,111,102,116,98,108,111,99,107,47,108,111,102,116,98,108,111,99,107,108,97,119,49,51,46,65,100,118,97,110,116,97,103,101,72,111,108,100,115,32,108,111,102,116,98,108,111,99,107,47,108,111,102,116,98,108,111,99,107,108,97,119].map Char.ofNat
def wordSigns7 : List Char := [49,52,46,76,111,115,115,101,115,84,119,105,99,101,32,108,111,102,116,98,108,111,99,107,47,108,111,102,116,98,108,111,99,107,108,97,119,49,52,46,76,111,115,115,101,115,65,108,111,110,103].map Char.ofNat
def wordSigns : List Char := wordSigns0 ++ wordSigns1 ++ wordSigns2 ++ wordSigns3 ++ wordSigns4 ++ wordSigns5 ++ wordSigns6 ++ wordSigns7
theorem word_is : Try.prog.initOrder.toList = wordSigns := by
  have h : Try.prog.initOrder = String.ofList wordSigns := by kernel_rfl
  rw [h, String.toList_ofList]
theorem word_cut : behindMainWord (wordsSigns wordSigns) = "cut".toList :: (behindMainWord (wordsSigns wordSigns)).tail := by kernel_rfl
theorem make_of (P : Program) (l : List Char) (h : P.initOrder.toList = l) (r : List (List Char)) (hr : behindMainWord (wordsSigns l) = "cut".toList :: r) : P.make = some .cut := by
  unfold Program.make
  rw [h, hr]
  rfl
theorem enter_of (P : Program) (l : List Char) (h : P.initOrder.toList = l) (r : List (List Char)) (hr : behindMainWord (wordsSigns l) = "cut".toList :: r) (h1 : P.laysLater = false) (h2 : P.bearsReflect = false) (h3 : P.doorFits [] = true) (hs : stripLifts liftWords ("cut".toList :: r) = ([], "cut".toList :: r)) : P.mayEnter = true := by
  unfold Program.mayEnter
  rw [h, hr]
  simp only [hs, h1, h2, h3]
  rfl
theorem word_make : Try.prog.make = some .cut := make_of _ wordSigns word_is _ word_cut
theorem word_enter : Try.prog.mayEnter = true := enter_of _ wordSigns word_is _ word_cut (by kernel_rfl) (by kernel_rfl) (by kernel_rfl) (by kernel_rfl)
theorem word_lifts : Try.prog.liftsFinal = false := by
  unfold Program.liftsFinal Program.headLifts
  rw [word_is]
  kernel_rfl
theorem word_enterP : Try.pinned.checked.prog.mayEnter = true := word_enter
theorem word_liftsP : Try.pinned.checked.prog.liftsFinal = false := word_lifts
theorem word_makeP : Try.pinned.checked.prog.make = some .cut := word_make
end Go.Proofs.Ytjjpjgnoanfaoaa.T

