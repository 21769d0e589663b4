import Derived.Test.YtpcakodemleoiaaOMQXFW
import Derived.Test.YtpcakodemleoiaaSG
import Derived.Test.YtpcakodemleoiaaOAVRMQA
import Derived.Test.YtpcakodemleoiaaOSKM
import Derived.Test.YtpcakodemleoiaaOMJAVQ
import Derived.Test.YtpcakodemleoiaaTJ
import Derived.Test.YtpcakodemleoiaaWA
import Derived.Test.YtpcakodemleoiaaWJK
import Derived.Test.YtpcakodemleoiaaRows
import Derived.Lib.SmallJoins
import Derived.ProofKit
set_option linter.all false
namespace Go.Proofs.Ytpcakodemleoiaa.T
open Go Go.RowKit Lin
set_option linter.unusedSimpArgs false

/-! Copies of a system whose blocks, or ropes, are the caller's own. -/
theorem cellsC_bk (l : List Bk) : (bkC l).all isCell = true := by
  induction l with
  | nil => rfl
  | cons x r ih => simp only [bkC, List.flatMap_cons, List.all_append, Bool.and_eq_true] at ih ⊢; exact ⟨rfl, ih⟩
/-! Weights changed one after the other. -/
def chW (f : Nat → Bk → Int) (l : List Bk) : Nat → List Bk
  | 0 => l
  | k + 1 => match l[k]? with
    | some b => (chW f l k).set k ⟨b.nm, f k b⟩
    | none => chW f l k
theorem chW_len (f : Nat → Bk → Int) (l : List Bk) : ∀ k, (chW f l k).length = l.length
  | 0 => rfl
  | k + 1 => by
    simp only [chW]
    split
    · rw [List.length_set, chW_len f l k]
    · exact chW_len f l k
theorem chW_get (f : Nat → Bk → Int) (l : List Bk) : ∀ (k i : Nat) (b : Bk), l[i]? = some b → (chW f l k)[i]? = some (if i < k then ⟨b.nm, f i b⟩ else b)
  | 0, i, b, h => by rw [if_neg (by omega)]; exact h
  | k + 1, i, b, h => by
    have ih := chW_get f l k i b h
    have hi := (List.getElem?_eq_some_iff.1 h).1
    simp only [chW]
    by_cases e : k = i
    · subst e
      rw [h]
      simp only
      rw [List.getElem?_set_self (by rw [chW_len]; exact hi), if_pos (by omega)]
    · have : (match l[k]? with | some b => (chW f l k).set k ⟨b.nm, f k b⟩ | none => chW f l k)[i]? = (chW f l k)[i]? := by
        split
        · rw [List.getElem?_set_ne e]
        · rfl
      rw [this, ih]
      by_cases e2 : i < k
      · rw [if_pos e2, if_pos (by omega)]
      · rw [if_neg e2, if_neg (by omega)]
theorem chW_set {f : Nat → Bk → Int} {l : List Bk} {k : Nat} {b : Bk} (h : l[k]? = some b) : chW f l (k + 1) = (chW f l k).set k ⟨b.nm, f k b⟩ := by simp only [chW, h]
theorem chW_at {f : Nat → Bk → Int} {l : List Bk} {k : Nat} {b : Bk} (h : l[k]? = some b) : (chW f l k)[k]? = some b := by
  rw [chW_get f l k k b h, if_neg (by omega)]
theorem chW_end (f : Nat → Bk → Int) (l : List Bk) : chW f l l.length = l.mapIdx fun i b => ⟨b.nm, f i b⟩ := by
  refine List.ext_getElem? fun i => ?_
  rw [List.getElem?_mapIdx]
  cases h : l[i]? with
  | none => rw [List.getElem?_eq_none (by rw [chW_len]; exact List.getElem?_eq_none_iff.1 h)]; rfl
  | some b => rw [chW_get f l _ i b h, if_pos (List.getElem?_eq_some_iff.1 h).1]; rfl
theorem bkC_wt {l : List Bk} {i : Nat} {b : Bk} (h : l[i]? = some b) (w : Int) : (bkC l).set (i * 2 + 1) (int w) = bkC (l.set i ⟨b.nm, w⟩) := by
  have h1 := bkC_set l i ⟨b.nm, w⟩ (List.getElem?_eq_some_iff.1 h).1
  have hl := bkC_len l
  have hi := (List.getElem?_eq_some_iff.1 h).1
  have h2 := bkC_read l i b h
  rw [← h1]
  have e : bkC l = (bkC l).take (i * 2) ++ ([str b.nm, int b.w] ++ (bkC l).drop (i * 2 + 2)) := by
    have : [str b.nm, int b.w] = ((bkC l).drop (i * 2)).take 2 := h2.symm
    rw [this, ← List.drop_drop, List.take_append_drop, List.take_append_drop]
  have hlt : ((bkC l).take (i * 2)).length = i * 2 := by simp; omega
  conv => lhs; rw [e]
  rw [List.set_append_right _ _ (by omega), hlt, show i * 2 + 1 - i * 2 = 1 by omega]
  simp
theorem bkC_nm {l : List Bk} {i : Nat} {b : Bk} (h : l[i]? = some b) : (bkC l)[i * 2]? = some (str b.nm) := bkC_name l i b h
end Go.Proofs.Ytpcakodemleoiaa.T

namespace Go.Proofs.Ytpcakodemleoiaa.T
open Go Go.RowKit Lin
theorem gdza_AWK {P Q : Prop} (q : Q) (h : Q → P := by
  intro  hq
  (try with_reducible intro KR hKR)
  (repeat refine AW_seq ?_); (repeat refine AW_seq ?_); (refine AW_drawn_k tab_ok follows_mixed 0 fun KR hKR => ?_); simp only [List.replicate_succ, List.replicate_zero, List.append_nil, List.nil_append, List.cons_append, List.length_cons, List.length_nil, Nat.reduceAdd]; (repeat' ((first | refine awD_n rfl fun KK hKK => ?_ | refine awD_g rfl rfl fun KK hKK => ?_ | refine awD_gc rfl fun KK hKK => ?_ | refine awD_nc fun KK hKK => ?_); simp (disch := omega) only [bb, bt, zDs, zD, eqCells, simprocAttr, bne_self_eq_false, Int.reduceBNe, Int.reduceBEq, Bool.bne_false, Bool.bne_true, Bool.false_bne, Bool.true_bne]; refine hKK _ _ _ ?_; clear hKK KK)); (refine awD_nil ?_); simp only [List.reverse_cons, List.reverse_nil, List.nil_append, List.cons_append]; (refine hKR _ _ (by first | rfl | kernel_rfl) ?_); (try clear hKR KR); (repeat (with_reducible first | refine q1 ?_ | refine q2 ?_ | refine q3 ?_ | refine q4 ?_ | refine q5 ?_ | refine q6 ?_ | (refine q7 ?_ ?_; (focus (with_unfolding_all rfl)))))
  (first | exact hq | (revert hKR; revert KR; exact hq))) : P := h  q
set_option linter.unusedSimpArgs false

/-! Chapter 13: the program. -/
theorem whole13 (n : Int) : PRet Try.prog 73 [int n] (frD (n, 1)) := by
  refine PRet.intro 1 fun t => ACall.enter tab_ok Try.func73 rfl rfl Try.ntmps73 (by simp) ?_
  simp only [enterTM]
  ((refine gga0 ?_))
  ((repeat refine AW_seq ?_); (refine wta ?_); simp (disch := omega) only [retQ, resD, oneD, rsv, rs, rsL, rsL_eq_map, List.map_map, bb, bt, zDs, zD, eqCells, simprocAttr, Try.results73])
set_option maxHeartbeats 1000000 in
theorem cloneB_ (x : Bk) (r : List Bk) (hl : r.length ≤ 1000) : PFresh Try.prog 75 [bks (x :: r)] 35 2 (r.length + 1) (bkC (x :: r)) := by
  refine PFresh.intro (plain_bk _) fun t => ACall.enter tab_ok Try.func75 rfl rfl Try.ntmps75 (by simp) ?_
  simp only [enterTM]
  have f2 : bkC (x :: r) = str x.nm :: int x.w :: bkC r := rfl
  have hcl := cellsC_bk r
  have hld := bkC_div (x :: r)
  have hll := bkC_len (x :: r)
  have f1 : bks (x :: r) = .sl 2 (str x.nm :: int x.w :: bkC r) false := rfl
  rw [f2] at hld hll
  rw [f1, f2]
  simp only [List.length_cons] at hll hld
  ((refine wqa ?_))
  ((refine wqa ?_))
  ((refine wia ?_))
  ((refine wsa ?_))
  ((repeat refine AW_seq ?_); (refine AW_region_k tab_ok fun KR hKR => ?_); (repeat ((first | refine awOps_n rfl fun KK hKK => ?_ | refine awOps_g rfl rfl fun KK hKK => ?_ | refine awOps_gc rfl fun KK hKK => ?_); simp (disch := omega) only [bb, bt, zDs, zD, eqCells, simprocAttr, isSlice, hcl, hld]; refine hKK _ ?_; clear hKK KK)); (refine awOps_nil ?_); (refine hKR _ ?_); (try clear hKR KR); (repeat (with_reducible first | refine q1 ?_ | refine q2 ?_ | refine q3 ?_ | refine q4 ?_ | refine q5 ?_ | refine q6 ?_ | (refine q7 ?_ ?_; (focus (with_unfolding_all rfl))))))
  ((repeat refine AW_seq ?_); (refine wta ?_); simp (disch := omega) only [retQ, resD, oneD, rsv, rs, rsL, rsL_eq_map, List.map_map, bb, bt, zDs, zD, eqCells, simprocAttr, Try.results75])
  exact .inr ⟨0, t + 1, rfl, rfl⟩
theorem cloneBs (l : List Bk) (h0 : 1 ≤ l.length) (hl : l.length ≤ 1000) : PFresh Try.prog 75 [bks l] 35 2 l.length (bkC l) := by
  cases l with
  | nil => simp at h0
  | cons x r => exact cloneB_ x r (by simp at hl; omega)
theorem unitS_chW (s : Sy) (nm : ByteArray) : chW (fun _ b => if b.nm = nm then 1 else 0) s.bs s.bs.length = (unitS s nm).bs := by
  rw [chW_end]
  refine List.ext_getElem? fun i => ?_
  simp only [unitS, List.getElem?_mapIdx, List.getElem?_map]
  rfl
theorem any_nextU {α : Type} (p : α → Bool) {l : List α} {k : Nat} {x : α} (h : l[k]? = some x) : (l.take (k + 1)).any p = ((l.take k).any p || p x) := by
  rw [List.take_add_one, h, Option.toList_some, List.any_append]
  simp
theorem bkC_one {l : List Bk} {i : Nat} {b : Bk} (h : l[i]? = some b) : ((bkC l).drop (i * 2)).take 1 = [str b.nm] := by
  have := bkC_nm h
  obtain ⟨h1, h2⟩ := List.getElem?_eq_some_iff.1 this
  rw [List.drop_eq_getElem_cons h1, h2]
  rfl
def unitE (s : Sy) (nm : ByteArray) : Sy × Int := if validS s = true then (if findB s.bs nm < 0 then (⟨[], []⟩, 9) else (unitS s nm, 0)) else (⟨[], []⟩, 1)
set_option maxHeartbeats 4000000 in
theorem unit13 (s : Sy) (hf : Fits s) (nm : ByteArray) : PRet Try.prog 40 [syD s, str nm] (.tup [syD (unitE s nm).1, int (unitE s nm).2]) := by
  refine PRet.intro 1 fun t => ACall.enter tab_ok Try.func40 rfl rfl Try.ntmps40 (by simp) ?_
  simp only [enterTM]
  have hV := valid_prog s hf
  cases hv : validS s
  · rw [hv] at hV
    have e : unitE s nm = (⟨[], []⟩, 1) := by simp [unitE, hv]
    ((refine gga1 hV ?_))
    ((repeat refine AW_seq ?_); (refine wta ?_); simp (disch := omega) only [retQ, resD, oneD, rsv, rs, rsL, rsL_eq_map, List.map_map, bb, bt, zDs, zD, eqCells, simprocAttr, Try.results40, e])
    rfl
  rw [hv] at hV
  have ok := validS_ok hv
  have hb1 := ok.b1
  have hb6 := ok.b6
  have hC := cloneBs s.bs ok.b1 (by omega)
  have hdb := bkC_div s.bs
  have hlb := bkC_len s.bs
  ((refine gga1 hV ?_))
  intro KR hKR
  ((first | refine awOps_nc fun KK hKK => ?_ | refine awOps_gc rfl fun KK hKK => ?_); simp (disch := omega) only [bb, bt, zDs, zD, eqCells, simprocAttr, goC, callO_fn, argsD, and_self]; refine ACall.of_fresh (hC) (by first | (simp only [List.map_cons, List.map_nil, List.append_nil, List.nil_append, List.cons_append, ufa, uf]; done) | rfl) ?_; simp (disch := omega) only [bb, bt, zDs, zD, eqCells, simprocAttr, afterC]; refine hKK _ ?_; clear hKK KK)
  ((refine wra ?_)); ((refine wea ?_); (try clear hKR KR))
  ((refine ggb0 hdb ?_))
  have hcl := fun (f : Nat → Bk → Int) (k : Nat) => chW_len f s.bs k
  have hun := unitS_chW s nm
  generalize hfe : (fun (_ : Nat) (b : Bk) => if b.nm = nm then (1 : Int) else 0) = f at hun
  ((repeat refine AW_seq ?_))
  refine AW_mid (fun x : Nat => ⟨[(4, .ptr 1 (t + 1 + 1) 0), (6, .ptr 2 (t + 1 + 1 + 1) 0), (7, bool (s.bs.any fun b => decide (b.nm = nm)))], [none, some ⟨25, t + 1 + 1, [.sl 2 [] true, .sl 3 [] true]⟩, some ⟨25, t + 1 + 1 + 1, [.own 2 3 (t + 1 + 1 + 1 + 1) 0 s.bs.length, rps s.rs]⟩, some ⟨35, t + 1 + 1 + 1 + 1, bkC (chW f s.bs s.bs.length)⟩], x⟩) (fun _ => True) ?_ ?_
  · refine AW_block ?_
    refine AW_loop_w (fun x : Nat × Nat => ⟨[(1, str nm), (4, .ptr 1 (t + 1 + 1) 0), (6, .ptr 2 (t + 1 + 1 + 1) 0), (7, bool ((s.bs.take x.1).any fun b => decide (b.nm = nm))), (21, int s.bs.length), (22, int x.1)], [none, some ⟨25, t + 1 + 1, [.sl 2 [] true, .sl 3 [] true]⟩, some ⟨25, t + 1 + 1 + 1, [.own 2 3 (t + 1 + 1 + 1 + 1) 0 s.bs.length, rps s.rs]⟩, some ⟨35, t + 1 + 1 + 1 + 1, bkC (chW f s.bs x.1)⟩], x.2⟩) (fun x => s.bs.length - x.1) (fun x => x.1 ≤ s.bs.length) (0, t + 1 + 1 + 1 + 1) (Nat.zero_le _) (by (simp (disch := omega) only [StLe, tmLe, hpLe_refl, hpLe, bl, bb, bt, zDs, zD, eqCells, simprocAttr, List.take_zero, List.any_nil, chW])) ?_
    rintro ⟨k, tt⟩ hk
    simp only at hk
    by_cases hlt : k < s.bs.length
    · obtain ⟨b, hb⟩ : ∃ y, s.bs[k]? = some y := ⟨_, List.getElem?_eq_getElem hlt⟩
      have hC0 := chW_at (f := f) hb
      have hst := chW_set (f := f) hb
      have hsa := any_nextU (fun b => decide (b.nm = nm)) hb
      have hlc := bkC_len (chW f s.bs k)
      rw [hcl] at hlc
      have hw1 := bkC_wt hC0 0
      have hD0 : ((chW f s.bs k).set k ⟨b.nm, 0⟩)[k]? = some ⟨b.nm, 0⟩ := List.getElem?_set_self (by rw [hcl]; exact hlt)
      have hnm := bkC_nm hD0
      have hn1 := bkC_one hD0
      have hw2 := bkC_wt hD0 1
      rw [List.set_set] at hw2
      have hld := bkC_len ((chW f s.bs k).set k ⟨b.nm, 0⟩)
      rw [List.length_set, hcl] at hld
      cases he : decide (b.nm = nm)
      · have hf0 : f k b = 0 := by rw [← hfe]; exact if_neg (by simpa using he)
        rw [hf0] at hst
        rw [he, Bool.or_false] at hsa
        ((refine ggb0 (F := _∧_) ⟨@Int.ofNat_lt, hlt⟩ ?_))
        ((repeat refine AW_seq ?_))
        refine AW_block ?_
        ((refine ggb0 (F := _∧_∧_∧_∧_∧_∧_) ⟨hlt, hlc, hw1, hnm, hn1, hld, he⟩ ?_))
        refine ⟨(k + 1, tt), hlt, by show s.bs.length - (k + 1) < s.bs.length - k; omega, ?_⟩
        simp only [hst, hsa]
        (simp (disch := omega) only [StLe, tmLe, hpLe_refl, hpLe, bl, bb, bt, zDs, zD, eqCells, simprocAttr])
      · have hf1 : f k b = 1 := by rw [← hfe]; exact if_pos (by simpa using he)
        rw [hf1] at hst
        rw [he, Bool.or_true] at hsa
        ((refine ggb0 (F := _∧_) ⟨@Int.ofNat_lt, hlt⟩ ?_))
        ((repeat refine AW_seq ?_))
        refine AW_block ?_
        ((refine ggb0 (F := _∧_∧_∧_∧_∧_∧_∧_) ⟨hlt, hlc, hw1, hnm, hn1, hld, he, hw2⟩ ?_))
        refine ⟨(k + 1, tt), hlt, by show s.bs.length - (k + 1) < s.bs.length - k; omega, ?_⟩
        simp only [hst, hsa]
        (simp (disch := omega) only [StLe, tmLe, hpLe_refl, hpLe, bl, bb, bt, zDs, zD, eqCells, simprocAttr])
    · have hke : k = s.bs.length := by omega
      subst hke
      rw [List.take_length]
      ((refine wqb @Int.lt_irrefl ?_))
      ((refine wia ?_))
      ((refine wxa ?_))
      exact ⟨tt, trivial, by (simp (disch := omega) only [StLe, tmLe, hpLe_refl, hpLe, bl, bb, bt, zDs, zD, eqCells, simprocAttr])⟩
  rintro tt -
  rw [hun]
  obtain ⟨x1, x2⟩ := idx_lt (fun b : Bk => decide (b.nm = nm)) s.bs 0
  cases ha : s.bs.any (fun b => decide (b.nm = nm))
  · have hfb : findB s.bs nm < 0 := by unfold findB; rw [x2 ha]; omega
    have e : unitE s nm = (⟨[], []⟩, 9) := by simp [unitE, hv, hfb]
    ((refine gga0 ?_))
    ((repeat refine AW_seq ?_); (refine wta ?_); simp (disch := omega) only [retQ, resD, oneD, rsv, rs, rsL, rsL_eq_map, List.map_map, bb, bt, zDs, zD, eqCells, simprocAttr, Try.results40, e])
    rfl
  · have hfb : ¬ findB s.bs nm < 0 := by
      obtain ⟨k, x, hk, _⟩ := x1 ha
      unfold findB
      rw [hk]
      omega
    have e : unitE s nm = (unitS s nm, 0) := by simp [unitE, hv, hfb]
    have hul := unit_len s nm
    have hlu := bkC_len (unitS s nm).bs
    rw [hul] at hlu
    have hfin : List.take (s.bs.length * 2) (bkC (unitS s nm).bs) = bkC (unitS s nm).bs := List.take_of_length_le (by omega)
    have er : (unitS s nm).rs = s.rs := rfl
    rw [e]
    ((refine AW.freeze (3) (by first | rfl | (simp only [setH, List.getElem?_cons_zero, List.getElem?_cons_succ, fz_bk, fz_rp, hfin, hlu, Nat.le_refl]; done)) ?_); simp (disch := omega) only [fzT, fz, fzL, fzL_ints, fzL_mat, fzH, fzB, eq_self, bb, bt, zDs, zD, eqCells, simprocAttr, fz_bk, fz_rp, hfin, hlu, Nat.le_refl])
    ((refine gga0 ?_))
    ((repeat refine AW_seq ?_); (refine wta ?_); simp (disch := omega) only [retQ, resD, oneD, bb, bt, zDs, zD, eqCells, simprocAttr, Try.results40])
    rw [← er]
    exact rsv_tidy _ _ (by simp only [tidyD, tidyL, tidy_bk, tidy_rp, Bool.not_false, Bool.and_self])
theorem over13 (n : Int) (s : Sy) (hf : Fits s) : PRet Try.prog 41 [int n, syD s] (fe (overN n s)) := by
  refine PRet.intro 1 fun t => ACall.enter tab_ok Try.func41 rfl rfl Try.ntmps41 (by simp) ?_
  simp only [enterTM]
  have hH := haul_prog s hf
  have hW := whole13 n
  have hD := rDiv (n, 1) (haulP s).1
  unfold overN
  generalize haulP s = X at *
  cases hx : (X.2 == 0)
  · have e1 : (X.2 != 0) = true := by simpa using hx
    rw [if_neg (by simpa using hx)]
    ((refine ggb1 e1 hH ?_))
    ((repeat refine AW_seq ?_); (refine wta ?_); simp (disch := omega) only [retQ, resD, oneD, rsv, rs, rsL, rsL_eq_map, List.map_map, bb, bt, zDs, zD, eqCells, simprocAttr, Try.results41])
  · have e1 : (X.2 != 0) = false := by simpa using hx
    rw [if_pos (by simpa using hx)]
    generalize divP (n, 1) X.1 = Y at *
    ((refine ggb1 e1 hH ?_))
    ((repeat refine AW_seq ?_); (refine gdza2 hW hD ?_))
    ((repeat refine AW_seq ?_); (refine wta ?_); simp (disch := omega) only [retQ, resD, oneD, rsv, rs, rsL, rsL_eq_map, List.map_map, bb, bt, zDs, zD, eqCells, simprocAttr, Try.results41])
theorem unit_fits {s : Sy} (hf : Fits s) (nm : ByteArray) : Fits (unitE s nm).1 := by
  unfold unitE
  split
  · split
    · exact small_fits rfl
    · exact ⟨by rw [unit_len]; exact hf.nb, hf.nr, fun b hb => by
        obtain ⟨c, hc, rfl⟩ := List.mem_map.1 hb
        exact hf.sb c hc, hf.sr⟩
  · exact small_fits rfl
theorem forces13 (s : Sy) (hf : Fits s) (nm : ByteArray) : PRet Try.prog 18 [syD s, str nm] (fe (forP s nm)) := by
  refine PRet.intro 1 fun t => ACall.enter tab_ok Try.func18 rfl rfl Try.ntmps18 (by simp) ?_
  simp only [enterTM]
  have hU := unit13 s hf nm
  have hO := over13 1 _ (unit_fits hf nm)
  have e : forP s nm = if (unitE s nm).2 = 0 then overN 1 (unitE s nm).1 else ((0, 0), (unitE s nm).2) := by
    unfold forP unitE
    split
    · split
      · rfl
      · rfl
    · rfl
  rw [e]
  generalize unitE s nm = X at *
  cases hx : (X.2 == 0)
  · have e1 : (X.2 != 0) = true := by simpa using hx
    rw [if_neg (by simpa using hx)]
    ((refine ggb1 e1 hU ?_))
    ((repeat refine AW_seq ?_); (refine wta ?_); simp (disch := omega) only [retQ, resD, oneD, rsv, rs, rsL, rsL_eq_map, List.map_map, bb, bt, zDs, zD, eqCells, simprocAttr, Try.results18])
  · have e1 : (X.2 != 0) = false := by simpa using hx
    rw [if_pos (by simpa using hx)]
    generalize overN 1 X.1 = Y at *
    ((refine ggb2 e1 hU hO ?_))
    ((repeat refine AW_seq ?_); (refine wta ?_); simp (disch := omega) only [retQ, resD, oneD, rsv, rs, rsL, rsL_eq_map, List.map_map, bb, bt, zDs, zD, eqCells, simprocAttr, Try.results18])
theorem travels13 (s : Sy) (hf : Fits s) (nm : ByteArray) : PRet Try.prog 38 [syD s, str nm] (fe (travP s nm)) := by
  refine PRet.intro 1 fun t => ACall.enter tab_ok Try.func38 rfl rfl Try.ntmps38 (by simp) ?_
  simp only [enterTM]
  have hT := travel_prog s hf nm
  generalize travP s nm = X at *
  ((refine gga1 hT ?_))
  ((repeat refine AW_seq ?_); (refine wta ?_); simp (disch := omega) only [retQ, resD, oneD, rsv, rs, rsL, rsL_eq_map, List.map_map, bb, bt, zDs, zD, eqCells, simprocAttr, Try.results38])
theorem work13_1 (r : Rp) : PRet Try.prog 72 [.agg (rp1 r)] (bool r.hl) := by
  refine PRet.intro 1 fun t => ACall.enter tab_ok Try.func72 rfl rfl Try.ntmps72 (by simp) ?_
  simp only [enterTM]
  ((refine gga0 ?_))
  ((repeat refine AW_seq ?_); (refine wta ?_); simp (disch := omega) only [retQ, resD, oneD, rsv, rs, rsL, rsL_eq_map, List.map_map, bb, bt, zDs, zD, eqCells, simprocAttr, Try.results72])
set_option maxRecDepth 100000 in
set_option maxHeartbeats 8000000 in
theorem work13 (s : Sy) (hf : Fits s) (h : List Int) (hl : h.length ≤ 1000000) : PRet Try.prog 39 [syD s, ints h] (.tup [frD (workP s h).1, frD (workP s h).2.1, int (workP s h).2.2]) := by
  refine PRet.intro 1 fun t => ACall.enter tab_ok Try.func39 rfl rfl Try.ntmps39 (by simp) ?_
  simp only [enterTM]
  have hS := speeds_prog s hf h hl
  have hH := haul_prog s hf
  unfold workP
  by_cases h1 : (speedsP s h).2 = 0
  rotate_left 1
  · have e1 : ((speedsP s h).2 != 0) = true := by simpa using h1
    rw [if_neg h1]
    generalize speedsP s h = X at *
    ((refine ggb1 e1 hS ?_))
    ((repeat refine AW_seq ?_); (refine wta ?_); simp (disch := omega) only [retQ, resD, oneD, rsv, rs, rsL, rsL_eq_map, List.map_map, bb, bt, zDs, zD, eqCells, simprocAttr, Try.results39])
  have e1 : ((speedsP s h).2 != 0) = false := by simpa using h1
  rw [if_pos h1]
  by_cases h2 : (haulP s).2 = 0
  rotate_left 1
  · have e2 : ((haulP s).2 != 0) = true := by simpa using h2
    rw [if_neg h2]
    generalize speedsP s h = X at *
    generalize haulP s = Y at *
    ((refine ggb2 (F := _∧_) ⟨e1, e2⟩ hS hH ?_))
    ((repeat refine AW_seq ?_); (refine wta ?_); simp (disch := omega) only [retQ, resD, oneD, rsv, rs, rsL, rsL_eq_map, List.map_map, bb, bt, zDs, zD, eqCells, simprocAttr, Try.results39])
  have e2 : ((haulP s).2 != 0) = false := by simpa using h2
  rw [if_pos h2]
  obtain ⟨hv, htz, i, r, ei, hr, hh, _, Z, D, hD, hZ, hVt⟩ := haulP_val h2
  have ok := validS_ok hv
  obtain ⟨X', E, hE, hX, hvl, hV⟩ := speedsP_val h1
  obtain ⟨hg, _⟩ := speedsP_full h1
  obtain ⟨_, hhl, hp⟩ := givH_zero hg
  have hil := (List.getElem?_eq_some_iff.1 hr).1
  have hih : i < h.length := by omega
  obtain ⟨n, hn⟩ : ∃ y, h[i]? = some y := ⟨_, List.getElem?_eq_getElem hih⟩
  have eh : h.getD (hix s).toNat 0 = n := by rw [ei, Int.toNat_natCast, List.getD_eq_getElem?_getD, hn]; rfl
  rw [eh]
  have hI := indexFuncRp s.rs 72 [] (fun r => r.hl) hf.nr (fun x _ => work13_1 x)
  have eI : idx (fun r : Rp => r.hl) s.rs 0 = hix s := rfl
  rw [eI, ei] at hI
  have hW := whole13 n
  have hM := rMul (haulP s).1 (n, 1)
  have hav : allV (speedsP s h).1 = true := allV_of hV
  have hw0 := whole13 0
  have hdb := bkC_div s.bs
  have hb6 := ok.b6
  clear hZ hX hV hVt htz hg hp
  generalize speedsP s h = V at *
  generalize haulP s = T at *
  obtain ⟨v, ve⟩ := V
  obtain ⟨tf, te⟩ := T
  simp only at *
  subst h1
  subst h2
  generalize mulP tf (n, 1) = M at *
  ((refine gga3 hS hH hI ?_))
  ((repeat refine AW_seq ?_); (refine gdob2 (F := _∧_) ⟨hih, hn⟩ hW hM ?_))
  by_cases hm : M.2 = 0
  rotate_left 1
  · have e3 : (M.2 != 0) = true := by simpa using hm
    rw [if_neg hm]
    ((refine ggb0 e3 ?_))
    ((repeat refine AW_seq ?_); (refine wta ?_); simp (disch := omega) only [retQ, resD, oneD, rsv, rs, rsL, rsL_eq_map, List.map_map, bb, bt, zDs, zD, eqCells, simprocAttr, Try.results39])
  have e3 : (M.2 != 0) = false := by simpa using hm
  rw [if_pos hm]
  ((refine ggb1 (F := _∧_) ⟨e3, hdb⟩ hw0 ?_))
  have hvd := frC_div v
  generalize hdd : dotF (wtsS s) v (0, 1) = R at *
  ((repeat refine AW_seq ?_))
  refine AW_mid (fun x : Nat => ⟨[(4, .ptr 1 (t + 1 + 1) 0), (5, .ptr 2 (t + 1 + 1 + 1) 0), (11, .ptr 4 (t + 1 + 1 + 1 + 1 + 1) 0), (12, .ptr 5 (t + 1 + 1 + 1 + 1 + 1 + 1) 0)], [none, some ⟨42, t + 1 + 1, [int 0, int 0]⟩, some ⟨42, t + 1 + 1 + 1, [int 0, int 0]⟩, none, some ⟨42, t + 1 + 1 + 1 + 1 + 1, [int M.1.1, int M.1.2]⟩, some ⟨42, t + 1 + 1 + 1 + 1 + 1 + 1, [int R.1.1, int R.1.2]⟩], x⟩) (fun _ => R.2 = 0) ?_ ?_
  · refine AW_block ?_
    refine AW_loop_w (fun x : (Int × Int) × Nat × Nat => ⟨[(4, .ptr 1 (t + 1 + 1) 0), (5, .ptr 2 (t + 1 + 1 + 1) 0), (7, frs v), (11, .ptr 4 (t + 1 + 1 + 1 + 1 + 1) 0), (12, .ptr 5 (t + 1 + 1 + 1 + 1 + 1 + 1) 0), (58, bks s.bs), (59, int s.bs.length), (60, int x.2.1)], [none, some ⟨42, t + 1 + 1, [int 0, int 0]⟩, some ⟨42, t + 1 + 1 + 1, [int 0, int 0]⟩, none, some ⟨42, t + 1 + 1 + 1 + 1 + 1, [int M.1.1, int M.1.2]⟩, some ⟨42, t + 1 + 1 + 1 + 1 + 1 + 1, [int x.1.1, int x.1.2]⟩], x.2.2⟩) (fun x => s.bs.length - x.2.1) (fun x => x.2.1 ≤ s.bs.length ∧ dotF ((wtsS s).drop x.2.1) (v.drop x.2.1) x.1 = R) ((0, 1), 0, t + 1 + 1 + 1 + 1 + 1 + 1) ⟨Nat.zero_le _, hdd⟩ (by (simp (disch := omega) only [StLe, tmLe, hpLe_refl, hpLe, bl, bb, bt, zDs, zD, eqCells, simprocAttr])) ?_
    rintro ⟨c, k, tt⟩ ⟨hk, hd⟩
    simp only at hk hd
    by_cases hlt : k < s.bs.length
    · obtain ⟨b, hb⟩ : ∃ y, s.bs[k]? = some y := ⟨_, List.getElem?_eq_getElem hlt⟩
      obtain ⟨f, hfk⟩ : ∃ y, v[k]? = some y := ⟨_, List.getElem?_eq_getElem (by omega)⟩
      have hwk : (wtsS s)[k]? = some b.w := by simp [wtsS, hb]
      have hra := bkC_read s.bs k b hb
      have hrf := frC_read v k f hfk
      have hkv : k < v.length := by omega
      rw [dotF_plus hwk hfk] at hd
      have hW2 := whole13 b.w
      have hM2 := rMul (b.w, 1) f
      unfold plusP at hd
      generalize mulP (b.w, 1) f = Y at *
      ((refine ggb0 (F := _∧_) ⟨@Int.ofNat_lt, hlt⟩ ?_))
      ((repeat refine AW_seq ?_))
      refine AW_block ?_
      ((refine ggb0 (F := _∧_∧_) ⟨hlt, hdb, hra⟩ ?_))
      ((repeat refine AW_seq ?_); (refine gdob2 (F := _∧_∧_) ⟨hkv, hvd, hrf⟩ hW2 hM2 ?_))
      by_cases hy : Y.2 = 0
      rotate_left 1
      · have e4 : (Y.2 == 0) = false := by simpa using hy
        have e5 : (Y.2 != 0) = true := by simpa using hy
        rw [if_neg hy, if_neg hy] at hd
        subst hd
        rw [if_neg hy]
        ((refine ggb0 (F := _∧_) ⟨e4, e5⟩ ?_))
        ((repeat refine AW_seq ?_); (refine wta ?_); simp (disch := omega) only [retQ, resD, oneD, rsv, rs, rsL, rsL_eq_map, List.map_map, bb, bt, zDs, zD, eqCells, simprocAttr, Try.results39])
      have e4 : (Y.2 == 0) = true := by simpa using hy
      rw [if_pos hy] at hd
      have hA := rAdd c Y.1
      generalize addP c Y.1 = Q at *
      by_cases hq : Q.2 = 0
      rotate_left 1
      · have e5 : (Q.2 != 0) = true := by simpa using hq
        rw [if_neg hq] at hd
        subst hd
        rw [if_neg hq]
        ((refine ggb1 (F := _∧_) ⟨e4, e5⟩ hA ?_))
        ((repeat refine AW_seq ?_); (refine wta ?_); simp (disch := omega) only [retQ, resD, oneD, rsv, rs, rsL, rsL_eq_map, List.map_map, bb, bt, zDs, zD, eqCells, simprocAttr, Try.results39])
      have e5 : (Q.2 != 0) = false := by simpa using hq
      rw [if_pos hq] at hd
      ((refine ggb1 (F := _∧_) ⟨e4, e5⟩ hA ?_))
      refine ⟨(Q.1, k + 1, tt + 1 + 1), ⟨hlt, hd⟩, by show s.bs.length - (k + 1) < s.bs.length - k; omega, ?_⟩
      (simp (disch := omega) only [StLe, tmLe, hpLe_refl, hpLe, bl, bb, bt, zDs, zD, eqCells, simprocAttr])
    · have hke : k = s.bs.length := by omega
      subst hke
      have hde : dotF ((wtsS s).drop s.bs.length) (v.drop s.bs.length) c = (c, 0) := by
        have hdn : v.drop s.bs.length = [] := List.drop_eq_nil_of_le (by omega)
        rw [hdn]
        cases (wtsS s).drop s.bs.length <;> rfl
      rw [hde] at hd
      subst hd
      ((refine wqb @Int.lt_irrefl ?_))
      ((refine wia ?_))
      ((refine wxa ?_))
      exact ⟨tt, rfl, by (simp (disch := omega) only [StLe, tmLe, hpLe_refl, hpLe, bl, bb, bt, zDs, zD, eqCells, simprocAttr])⟩
  rintro tt hR
  rw [if_pos hR]
  ((repeat refine AW_seq ?_))
  ((repeat refine AW_seq ?_); (refine gdza_AWK ?_))
  ((repeat refine AW_seq ?_); (refine wta ?_); simp (disch := omega) only [retQ, resD, oneD, rsv, rs, rsL, rsL_eq_map, List.map_map, bb, bt, zDs, zD, eqCells, simprocAttr, Try.results39])
def cntB (s : Sy) (b : Bk) : Int := if 0 < b.w ∧ b.w ≤ 16777216 ∧ s.bs.length ≤ 6 then b.w else 0
def cntS (s : Sy) (k : Nat) : Int := ((s.bs.take k).map (cntB s)).sum
theorem cntS_step {s : Sy} {k : Nat} {b : Bk} (h : s.bs[k]? = some b) : cntS s (k + 1) = cntS s k + cntB s b := by
  unfold cntS
  rw [List.take_add_one, h, Option.toList_some, List.map_append, List.sum_append]
  simp
theorem cntS_le (s : Sy) : ∀ k, 0 ≤ cntS s k ∧ cntS s k ≤ k * 16777216
  | 0 => by simp [cntS]
  | k + 1 => by
    have ih := cntS_le s k
    cases h : s.bs[k]? with
    | none =>
      have e : cntS s (k + 1) = cntS s k := by
        unfold cntS
        rw [List.take_add_one, h]
        simp
      rw [e]
      omega
    | some b =>
      rw [cntS_step h]
      unfold cntB
      split <;> omega
theorem cntS_is {s : Sy} (hv : validS s = true) : cntS s s.bs.length = sumW s := by
  have ok := validS_ok hv
  unfold cntS sumW wtsS
  rw [List.take_length]
  congr 1
  refine List.map_congr_left fun b hb => ?_
  have := ok.wts b hb
  have := ok.b6
  unfold cntB
  split <;> omega
theorem over_cnt (s : Sy) : overN (cntS s s.bs.length) s = ratP s := by
  unfold ratP
  by_cases hv : validS s = true
  · rw [cntS_is hv]
  · have e : haulP s = ((0, 0), 1) := by
      unfold haulP tensP
      rw [if_neg hv, if_neg (by decide)]
    unfold overN
    rw [e]
    rfl
set_option maxHeartbeats 4000000 in
theorem ratio13 (s : Sy) (hf : Fits s) : PRet Try.prog 20 [syD s] (fe (ratP s)) := by
  refine PRet.intro 1 fun t => ACall.enter tab_ok Try.func20 rfl rfl Try.ntmps20 (by simp) ?_
  simp only [enterTM]
  have hO := over13 (cntS s s.bs.length) s hf
  rw [over_cnt] at hO
  have hdb := bkC_div s.bs
  have hnb := hf.nb
  have hz0 : cntS s 0 = 0 := rfl
  generalize ratP s = Y at *
  ((refine ggb0 hdb ?_))
  ((repeat refine AW_seq ?_))
  refine AW_mid (fun x : Nat => ⟨[(1, .ptr 0 (t + 1) 0), (2, .ptr 1 (t + 1 + 1) 0), (4, int (cntS s s.bs.length))], [some ⟨25, t + 1, [bks s.bs, rps s.rs]⟩, some ⟨42, t + 1 + 1, [int 0, int 0]⟩], x⟩) (fun _ => True) ?_ ?_
  · refine AW_block ?_
    refine AW_loop_w (fun x : Nat × Nat => ⟨[(1, .ptr 0 (t + 1) 0), (2, .ptr 1 (t + 1 + 1) 0), (4, int (cntS s x.1)), (8, bks s.bs), (9, int s.bs.length), (10, int x.1)], [some ⟨25, t + 1, [bks s.bs, rps s.rs]⟩, some ⟨42, t + 1 + 1, [int 0, int 0]⟩], x.2⟩) (fun x => s.bs.length - x.1) (fun x => x.1 ≤ s.bs.length) (0, t + 1 + 1) (Nat.zero_le _) (by (simp (disch := omega) only [StLe, tmLe, hpLe_refl, hpLe, bl, bb, bt, zDs, zD, eqCells, simprocAttr, hz0])) ?_
    rintro ⟨k, tt⟩ hk
    simp only at hk
    by_cases hlt : k < s.bs.length
    · obtain ⟨b, hb⟩ : ∃ y, s.bs[k]? = some y := ⟨_, List.getElem?_eq_getElem hlt⟩
      have hra := bkC_read s.bs k b hb
      have hst := cntS_step hb
      have hle := cntS_le s k
      unfold cntB at hst
      generalize cntS s k = c at *
      ((refine ggb0 (F := _∧_) ⟨@Int.ofNat_lt, hlt⟩ ?_))
      ((repeat refine AW_seq ?_))
      refine AW_block ?_
      by_cases c1 : 0 < b.w
      · by_cases c2 : b.w ≤ 16777216
        · by_cases c3 : s.bs.length ≤ 6
          · have c3' : (s.bs.length : Int) ≤ 6 := by omega
            rw [if_pos ⟨c1, c2, c3⟩] at hst
            ((refine ggb0 (F := _∧_∧_∧_∧_∧_) ⟨hlt, hdb, hra, c1, c2, c3'⟩ ?_))
            refine ⟨(k + 1, tt + 1), hlt, by show s.bs.length - (k + 1) < s.bs.length - k; omega, ?_⟩
            simp only [hst]
            (simp (disch := omega) only [StLe, tmLe, hpLe_refl, hpLe, bl, bb, bt, zDs, zD, eqCells, simprocAttr])
          · have c3' : ¬ (s.bs.length : Int) ≤ 6 := by omega
            rw [if_neg (by omega), Int.add_zero] at hst
            ((refine ggb0 (F := _∧_∧_∧_∧_∧_) ⟨hlt, hdb, hra, c1, c2, c3'⟩ ?_))
            refine ⟨(k + 1, tt + 1), hlt, by show s.bs.length - (k + 1) < s.bs.length - k; omega, ?_⟩
            simp only [hst]
            (simp (disch := omega) only [StLe, tmLe, hpLe_refl, hpLe, bl, bb, bt, zDs, zD, eqCells, simprocAttr])
        · rw [if_neg (by omega), Int.add_zero] at hst
          ((refine ggb0 (F := _∧_∧_∧_∧_) ⟨hlt, hdb, hra, c1, c2⟩ ?_))
          refine ⟨(k + 1, tt + 1), hlt, by show s.bs.length - (k + 1) < s.bs.length - k; omega, ?_⟩
          simp only [hst]
          (simp (disch := omega) only [StLe, tmLe, hpLe_refl, hpLe, bl, bb, bt, zDs, zD, eqCells, simprocAttr])
      · rw [if_neg (by omega), Int.add_zero] at hst
        ((refine ggb0 (F := _∧_∧_∧_) ⟨hlt, hdb, hra, c1⟩ ?_))
        refine ⟨(k + 1, tt + 1), hlt, by show s.bs.length - (k + 1) < s.bs.length - k; omega, ?_⟩
        simp only [hst]
        (simp (disch := omega) only [StLe, tmLe, hpLe_refl, hpLe, bl, bb, bt, zDs, zD, eqCells, simprocAttr])
    · have hke : k = s.bs.length := by omega
      subst hke
      ((refine wqb @Int.lt_irrefl ?_))
      ((refine wia ?_))
      ((refine wxa ?_))
      exact ⟨tt, trivial, by (simp (disch := omega) only [StLe, tmLe, hpLe_refl, hpLe, bl, bb, bt, zDs, zD, eqCells, simprocAttr])⟩
  rintro tt -
  ((refine gga1 hO ?_))
  ((repeat refine AW_seq ?_); (refine wta ?_); simp (disch := omega) only [retQ, resD, oneD, rsv, rs, rsL, rsL_eq_map, List.map_map, bb, bt, zDs, zD, eqCells, simprocAttr, Try.results20])
end Go.Proofs.Ytpcakodemleoiaa.T

namespace Go.Proofs.Ytpcakodemleoiaa.T
open Go Go.RowKit Lin
theorem gga4_AWL {C1 C2 C3 C4 P Q : Prop} (c1 : C1) (c2 : C2) (c3 : C3) (c4 : C4) (q : Q) (h : C1 → C2 → C3 → C4 → Q → P := by
  intro cc1 cc2 cc3 cc4 hq
  (try with_reducible intro KR hKR)
  (repeat' (first | (with_reducible refine AW_seq ?_) | (with_reducible refine AW_region_k tab_ok fun KR hKR => ?_) | ((first | with_reducible refine AW_skip ?_ | with_reducible refine AW_exit ?_ | ((with_reducible refine awOps_nil ?_); refine hKR _ ?_; (try clear hKR KR))); (repeat (with_reducible first | refine q1 ?_ | refine q2 ?_ | refine q3 ?_ | refine q4 ?_ | refine q5 ?_ | refine q6 ?_ | (refine q7 ?_ ?_; (focus (with_unfolding_all rfl)))))) | ((first | ((with_reducible refine at_ops ?_); (first | refine awOps_n rfl fun KK hKK => ?_ | refine awOps_g rfl rfl fun KK hKK => ?_ | refine awOps_gc rfl fun KK hKK => ?_ | refine awOps_nc fun KK hKK => ?_)) | with_reducible refine AW_cond_k (tab := tab) fun KK hKK => ?_); simp (disch := omega) only [bb, bt, zDs, zD, eqCells, simprocAttr, bne_self_eq_false, Int.reduceBNe, Int.reduceBEq, Bool.bne_false, Bool.bne_true, Bool.false_bne, Bool.true_bne, goC, callO_fn, argsD, and_self]; (try ((first | (with_reducible refine ACall.of_pret (cc1) ?_ ?_; (focus (first | (simp only [um]; done) | rfl))) | (with_reducible refine ACall.of_pret (cc2) ?_ ?_; (focus (first | (simp only [um]; done) | rfl))) | (with_reducible refine ACall.of_pret (cc3) ?_ ?_; (focus (first | (simp only [um]; done) | rfl))) | (with_reducible refine ACall.of_pret (cc4) ?_ ?_; (focus (first | (simp only [um]; done) | rfl)))); simp only [afterC, St.put, putTM, ↓reduceIte, Nat.reduceEqDiff])); refine hKK _ ?_; clear hKK KK; (first | with_reducible refine at_ops ?_ | with_reducible refine i1 ?_ | with_reducible refine i0 ?_))))
  (first | exact hq | (revert hKR; revert KR; exact hq))) : P := h c1 c2 c3 c4 q
set_option linter.unusedSimpArgs false

/-! Chapter 13: what its laws use. -/
theorem f13 (n : Int) : PRet Try.prog 19 [int n] (frD (n, 1)) := by
  refine PRet.intro 1 fun t => ACall.enter tab_ok Try.func19 rfl rfl Try.ntmps19 (by simp) ?_
  simp only [enterTM]
  ((refine gga0 ?_))
  ((repeat refine AW_seq ?_); (refine wta ?_); simp (disch := omega) only [retQ, resD, oneD, rsv, rs, rsL, rsL_eq_map, List.map_map, bb, bt, zDs, zD, eqCells, simprocAttr, Try.results19])
def ex13 : Sy := ⟨[⟨hB, 10⟩], [⟨hR, [⟨hE, 0, 1, 1⟩, ⟨hB, 2, 1, 1⟩, ⟨hE, 0, 1, 1⟩], true⟩]⟩
theorem example13 : PRet Try.prog 37 [] (syD ex13) := by
  refine PRet.intro 4 fun t => ACall.enter tab_ok Try.func37 rfl rfl Try.ntmps37 (by simp) ?_
  simp only [enterTM]
  have h1 := f13 1
  ((refine gga1 h1 ?_))
  ((repeat refine AW_seq ?_); (refine wta ?_); simp (disch := omega) only [retQ, resD, oneD, rsv, rs, rsL, rsL_eq_map, List.map_map, bb, bt, zDs, zD, eqCells, simprocAttr, Try.results37])
  rfl
theorem ex13_fits : Fits ex13 := small_fits (by decide +kernel)
theorem ex13_for : forP ex13 hB = ((2, 1), 0) := by decide +kernel
theorem ex13_trav : travP ex13 hB = ((2, 1), 0) := by decide +kernel
theorem ex13_work : workP ex13 [6] = ((30, 1), (30, 1), 0) := by decide +kernel
set_option maxHeartbeats 2000000 in
theorem awake13 : PRet Try.prog 16 [] (bool true) := by
  refine PRet.intro 1 fun t => ACall.enter tab_ok Try.func16 rfl rfl Try.ntmps16 (by simp) ?_
  simp only [enterTM]
  have hX := example13
  have hF : PRet Try.prog 18 [syD ex13, str ⟨#[98]⟩] (fe ((2, 1), 0)) := by
    have := forces13 ex13 ex13_fits hB
    rwa [ex13_for] at this
  have hT : PRet Try.prog 38 [syD ex13, str ⟨#[98]⟩] (fe ((2, 1), 0)) := by
    have := travels13 ex13 ex13_fits hB
    rwa [ex13_trav] at this
  have hW : PRet Try.prog 39 [syD ex13, .sl 1 [int 6] false] (.tup [frD (30, 1), frD (30, 1), int 0]) := by
    have := work13 ex13 ex13_fits [6] (by simp)
    rwa [ex13_work] at this
  have h2 := f13 2
  have h3 := f13 30
  generalize ex13 = e at *
  ((refine gga4_AWL hX hF hT hW ?_))
  ((repeat refine AW_seq ?_); (refine gdza2 h2 h3 ?_))
  ((repeat refine AW_seq ?_); (refine wta ?_); simp (disch := omega) only [retQ, resD, oneD, rsv, rs, rsL, rsL_eq_map, List.map_map, bb, bt, zDs, zD, eqCells, simprocAttr, Try.results16])
theorem large13 (s : Sy) : PRet Try.prog 17 [syD s] (bool (!smallS s)) := by
  refine PRet.intro 1 fun t => ACall.enter tab_ok Try.func17 rfl rfl Try.ntmps17 (by simp) ?_
  simp only [enterTM]
  have hS := small_ref s
  cases hs : smallS s
  all_goals
    rw [hs] at hS
    ((refine gga1 hS ?_))
    ((repeat refine AW_seq ?_); (refine wta ?_); simp (disch := omega) only [retQ, resD, oneD, rsv, rs, rsL, rsL_eq_map, List.map_map, bb, bt, zDs, zD, eqCells, simprocAttr, Try.results17])
/-! AdvantageSame. -/
/-! AdvantageEqual. -/
end Go.Proofs.Ytpcakodemleoiaa.T

namespace Go.Proofs.Ytpcakodemleoiaa.T
open Go Go.RowKit Lin
set_option linter.unusedSimpArgs false

/-! AdvantageOwn. -/
theorem forP_valid {s : Sy} {nm : ByteArray} (h : (forP s nm).2 ≠ 1) : validS s = true := by
  cases hv : validS s
  · unfold forP at h
    rw [if_neg (by simp [hv])] at h
    exact absurd rfl h
  · rfl
theorem bkC_ww {l : List Bk} {i : Nat} {b : Bk} (h : l[i]? = some b) (v w : Int) : ((bkC l).set (i * 2 + 1) (int v)).set (i * 2 + 1) (int w) = bkC (l.set i ⟨b.nm, w⟩) := by
  rw [List.set_set, bkC_wt h w]
set_option maxRecDepth 100000 in
set_option maxHeartbeats 16000000 in
theorem law_own13 (s : Sy) (nm : ByteArray) (w : Int) (hw : 0 ≤ w ∧ w < 65536) : PRet Try.prog 4 [syD s, str nm, .v (.int .u16 w)] (bool true) := by
  refine PRet.intro 1 fun t => ACall.enter tab_ok Try.func4 rfl rfl Try.ntmps4 (by simp) ?_
  simp only [enterTM]
  have hL := large13 s
  cases hs : smallS s
  · rw [hs] at hL
    ((refine gga2 awake13 hL ?_))
    ((repeat refine AW_seq ?_); (refine wta ?_); simp (disch := omega) only [retQ, resD, oneD, rsv, rs, rsL, rsL_eq_map, List.map_map, bb, bt, zDs, zD, eqCells, simprocAttr, Try.results4])
  rw [hs] at hL
  by_cases hn : (60 : Int) < nm.size
  · ((refine ggb2 hn awake13 hL ?_))
    ((repeat refine AW_seq ?_); (refine wta ?_); simp (disch := omega) only [retQ, resD, oneD, rsv, rs, rsL, rsL_eq_map, List.map_map, bb, bt, zDs, zD, eqCells, simprocAttr, Try.results4])
  have hf := small_fits hs
  have hF := forces13 s hf nm
  have hnF := forP_nil (s := s) (nm := nm)
  by_cases h1 : (forP s nm).2 = 1
  · have e1 : ((forP s nm).2 == 1) = true := by simpa using h1
    have hz := hnF (by omega)
    have e2 : (forP s nm).1.1 = 0 := by rw [hz]
    have e3 : (forP s nm).1.2 = 0 := by rw [hz]
    generalize forP s nm = X at *
    ((refine ggb3 (F := _∧_∧_∧_) ⟨hn, e1, e2, e3⟩ awake13 hL hF ?_))
    ((repeat refine AW_seq ?_); (refine wta ?_); simp (disch := omega) only [retQ, resD, oneD, rsv, rs, rsL, rsL_eq_map, List.map_map, bb, bt, zDs, zD, eqCells, simprocAttr, Try.results4])
  have hv := forP_valid h1
  have ok := validS_ok hv
  have hr6 := ok.r6
  have hb6 := ok.b6
  have hw' : 0 ≤ w ∧ w ≤ 65535 := by omega
  have hown := own_for hv nm hw'
  have hrat := own_ratio hv (nm := nm) hw'
  have hfo : Fits (ownS s nm w) := ⟨by simpa [ownS] using hf.nb, by simpa [ownS] using hf.nr, fun b hb => by
    obtain ⟨c, hc, rfl⟩ := List.mem_map.1 hb
    exact hf.sb c hc, fun r hr => by
    obtain ⟨q, hq, rfl⟩ := List.mem_map.1 hr
    exact ⟨(hf.sr q hq).1, by simpa [cleanR] using (hf.sr q hq).2⟩⟩
  have hF2 := forces13 (ownS s nm w) hfo nm
  have hR2 := ratio13 (ownS s nm w) hfo
  rw [hown] at hF2
  have esy : syD (ownS s nm w) = .agg [bks (ownS s nm w).bs, rps (s.rs.map cleanR)] := rfl
  rw [esy] at hF2 hR2
  have e1 : ((forP s nm).2 == 1) = false := by simpa using h1
  generalize forP s nm = X at *
  have o1 := f13 1
  ((refine ggb3 hn awake13 hL hF ?_))
  ((refine wib e1 ?_))
  ((refine wsa ?_))
  ((repeat refine AW_seq ?_))
  refine AW.reserve 1 ?_
  simp only [List.replicate_succ, List.replicate_zero, List.cons_append, List.nil_append]
  ((repeat refine AW_seq ?_); (refine AW_region_k tab_ok fun KR hKR => ?_))
  ((refine wra ?_))
  ((try with_reducible intro KR hKR); (first | refine awOps_nc fun KK hKK => ?_ | refine awOps_gc rfl fun KK hKK => ?_); simp (disch := omega) only [bb, bt, zDs, zD, eqCells, simprocAttr, goC, callO_fn, argsD, and_self])
  refine copyH ok rfl fun g2 gr qs R0 B0 B1 B3 t1 hcb ht1 => ?_
  simp only [List.length_cons, List.length_nil, List.cons_append, List.nil_append, Nat.zero_add, Nat.reduceAdd]
  (simp (disch := omega) only [bb, bt, zDs, zD, eqCells, simprocAttr, afterC]; refine hKK _ ?_; clear hKK KK)
  refine awOps_at 2 rfl rfl (by decide) fun KK hKK => ?_
  (simp (disch := omega) only [bb, bt, zDs, zD, eqCells, simprocAttr])
  refine hKK _ ?_; clear hKK KK
  ((refine wra ?_))
  ((refine wea ?_); (try clear hKR KR))
  have hlq := hcb.lq
  have hrc := roC_cells hlq
  have hR0 : IdR s qs 0 0 R0 := ⟨hcb.lr, fun j r p hr hp => by
    obtain ⟨a1, a2⟩ := hcb.at_ j r p hr hp
    refine ⟨by simp only [List.length_cons, List.length_nil] at a1; omega, ?_⟩
    rw [a2]
    unfold idH
    rw [if_neg (by omega)]
    split
    · rw [clH_zero]
    · rfl⟩
  have hcells : ∀ (i : Nat) (r : Rp) (p : Nat × Nat), s.rs[i]? = some r → qs[i]? = some p → (roC s.rs qs).flatten[i * 3 + 1]? = some (.own 4 p.1 p.2 0 r.hs.length) := fun i r p h1 h2 => roC_hs h1 h2
  generalize hRC : (roC s.rs qs).flatten = RC at *
  have hrd : RC.length / 3 = s.rs.length := by omega
  have hdb := bkC_div s.bs
  have hlb := bkC_len s.bs
  have hz0 : chW (fun _ b => if b.nm = nm then w else 0) s.bs 0 = s.bs := rfl
  have hend : chW (fun _ b => if b.nm = nm then w else 0) s.bs s.bs.length = (ownS s nm w).bs := by
    rw [chW_end]
    refine List.ext_getElem? fun i => ?_
    simp only [ownS, List.getElem?_mapIdx, List.getElem?_map]
    rfl
  ((refine ggb0 hdb ?_))
  ((repeat refine AW_seq ?_))
  refine AW.less ⟨[(1, str nm), (2, .v (.int .u16 w)), (3, .ptr 0 (t + 1) 0), (7, .ptr 1 (t + 1 + 1) 0), (8, int X.2), (9, .ptr 2 (t1 + 1) 0), (41, int s.bs.length), (42, int 0)], some ⟨25, t + 1, [bks s.bs, rps s.rs]⟩ :: some ⟨42, t + 1 + 1, [int X.1.1, int X.1.2]⟩ :: some ⟨25, t1 + 1, [.own 2 5 g2 0 s.bs.length, .own 3 7 gr 0 s.rs.length]⟩ :: none :: none :: some ⟨35, g2, bkC (s.bs)⟩ :: none :: some ⟨39, gr, RC⟩ :: R0.map some, t1 + 1⟩ (by (simp (disch := omega) only [StLe, tmLe, hpLe_refl, hpLe, bl, bb, bt, zDs, zD, eqCells, simprocAttr])) ?_
  refine AW_mid (fun x : Nat => ⟨[(1, str nm), (2, .v (.int .u16 w)), (3, .ptr 0 (t + 1) 0), (7, .ptr 1 (t + 1 + 1) 0), (8, int X.2), (9, .ptr 2 (t1 + 1) 0)], some ⟨25, t + 1, [bks s.bs, rps s.rs]⟩ :: some ⟨42, t + 1 + 1, [int X.1.1, int X.1.2]⟩ :: some ⟨25, t1 + 1, [.own 2 5 g2 0 s.bs.length, .own 3 7 gr 0 s.rs.length]⟩ :: none :: none :: some ⟨35, g2, bkC ((ownS s nm w).bs)⟩ :: none :: some ⟨39, gr, RC⟩ :: R0.map some, x⟩) (fun _ => True) ?_ ?_
  · refine AW_block ?_
    refine AW_loop_w (fun x : Nat × Nat => ⟨[(1, str nm), (2, .v (.int .u16 w)), (3, .ptr 0 (t + 1) 0), (7, .ptr 1 (t + 1 + 1) 0), (8, int X.2), (9, .ptr 2 (t1 + 1) 0), (41, int s.bs.length), (42, int x.1)], some ⟨25, t + 1, [bks s.bs, rps s.rs]⟩ :: some ⟨42, t + 1 + 1, [int X.1.1, int X.1.2]⟩ :: some ⟨25, t1 + 1, [.own 2 5 g2 0 s.bs.length, .own 3 7 gr 0 s.rs.length]⟩ :: none :: none :: some ⟨35, g2, bkC (chW (fun _ b => if b.nm = nm then w else 0) s.bs x.1)⟩ :: none :: some ⟨39, gr, RC⟩ :: R0.map some, x.2⟩) (fun x => s.bs.length - x.1) (fun x => x.1 ≤ s.bs.length) (0, t1 + 1) (Nat.zero_le _) (by (simp (disch := omega) only [StLe, tmLe, hpLe_refl, hpLe, bl, bb, bt, zDs, zD, eqCells, simprocAttr, hz0])) ?_
    rintro ⟨k, tt⟩ hk
    simp only at hk
    by_cases hlt : k < s.bs.length
    · obtain ⟨b, hb⟩ : ∃ y, s.bs[k]? = some y := ⟨_, List.getElem?_eq_getElem hlt⟩
      have hC0 := chW_at (f := fun _ b => if b.nm = nm then w else 0) hb
      have hs1 := chW_set (f := fun _ b => if b.nm = nm then w else 0) hb
      have hl1 := bkC_len (chW (fun _ b => if b.nm = nm then w else 0) s.bs k)
      have hcl := chW_len (fun _ b => if b.nm = nm then w else 0) s.bs k
      rw [hcl] at hl1
      generalize chW (fun _ b => if b.nm = nm then w else 0) s.bs k = C at *
      have hw0 := bkC_wt hC0 0
      have hC1 : (C.set k ⟨b.nm, 0⟩)[k]? = some ⟨b.nm, 0⟩ := List.getElem?_set_self (List.getElem?_eq_some_iff.1 hC0).1
      have hl2 := bkC_len (C.set k ⟨b.nm, 0⟩)
      rw [List.length_set, hcl] at hl2
      have hn1 : (bkC (C.set k ⟨b.nm, 0⟩))[k * 2]? = some (str b.nm) := by
        have h := bkC_nm hC1
        exact h
      have hn2 := take_one hn1
      have hw1 : (bkC (C.set k ⟨b.nm, 0⟩)).set (k * 2 + 1) (int w) = bkC (C.set k ⟨b.nm, w⟩) := by
        have h := bkC_wt hC1 w
        rw [List.set_set] at h
        exact h
      ((refine ggb0 (F := _∧_) ⟨@Int.ofNat_lt, hlt⟩ ?_))
      ((repeat refine AW_seq ?_))
      refine AW_block ?_
      by_cases hnm : b.nm = nm
      · rw [if_pos hnm] at hs1
        rw [hnm] at hw0 hn1 hn2 hw1 hs1 hl2
        have en : decide (nm = nm) = true := by simp
        have en2 : (nm == nm) = true := by simp
        have wc := wr64 w (by omega)
        ((refine ggb0 (F := _∧_∧_∧_∧_∧_∧_∧_∧_∧_∧_) ⟨@Int.ofNat_lt, hlt, hl1, hl2, hw0, hn1, hn2, en, en2, hw1, wc⟩ ?_))
        refine ⟨(k + 1, tt), hlt, by show s.bs.length - (k + 1) < s.bs.length - k; omega, ?_⟩
        simp only [hs1]
        (simp (disch := omega) only [StLe, tmLe, hpLe_refl, hpLe, bl, bb, bt, zDs, zD, eqCells, simprocAttr])
      · have en : decide (b.nm = nm) = false := decide_eq_false hnm
        have en2 : (b.nm == nm) = false := by simpa using hnm
        rw [if_neg hnm] at hs1
        ((refine ggb0 (F := _∧_∧_∧_∧_∧_∧_∧_∧_∧_) ⟨@Int.ofNat_lt, hlt, hl1, hl2, hw0, hn1, hn2, hnm, en, en2⟩ ?_))
        refine ⟨(k + 1, tt), hlt, by show s.bs.length - (k + 1) < s.bs.length - k; omega, ?_⟩
        simp only [hs1]
        (simp (disch := omega) only [StLe, tmLe, hpLe_refl, hpLe, bl, bb, bt, zDs, zD, eqCells, simprocAttr])
    · have hke : k = s.bs.length := by omega
      subst hke
      rw [hend]
      ((refine wqb @Int.lt_irrefl ?_))
      ((refine wia ?_))
      ((refine wxa ?_))
      exact ⟨tt, trivial, by (simp (disch := omega) only [StLe, tmLe, hpLe_refl, hpLe, bl, bb, bt, zDs, zD, eqCells, simprocAttr])⟩
  rintro t2 -
  have hol : (ownS s nm w).bs.length = s.bs.length := by simp [ownS]
  generalize hob : (ownS s nm w).bs = ob at *
  ((refine ggb0 hrd ?_))
  ((repeat refine AW_seq ?_))
  refine AW_mid (fun x : List Blk × Nat => ⟨[(1, str nm), (2, .v (.int .u16 w)), (3, .ptr 0 (t + 1) 0), (7, .ptr 1 (t + 1 + 1) 0), (8, int X.2), (9, .ptr 2 (t1 + 1) 0)], some ⟨25, t + 1, [bks s.bs, rps s.rs]⟩ :: some ⟨42, t + 1 + 1, [int X.1.1, int X.1.2]⟩ :: some ⟨25, t1 + 1, [.own 2 5 g2 0 s.bs.length, .own 3 7 gr 0 s.rs.length]⟩ :: none :: none :: some ⟨35, g2, bkC (ob)⟩ :: none :: some ⟨39, gr, RC⟩ :: x.1.map some, x.2⟩) (fun x => IdR s qs s.rs.length 0 x.1) ?_ ?_
  · refine AW_block ?_
    refine AW_loop_w (fun x : Nat × List Blk × Nat => ⟨[(1, str nm), (2, .v (.int .u16 w)), (3, .ptr 0 (t + 1) 0), (7, .ptr 1 (t + 1 + 1) 0), (8, int X.2), (9, .ptr 2 (t1 + 1) 0), (68, int s.rs.length), (69, int x.1)], some ⟨25, t + 1, [bks s.bs, rps s.rs]⟩ :: some ⟨42, t + 1 + 1, [int X.1.1, int X.1.2]⟩ :: some ⟨25, t1 + 1, [.own 2 5 g2 0 s.bs.length, .own 3 7 gr 0 s.rs.length]⟩ :: none :: none :: some ⟨35, g2, bkC (ob)⟩ :: none :: some ⟨39, gr, RC⟩ :: x.2.1.map some, x.2.2⟩) (fun x => s.rs.length - x.1) (fun x => x.1 ≤ s.rs.length ∧ IdR s qs x.1 0 x.2.1) (0, R0, t2) ⟨Nat.zero_le _, hR0⟩ (by (simp (disch := omega) only [StLe, tmLe, hpLe_refl, hpLe, bl, bb, bt, zDs, zD, eqCells, simprocAttr])) ?_
    rintro ⟨i, R1, tt⟩ ⟨hi, hR1⟩
    simp only at hi hR1
    by_cases hlt : i < s.rs.length
    · obtain ⟨r, hr⟩ : ∃ y, s.rs[i]? = some y := ⟨_, List.getElem?_eq_getElem hlt⟩
      obtain ⟨p, hp⟩ : ∃ y, qs[i]? = some y := ⟨_, List.getElem?_eq_getElem (by omega)⟩
      have hc1 := hcells i r p hr hp
      have hc2 := take_one hc1
      obtain ⟨p1, p2⟩ := p
      simp only at hc1 hc2
      have ho2 := (ok.holds r (List.mem_of_getElem? hr)).2.1
      have p90 := (hR1.at_ i r (p1, p2) hr hp).1
      have pR0 := (hR1.at_ i r (p1, p2) hr hp).2
      have eid0 : idH r.hs i 0 i = r.hs := by unfold idH; rw [if_neg (by omega), if_pos rfl, clH_zero]
      rw [eid0] at pR0
      simp only at p90 pR0
      have hget0 : ∀ X0 X1 X2 X3 X4 X5 X6 X7 : Option Blk, (X0 :: X1 :: X2 :: X3 :: X4 :: X5 :: X6 :: X7 :: R1.map some)[p1]? = some (some ⟨46, p2, hdC r.hs⟩) := fun X0 X1 X2 X3 X4 X5 X6 X7 => by
        rw [p90, show 2 * i + 9 = (2 * i + 1) + 1 + 1 + 1 + 1 + 1 + 1 + 1 + 1 by omega]
        simp only [List.getElem?_cons_succ, List.getElem?_map, pR0, Option.map_some]
      ((refine ggb0 (F := _∧_) ⟨@Int.ofNat_lt, hlt⟩ ?_))
      ((repeat refine AW_seq ?_))
      refine AW_block ?_
      ((refine ggb0 (F := _∧_∧_∧_∧_∧_) ⟨@Int.ofNat_lt, hlt, hrd, hc1, hc2, hget0⟩ ?_))
      refine AW_block ?_
      refine AW_loop_w (fun x : Nat × List Blk × Nat => ⟨[(1, str nm), (2, .v (.int .u16 w)), (3, .ptr 0 (t + 1) 0), (7, .ptr 1 (t + 1 + 1) 0), (8, int X.2), (9, .ptr 2 (t1 + 1) 0), (68, int s.rs.length), (69, int i), (11, int i), (78, int r.hs.length), (79, int x.1)], some ⟨25, t + 1, [bks s.bs, rps s.rs]⟩ :: some ⟨42, t + 1 + 1, [int X.1.1, int X.1.2]⟩ :: some ⟨25, t1 + 1, [.own 2 5 g2 0 s.bs.length, .own 3 7 gr 0 s.rs.length]⟩ :: none :: none :: some ⟨35, g2, bkC (ob)⟩ :: none :: some ⟨39, gr, RC⟩ :: x.2.1.map some, x.2.2⟩) (fun x => r.hs.length - x.1) (fun x => x.1 ≤ r.hs.length ∧ IdR s qs i x.1 x.2.1) (0, R1, tt) ⟨Nat.zero_le _, hR1⟩ (by (simp (disch := omega) only [StLe, tmLe, hpLe_refl, hpLe, bl, bb, bt, zDs, zD, eqCells, simprocAttr])) ?_
      rintro ⟨k, R, t3⟩ ⟨hk, hR⟩
      simp only at hk hR
      obtain ⟨p9, pR⟩ := hR.at_ i r (p1, p2) hr hp
      have eid : idH r.hs i k i = clH r.hs k := by unfold idH; rw [if_neg (by omega), if_pos rfl]
      rw [eid] at pR
      simp only at p9 pR
      have hget : ∀ X0 X1 X2 X3 X4 X5 X6 X7 : Option Blk, (X0 :: X1 :: X2 :: X3 :: X4 :: X5 :: X6 :: X7 :: R.map some)[p1]? = some (some ⟨46, p2, hdC (clH r.hs k)⟩) := fun X0 X1 X2 X3 X4 X5 X6 X7 => by
        rw [p9, show 2 * i + 9 = (2 * i + 1) + 1 + 1 + 1 + 1 + 1 + 1 + 1 + 1 by omega]
        simp only [List.getElem?_cons_succ, List.getElem?_map, pR, Option.map_some]
      by_cases hlk : k < r.hs.length
      · obtain ⟨h, hh⟩ : ∃ y, r.hs[k]? = some y := ⟨_, List.getElem?_eq_getElem hlk⟩
        have hlR := hR.lr
        have hl4 := hdC_len (clH r.hs k)
        rw [clH_len _ _ hk] at hl4
        have hs4 := hdC_ls (clH_at hh) 1 1
        have hn4 : hdC ((clH r.hs k).set k ⟨h.b, h.p, 1, 1⟩) = hdC (clH r.hs (k + 1)) := by rw [← clH_set hh]; rfl
        rw [hn4] at hs4
        have hle4 : k * 4 + 4 ≤ r.hs.length * 4 := by omega
        have hset : ∀ (X0 X1 X2 X3 X4 X5 X6 X7 : Option Blk) (Y : Blk), (X0 :: X1 :: X2 :: X3 :: X4 :: X5 :: X6 :: X7 :: R.map some).set p1 (some Y) = X0 :: X1 :: X2 :: X3 :: X4 :: X5 :: X6 :: X7 :: (R.set (2 * i + 1) Y).map some := fun X0 X1 X2 X3 X4 X5 X6 X7 Y => by
          rw [p9, show 2 * i + 9 = (2 * i + 1) + 1 + 1 + 1 + 1 + 1 + 1 + 1 + 1 by omega]
          simp only [List.set_cons_succ, List.map_set]
        have hne : (p1 = R.length + 1 + 1 + 1 + 1 + 1 + 1 + 1 + 1) = False := by simp only [eq_iff_iff, iff_false]; omega
        have hnx : IdR s qs i (k + 1) (R.set (2 * i + 1) ⟨46, p2, hdC (clH r.hs (k + 1))⟩) := by
          refine ⟨by rw [List.length_set]; exact hlR, fun j x q hx hq => ?_⟩
          obtain ⟨a1, a2⟩ := hR.at_ j x q hx hq
          refine ⟨a1, ?_⟩
          by_cases e : j = i
          · subst e
            rw [hr, Option.some.injEq] at hx
            rw [hp, Option.some.injEq] at hq
            subst hx hq
            rw [List.getElem?_set_self (by omega)]
            unfold idH
            rw [if_neg (by omega), if_pos rfl]
          · rw [List.getElem?_set_ne (by omega), a2]
            unfold idH
            rw [if_neg e, if_neg e]
        ((refine ggb0 (F := _∧_) ⟨@Int.ofNat_lt, hlk⟩ ?_))
        ((repeat refine AW_seq ?_))
        refine AW_block ?_
        ((refine gga0 ?_))
        ((repeat refine AW_seq ?_); (refine AW_drawn_k tab_ok follows_mixed 0 fun KR hKR => ?_); simp only [List.replicate_succ, List.replicate_zero, List.append_nil, List.nil_append, List.cons_append, List.length_cons, List.length_nil, Nat.reduceAdd])
        ((refine wdb (F := _∧_∧_∧_∧_∧_∧_∧_∧_∧_∧_) ⟨hlk, hlt, hrd, hc1, hc2, hget, hset, hne, hl4, hs4, hle4⟩ ?_))
        ((first | refine awD_nc fun KK hKK => ?_ | refine awD_gc rfl fun KK hKK => ?_); simp (disch := omega) only [bb, bt, zDs, zD, eqCells, simprocAttr, goCDS, callDS_fn, argsZ, argsD, ufa, uf]; refine PGive.ret (o1) ?_; simp (disch := omega) only [bb, bt, zDs, zD, eqCells, simprocAttr, afterDS]; refine hKK _ _ _ ?_; clear hKK KK)
        ((refine wdb (F := _∧_∧_∧_∧_∧_∧_∧_∧_∧_∧_) ⟨hlk, hlt, hrd, hc1, hc2, hget, hset, hne, hl4, hs4, hle4⟩ ?_))
        ((refine awD_nil ?_); simp only [List.reverse_cons, List.reverse_nil, List.nil_append, List.cons_append]; (refine hKR _ _ (by exact anyB_map (clamp 0) (by kernel_rfl)) ?_); (try clear hKR KR); (repeat (with_reducible first | refine q1 ?_ | refine q2 ?_ | refine q3 ?_ | refine q4 ?_ | refine q5 ?_ | refine q6 ?_ | (refine q7 ?_ ?_; (focus (with_unfolding_all rfl))))))
        ((refine gga0 ?_))
        refine ⟨(k + 1, R.set (2 * i + 1) ⟨46, p2, hdC (clH r.hs (k + 1))⟩, t3 + 1), ⟨hlk, hnx⟩, by show r.hs.length - (k + 1) < r.hs.length - k; omega, ?_⟩
        (simp (disch := omega) only [StLe, tmLe, hpLe_refl, hpLe, bl, bb, bt, zDs, zD, eqCells, simprocAttr])
      · have hke : k = r.hs.length := by omega
        subst hke
        have hnx : IdR s qs (i + 1) 0 R := ⟨hR.lr, fun j x q hx hq => by
          obtain ⟨a1, a2⟩ := hR.at_ j x q hx hq
          refine ⟨a1, ?_⟩
          rw [a2]
          unfold idH
          by_cases e1 : j < i
          · rw [if_pos e1, if_pos (by omega)]
          · rw [if_neg e1]
            by_cases e2 : j = i
            · subst e2
              rw [hr, Option.some.injEq] at hx
              subst hx
              rw [if_pos rfl, if_pos (by omega), clH_end]
            · rw [if_neg e2, if_neg (by omega)]
              split
              · rw [clH_zero]
              · rfl⟩
        ((refine wqb @Int.lt_irrefl ?_))
        ((refine wia ?_))
        ((refine wxa ?_))
        ((refine gga0 ?_))
        refine ⟨(i + 1, R, t3), ⟨hlt, hnx⟩, by show s.rs.length - (i + 1) < s.rs.length - i; omega, ?_⟩
        (simp (disch := omega) only [StLe, tmLe, hpLe_refl, hpLe, bl, bb, bt, zDs, zD, eqCells, simprocAttr])
    · have hie : i = s.rs.length := by omega
      subst hie
      ((refine wqb @Int.lt_irrefl ?_))
      ((refine wia ?_))
      ((refine wxa ?_))
      exact ⟨(R1, tt), hR1, by (simp (disch := omega) only [StLe, tmLe, hpLe_refl, hpLe, bl, bb, bt, zDs, zD, eqCells, simprocAttr])⟩
  rintro ⟨R, tt⟩ hR
  simp only at hR
  have hlay : LayR 3 (none :: none :: some ⟨35, g2, bkC ob⟩ :: none :: some ⟨39, gr, RC⟩ :: R.map some) (s.rs.map cleanR) qs := ⟨by rw [List.length_map]; exact hlq, fun j x q hx hq => by
    rw [List.getElem?_map] at hx
    cases e : s.rs[j]? with
    | none => rw [e] at hx; simp at hx
    | some y =>
      rw [e] at hx
      simp only [Option.map_some, Option.some.injEq] at hx
      subst hx
      obtain ⟨a1, a2⟩ := hR.at_ j y q e hq
      refine ⟨by omega, ?_⟩
      rw [a1, show 2 * j + 9 - 3 = (2 * j + 1) + 1 + 1 + 1 + 1 + 1 by omega]
      simp only [List.getElem?_cons_succ, List.getElem?_map, a2, Option.map_some]
      unfold idH
      rw [if_pos (List.getElem?_eq_some_iff.1 e).1]
      rfl⟩
  have z1 := zv_blocks (k := 2) (m := 3) (H2 := none :: none :: some ⟨35, g2, bkC ob⟩ :: none :: some ⟨39, gr, RC⟩ :: R.map some) (b := 5) (g := g2) (bs := ob) (by decide) rfl
  rw [hol] at z1
  have z2 := zv_ropes (k := 1) (b := 7) (g := gr) hlay (by decide) (by rw [roC_clean, hRC]; rfl)
  rw [List.length_map] at z2
  refine AW.tail 3 [some ⟨25, t + 1, [bks s.bs, rps s.rs]⟩, some ⟨42, t + 1 + 1, [int X.1.1, int X.1.2]⟩, some ⟨25, t1 + 1, [.own 2 5 g2 0 s.bs.length, .own 3 7 gr 0 s.rs.length]⟩] (none :: none :: some ⟨35, g2, bkC ob⟩ :: none :: some ⟨39, gr, RC⟩ :: R.map some) rfl ?_
  have zb : ∀ (H : Hp) (l : List Bk), zv 3 H 3 (bks l) = bks l := fun H l => zv_plain 3 H 3 (plain_bk l)
  have zr : ∀ (H : Hp) (l : List Rp), zv 3 H 3 (rps l) = rps l := fun H l => zv_plain 3 H 3 (plain_rp l)
  have zp0 : ∀ H : Hp, zv 3 H 3 (.ptr 0 (t + 1) 0) = .ptr 0 (t + 1) 0 := fun H => by simp [zv, zz]
  have zp1 : ∀ H : Hp, zv 3 H 3 (.ptr 1 (t + 1 + 1) 0) = .ptr 1 (t + 1 + 1) 0 := fun H => by simp [zv, zz]
  have zp2 : ∀ H : Hp, zv 3 H 3 (.ptr 2 (t1 + 1) 0) = .ptr 2 (t1 + 1) 0 := fun H => by simp [zv, zz]
  simp only [zT, zH, List.map_cons, List.map_nil, Option.map_some, Option.map_none, List.length_nil, List.length_cons, Nat.zero_add, Nat.reduceAdd, z1, z2, zb, zr, zp0, zp1, zp2, zv_v]
  clear z1 z2 zb zr zp0 zp1 zp2 hlay
  have ee : (X.2 != X.2) = false := by simp
  by_cases h0 : X.2 = 0
  · have c0 : (X.2 != 0) = false := by simpa using h0
    by_cases w0 : w = 0
    · have c1 : (w == 0) = true := by simpa using w0
      ((refine ggb1 (F := _∧_∧_) ⟨ee, c0, c1⟩ hF2 ?_))
      ((repeat refine AW_seq ?_); (refine wta ?_); simp (disch := omega) only [retQ, resD, oneD, rsv, rs, rsL, rsL_eq_map, List.map_map, bb, bt, zDs, zD, eqCells, simprocAttr, Try.results4])
    · have c1 : (w == 0) = false := by simpa using w0
      rw [hrat w0 h0] at hR2
      have c2 : (X.2 == 0) = true := by simpa using h0
      ((refine ggb2 (F := _∧_∧_∧_) ⟨ee, c0, c1, c2⟩ hF2 hR2 ?_))
      ((repeat refine AW_seq ?_); (refine wta ?_); simp (disch := omega) only [retQ, resD, oneD, rsv, rs, rsL, rsL_eq_map, List.map_map, bb, bt, zDs, zD, eqCells, simprocAttr, Try.results4])
  · have c0 : (X.2 != 0) = true := by simpa using h0
    ((refine ggb1 (F := _∧_) ⟨ee, c0⟩ hF2 ?_))
    ((repeat refine AW_seq ?_); (refine wta ?_); simp (disch := omega) only [retQ, resD, oneD, rsv, rs, rsL, rsL_eq_map, List.map_map, bb, bt, zDs, zD, eqCells, simprocAttr, Try.results4])
end Go.Proofs.Ytpcakodemleoiaa.T

/- What the arguments of chapter 4's laws stand for. -/
section
namespace Go.Proofs.Ytpcakodemleoiaa.T
open Go Go.RowKit Go.ChangeShapes

theorem slice_one {P : Program} {w : World} {r : Reach} {base : Nat} {t e : TypeId} {v : Value} (ht : P.underlying t = some (.slice e)) (h : Value.okWide P w r base t v) : v.cells = #[v] := by
  simp only [Value.okWide, ht, Cell.okWide] at h
  cases v <;> simp_all [Value.cells, Cell.ok]
theorem ints_of : ∀ {rows : List (List D)}, (∀ r ∈ rows, (∃ n, r = [int n] ∧ (Lit.int .i64 n).wf = true) ∧ r.length = 1) → ∃ l : List Int, rows.flatten = l.map int ∧ ∀ x ∈ l, (Lit.int .i64 x).wf = true
  | [], _ => ⟨[], rfl, by simp⟩
  | r :: rows, h => by
    obtain ⟨⟨n, rfl, hw⟩, _⟩ := h r (by simp)
    obtain ⟨l, e, hl⟩ := ints_of fun x hx => h x (List.mem_cons_of_mem _ hx)
    exact ⟨n :: l, by simp [e], fun x hx => by
      rcases List.mem_cons.1 hx with rfl | hx
      · exact hw
      · exact hl x hx⟩
theorem rows_of : ∀ {rows : List (List D)}, (∀ r ∈ rows, (∃ l : List Int, r = [ints l] ∧ ∀ x ∈ l, (Lit.int .i64 x).wf = true) ∧ r.length = 1) → ∃ m : List (List Int), rows.flatten = m.map ints ∧ ∀ l ∈ m, ∀ x ∈ l, (Lit.int .i64 x).wf = true
  | [], _ => ⟨[], rfl, by simp⟩
  | r :: rows, h => by
    obtain ⟨⟨n, rfl, hw⟩, _⟩ := h r (by simp)
    obtain ⟨l, e, hl⟩ := rows_of fun x hx => h x (List.mem_cons_of_mem _ hx)
    exact ⟨n :: l, by simp [e], fun x hx => by
      rcases List.mem_cons.1 hx with rfl | hx
      · exact hw
      · exact hl x hx⟩

theorem u8_of {x : Int} (h : (Lit.int .u8 x).wf = true) : 0 ≤ x ∧ x < 256 := by
  rw [Lit.wf, Bool.and_eq_true] at h
  have h1 := of_decide_eq_true h.1
  have h2 := of_decide_eq_true h.2
  have e1 : IntKind.u8.min = 0 := rfl
  have e2 : IntKind.u8.max = 255 := rfl
  rw [e1] at h1
  rw [e2] at h2
  exact ⟨h1, by omega⟩
theorem cellsInt : Try.prog.cellsOf 3 = 1 := by kernel_rfl
theorem cellsInts : Try.prog.cellsOf 66 = 1 := by kernel_rfl
section
variable {H : Type} {enc : TypeId × Value → H} {W : World}
theorem opn_ints : Opn enc Try.prog W 66 fun ds => ∃ l : List Int, ds = [ints l] ∧ ∀ x ∈ l, (Lit.int .i64 x).wf = true :=
  (Opn.slice Try.underlying66 cellsInt (by decide) (Opn.int Try.underlying3)).mono fun ds ⟨rows, e, h, _⟩ => by
    obtain ⟨l, e2, hl⟩ := ints_of h
    exact ⟨l, by rw [e, e2], hl⟩
theorem opn_mat : Opn enc Try.prog W 63 fun ds => ∃ m : List (List Int), ds = [mat m] ∧ ∀ l ∈ m, ∀ x ∈ l, (Lit.int .i64 x).wf = true :=
  (Opn.slice Try.underlying63 cellsInts (by decide) opn_ints).mono fun ds ⟨rows, e, h, _⟩ => by
    obtain ⟨l, e2, hl⟩ := rows_of h
    exact ⟨l, by rw [e, e2], hl⟩
end
end Go.Proofs.Ytpcakodemleoiaa.T
end

/- Arguments that are lists of fractions. -/
section
namespace Go.Proofs.Ytpcakodemleoiaa.T
open Go Go.RowKit Go.ChangeShapes

theorem fracs_of : ∀ {rows : List (List D)}, (∀ r ∈ rows, (∃ a b, r = [int a, int b]) ∧ r.length = 2) → ∃ l : List (Int × Int), rows.flatten = frC l
  | [], _ => ⟨[], rfl⟩
  | r :: rows, h => by
    obtain ⟨⟨a, b, rfl⟩, _⟩ := h r (by simp)
    obtain ⟨l, e⟩ := fracs_of fun x hx => h x (List.mem_cons_of_mem _ hx)
    exact ⟨(a, b) :: l, by simp [e, frC]⟩
theorem cellsFrac : Try.prog.cellsOf 42 = 2 := by kernel_rfl
section
variable {H : Type} {enc : TypeId × Value → H} {W : World}
theorem opn_frac : Opn enc Try.prog W 42 fun ds => ∃ a b, ds = [int a, int b] :=
  (Opn.struct Try.underlying42 ⟨_, _, rfl, rfl, Opn.int Try.underlying3, _, _, rfl, by simp only [cellsInt], Opn.int Try.underlying3, rfl⟩ (by kernel_rfl)).mono fun ds h => by
    obtain ⟨d1, r1, rfl, ⟨a, rfl, _⟩, d2, r2, rfl, ⟨b, rfl, _⟩, rfl⟩ := h
    exact ⟨a, b, rfl⟩
theorem opn_fracs : Opn enc Try.prog W 28 fun ds => ∃ l : List (Int × Int), ds = [frs l] ∧ True :=
  (Opn.slice Try.underlying28 cellsFrac (by decide) opn_frac).mono fun ds ⟨rows, e, h, _⟩ => by
    obtain ⟨l, e2⟩ := fracs_of h
    exact ⟨l, by rw [e, e2], trivial⟩
end
end Go.Proofs.Ytpcakodemleoiaa.T
end

/- Arguments that are systems. -/
section
namespace Go.Proofs.Ytpcakodemleoiaa.T
open Go Go.RowKit Go.ChangeShapes

theorem flats_of {α : Type} {f : α → List D} {n : Nat} : ∀ {rows : List (List D)}, (∀ r ∈ rows, (∃ x, r = f x) ∧ r.length = n) → ∃ l : List α, rows.flatten = l.flatMap f
  | [], _ => ⟨[], rfl⟩
  | r :: rows, h => by
    obtain ⟨⟨x, rfl⟩, _⟩ := h r (by simp)
    obtain ⟨l, e⟩ := flats_of fun x hx => h x (List.mem_cons_of_mem _ hx)
    exact ⟨x :: l, by simp [e]⟩
theorem cellsHold : Try.prog.cellsOf 46 = 4 := by kernel_rfl
theorem cellsRope : Try.prog.cellsOf 39 = 3 := by kernel_rfl
theorem cellsBlock : Try.prog.cellsOf 35 = 2 := by kernel_rfl
theorem agg_of {P : Program} {w : World} {r : Reach} {base : Nat} {t : TypeId} {fs : Array Field} {v : Value} (ht : P.underlying t = some (.struct fs)) (h : Value.okWide P w r base t v) : ∃ cs, v = .agg cs := by
  simp only [Value.okWide, ht] at h
  obtain ⟨cs, e, _⟩ := h
  exact ⟨cs, e⟩
section
variable {H : Type} {enc : TypeId × Value → H} {W : World}
theorem opn_hold : Opn enc Try.prog W 46 fun ds => ∃ h : Hd, ds = hd1 h :=
  (Opn.struct Try.underlying46 ⟨_, _, rfl, (by kernel_rfl), Opn.str Try.underlying9, _, _, rfl, (by kernel_rfl), Opn.int Try.underlying3, _, _, rfl, (by kernel_rfl), opn_frac, rfl⟩ (by kernel_rfl)).mono fun ds h => by
    obtain ⟨d1, r1, rfl, ⟨s, rfl, _⟩, d2, r2, rfl, ⟨p, rfl, _⟩, d3, r3, rfl, ⟨a, b, rfl⟩, rfl⟩ := h
    exact ⟨⟨s, p, a, b⟩, rfl⟩
theorem opn_holds : Opn enc Try.prog W 37 fun ds => ∃ l : List Hd, ds = [hds l] :=
  (Opn.slice Try.underlying37 cellsHold (by decide) opn_hold).mono fun ds ⟨rows, e, h, _⟩ => by
    obtain ⟨l, e2⟩ := flats_of h
    exact ⟨l, by rw [e, e2]; rfl⟩
theorem opn_rope : Opn enc Try.prog W 39 fun ds => ∃ r : Rp, ds = rp1 r :=
  (Opn.struct Try.underlying39 ⟨_, _, rfl, (by kernel_rfl), Opn.str Try.underlying9, _, _, rfl, (by kernel_rfl), opn_holds, _, _, rfl, (by kernel_rfl), Opn.bool Try.underlying4, rfl⟩ (by kernel_rfl)).mono fun ds h => by
    obtain ⟨d1, r1, rfl, ⟨s, rfl, _⟩, d2, r2, rfl, ⟨l, rfl⟩, d3, r3, rfl, ⟨b, rfl⟩, rfl⟩ := h
    exact ⟨⟨s, l, b⟩, rfl⟩
theorem opn_ropes : Opn enc Try.prog W 23 fun ds => ∃ l : List Rp, ds = [rps l] :=
  (Opn.slice Try.underlying23 cellsRope (by decide) opn_rope).mono fun ds ⟨rows, e, h, _⟩ => by
    obtain ⟨l, e2⟩ := flats_of h
    exact ⟨l, by rw [e, e2]; rfl⟩
theorem opn_block : Opn enc Try.prog W 35 fun ds => ∃ b : Bk, ds = bk1 b :=
  (Opn.struct Try.underlying35 ⟨_, _, rfl, (by kernel_rfl), Opn.str Try.underlying9, _, _, rfl, (by kernel_rfl), Opn.int Try.underlying3, rfl⟩ (by kernel_rfl)).mono fun ds h => by
    obtain ⟨d1, r1, rfl, ⟨s, rfl, _⟩, d2, r2, rfl, ⟨p, rfl, _⟩, rfl⟩ := h
    exact ⟨⟨s, p⟩, rfl⟩
theorem opn_blocks : Opn enc Try.prog W 22 fun ds => ∃ l : List Bk, ds = [bks l] :=
  (Opn.slice Try.underlying22 cellsBlock (by decide) opn_block).mono fun ds ⟨rows, e, h, _⟩ => by
    obtain ⟨l, e2⟩ := flats_of h
    exact ⟨l, by rw [e, e2]; rfl⟩
theorem opn_sys : Opn enc Try.prog W 25 fun ds => ∃ s : Sy, ds = [bks s.bs, rps s.rs] :=
  (Opn.struct Try.underlying25 ⟨_, _, rfl, (by kernel_rfl), opn_blocks, _, _, rfl, (by kernel_rfl), opn_ropes, rfl⟩ (by kernel_rfl)).mono fun ds h => by
    obtain ⟨d1, r1, rfl, ⟨a, rfl⟩, d2, r2, rfl, ⟨b, rfl⟩, rfl⟩ := h
    exact ⟨⟨a, b⟩, rfl⟩
theorem arg_sys {v : Value} {base : Nat} {r : Reach} {d : DataW H} {p : List MemPlace} (h : DataW.Trod enc Try.prog W 0 (fun _ => true) true 25 v d p) (hv : Value.okWide Try.prog W r base 25 v) : ∃ s : Sy, Rep (memOf W) [] (syD s) v := by
  obtain ⟨cs, rfl⟩ : ∃ cs, v = .agg cs := by
    simp only [Value.okWide, Try.underlying25] at hv
    obtain ⟨cs, e, _⟩ := hv
    exact ⟨cs, e⟩
  obtain ⟨ds, hr, s, rfl⟩ := arg_agg opn_sys h
  exact ⟨s, hr⟩
theorem cellsSys : Try.prog.cellsOf 25 = 2 := by kernel_rfl
theorem arg_rope {v : Value} {base : Nat} {r : Reach} {d : DataW H} {p : List MemPlace} (h : DataW.Trod enc Try.prog W 0 (fun _ => true) true 39 v d p) (hv : Value.okWide Try.prog W r base 39 v) : ∃ s : Rp, Rep (memOf W) [] (.agg (rp1 s)) v := by
  obtain ⟨cs, rfl⟩ : ∃ cs, v = .agg cs := by
    simp only [Value.okWide, Try.underlying39] at hv
    obtain ⟨cs, e, _⟩ := hv
    exact ⟨cs, e⟩
  obtain ⟨ds, hr, s, rfl⟩ := arg_agg opn_rope h
  exact ⟨s, hr⟩
theorem arg_frac {v : Value} {base : Nat} {r : Reach} {d : DataW H} {p : List MemPlace} (h : DataW.Trod enc Try.prog W 0 (fun _ => true) true 42 v d p) (hv : Value.okWide Try.prog W r base 42 v) : ∃ s : Int × Int, Rep (memOf W) [] (frD s) v := by
  obtain ⟨cs, rfl⟩ : ∃ cs, v = .agg cs := by
    simp only [Value.okWide, Try.underlying42] at hv
    obtain ⟨cs, e, _⟩ := hv
    exact ⟨cs, e⟩
  obtain ⟨ds, hr, a, b, rfl⟩ := arg_agg opn_frac h
  exact ⟨(a, b), hr⟩
abbrev u16s (l : List Int) : D := .sl 1 (l.map fun n => .v (.int .u16 n)) false
theorem u16_of {x : Int} (h : (Lit.int .u16 x).wf = true) : 0 ≤ x ∧ x < 65536 := by
  rw [Lit.wf, Bool.and_eq_true] at h
  have h1 := of_decide_eq_true h.1
  have h2 := of_decide_eq_true h.2
  have e1 : IntKind.u16.min = 0 := rfl
  have e2 : IntKind.u16.max = 65535 := rfl
  rw [e1] at h1
  rw [e2] at h2
  exact ⟨h1, by omega⟩
theorem u16_rows : ∀ {rows : List (List D)}, (∀ r ∈ rows, (∃ n, r = [.v (.int .u16 n)] ∧ (Lit.int .u16 n).wf = true) ∧ r.length = 1) → ∃ l : List Int, rows.flatten = l.map (fun n => .v (.int .u16 n)) ∧ ∀ x ∈ l, (Lit.int .u16 x).wf = true
  | [], _ => ⟨[], rfl, by simp⟩
  | r :: rows, h => by
    obtain ⟨⟨n, rfl, hw⟩, _⟩ := h r (by simp)
    obtain ⟨l, e, hl⟩ := u16_rows fun x hx => h x (List.mem_cons_of_mem _ hx)
    exact ⟨n :: l, by simp [e], fun x hx => by
      rcases List.mem_cons.1 hx with rfl | hx
      · exact hw
      · exact hl x hx⟩
theorem cellsU16 : Try.prog.cellsOf 48 = 1 := by kernel_rfl
theorem u64_of {x : Int} (h : (Lit.int .u64 x).wf = true) : 0 ≤ x ∧ x ≤ 18446744073709551615 := by
  rw [Lit.wf, Bool.and_eq_true] at h
  have h1 := of_decide_eq_true h.1
  have h2 := of_decide_eq_true h.2
  have e1 : IntKind.u64.min = 0 := rfl
  have e2 : IntKind.u64.max = 18446744073709551615 := rfl
  rw [e1] at h1
  rw [e2] at h2
  exact ⟨h1, h2⟩
end
end Go.Proofs.Ytpcakodemleoiaa.T
end

/- The signs of the head's word (printed by mkmake.py): the kernel need not take a long string apart. -/
namespace Go.Proofs.Ytpcakodemleoiaa.T
open Go Go.RowKit Go.Joins
def wordSigns0 : List Char := [104,97,114,110,101,115,115,32,49,99,102,48,49,100,102,56,52,53,100,49,50,48,53,102,100,50,101,50,48,97,52,100,51,49,97,50,51,56,97,97,57,55,56,50,52,50,52,57,56,55,101,51,53,54,48,53,51,57,98,52,48,55,98,48].map Char.ofNat
def wordSigns1 : List Char := [100,53,52,50,51,54,48,99,32,99,117,116,32,97,116,32,108,111,102,116,98,108,111,99,107,47,108,111,102,116,98,108,111,99,107,108,97,119,49,49,46,83,116,97,116,105,99,115,84,117,114,110,115,32,108,111,102,116,98,108,111,99,107,47].map Char.ofNat
def wordSigns2 : List Char := [108,111,102,116,98,108,111,99,107,108,97,119,49,51,46,65,100,118,97,110,116,97,103,101,79,119,110,32,108,111,102,116,98,108,111,99,107,47,108,111,102,116,98,108,111,99,107,108,97,119,49,52,46,76,111,115,115,101,115,84,119,105,99,101].map Char.ofNat
def wordSigns3 : List Char := [32,108,111,102,116,98,108,111,99,107,47,108,111,102,116,98,108,111,99,107,108,97,119,49,52,46,76,111,115,115,101,115,65,108,111,110,103].map Char.ofNat
def wordSigns : List Char := wordSigns0 ++ wordSigns1 ++ wordSigns2 ++ wordSigns3
theorem word_is : Try.prog.initOrder.toList = wordSigns := by
  have h : Try.prog.initOrder = String.ofList wordSigns := by kernel_rfl
  rw [h, String.toList_ofList]
theorem word_cut : behindMainWord (wordsSigns wordSigns) = "cut".toList :: (behindMainWord (wordsSigns wordSigns)).tail := by kernel_rfl
theorem make_of (P : Program) (l : List Char) (h : P.initOrder.toList = l) (r : List (List Char)) (hr : behindMainWord (wordsSigns l) = "cut".toList :: r) : P.make = some .cut := by
  unfold Program.make
  rw [h, hr]
  rfl
theorem enter_of (P : Program) (l : List Char) (h : P.initOrder.toList = l) (r : List (List Char)) (hr : behindMainWord (wordsSigns l) = "cut".toList :: r) (h1 : P.laysLater = false) (h2 : P.bearsReflect = false) (h3 : P.doorFits [] = true) (hs : stripLifts liftWords ("cut".toList :: r) = ([], "cut".toList :: r)) : P.mayEnter = true := by
  unfold Program.mayEnter
  rw [h, hr]
  simp only [hs, h1, h2, h3]
  rfl
theorem word_make : Try.prog.make = some .cut := make_of _ wordSigns word_is _ word_cut
theorem word_enter : Try.prog.mayEnter = true := enter_of _ wordSigns word_is _ word_cut (by kernel_rfl) (by kernel_rfl) (by kernel_rfl) (by kernel_rfl)
theorem word_lifts : Try.prog.liftsFinal = false := by
  unfold Program.liftsFinal Program.headLifts
  rw [word_is]
  kernel_rfl
theorem word_enterP : Try.pinned.checked.prog.mayEnter = true := word_enter
theorem word_liftsP : Try.pinned.checked.prog.liftsFinal = false := word_lifts
theorem word_makeP : Try.pinned.checked.prog.make = some .cut := word_make
end Go.Proofs.Ytpcakodemleoiaa.T

