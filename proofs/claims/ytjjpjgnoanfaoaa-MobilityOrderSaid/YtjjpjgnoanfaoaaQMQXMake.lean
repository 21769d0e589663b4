import Derived.Test.YtjjpjgnoanfaoaaQMQA
import Derived.Test.YtjjpjgnoanfaoaaWN
import Derived.Test.YtjjpjgnoanfaoaaQLHF
import Derived.Test.YtjjpjgnoanfaoaaWRS
import Derived.Test.YtjjpjgnoanfaoaaQVS
import Derived.Test.YtjjpjgnoanfaoaaQVT
import Derived.Test.YtjjpjgnoanfaoaaQCPY
import Derived.Test.YtjjpjgnoanfaoaaTJ
import Derived.Test.YtjjpjgnoanfaoaaWA
import Derived.Test.YtjjpjgnoanfaoaaWJK
import Derived.Test.YtjjpjgnoanfaoaaSG
import Derived.Test.YtjjpjgnoanfaoaaRows
import Derived.Lib.SmallJoins
import Derived.ProofKit
set_option linter.all false
section
section
namespace Go.Proofs.Ytjjpjgnoanfaoaa.T
open Go Go.RowKit Lin
theorem gdza5_MQX {C1 C2 C3 C4 C5 P Q : Prop} (c1 : C1) (c2 : C2) (c3 : C3) (c4 : C4) (c5 : C5) (q : Q) (h : C1 → C2 → C3 → C4 → C5 → Q → P := by
  intro cc1 cc2 cc3 cc4 cc5 hq
  (try with_reducible intro KR hKR)
  (repeat refine AW_seq ?_); (repeat refine AW_seq ?_); (refine AW_drawn_k tab_ok follows_mixed 0 fun KR hKR => ?_); simp only [List.replicate_succ, List.replicate_zero, List.append_nil, List.nil_append, List.cons_append, List.length_cons, List.length_nil, Nat.reduceAdd]; (repeat' ((first | refine awD_n rfl fun KK hKK => ?_ | refine awD_g rfl rfl fun KK hKK => ?_ | refine awD_gc rfl fun KK hKK => ?_ | refine awD_nc fun KK hKK => ?_); simp (disch := omega) only [bb, bt, zDs, zD, eqCells, simprocAttr, bne_self_eq_false, Int.reduceBNe, Int.reduceBEq, Bool.bne_false, Bool.bne_true, Bool.false_bne, Bool.true_bne, goCDS, callDS_fn, argsZ, argsD, ufa, uf]; (try ((first | with_reducible refine PGive.ret (cc1) ?_ | with_reducible refine PGive.ret (cc2) ?_ | with_reducible refine PGive.ret (cc3) ?_ | with_reducible refine PGive.ret (cc4) ?_ | with_reducible refine PGive.ret (cc5) ?_); simp (disch := omega) only [bb, bt, zDs, zD, eqCells, simprocAttr, afterDS, bne_self_eq_false, Int.reduceBNe, Int.reduceBEq, Bool.bne_false, Bool.bne_true, Bool.false_bne, Bool.true_bne])); refine hKK _ _ _ ?_; clear hKK KK)); (refine awD_nil ?_); simp only [List.reverse_cons, List.reverse_nil, List.nil_append, List.cons_append]; (refine hKR _ _ (by first | rfl | kernel_rfl) ?_); (try clear hKR KR); (repeat (with_reducible first | refine q1 ?_ | refine q2 ?_ | refine q3 ?_ | refine q4 ?_ | refine q5 ?_ | refine q6 ?_ | (refine q7 ?_ ?_; (focus (with_unfolding_all rfl)))))
  (first | exact hq | (revert hKR; revert KR; exact hq))) : P := h c1 c2 c3 c4 c5 q
theorem gdzb3_MQX {F C1 C2 C3 P Q : Prop} (f : F) (c1 : C1) (c2 : C2) (c3 : C3) (q : Q) (h : F → C1 → C2 → C3 → Q → P := by
  intro ff cc1 cc2 cc3 hq
  (try with_reducible intro KR hKR)
  (repeat refine AW_seq ?_); (repeat refine AW_seq ?_); (refine AW_drawn_k tab_ok follows_mixed 0 fun KR hKR => ?_); simp only [List.replicate_succ, List.replicate_zero, List.append_nil, List.nil_append, List.cons_append, List.length_cons, List.length_nil, Nat.reduceAdd]; (repeat' ((first | refine awD_n rfl fun KK hKK => ?_ | refine awD_g rfl rfl fun KK hKK => ?_ | refine awD_gc rfl fun KK hKK => ?_ | refine awD_nc fun KK hKK => ?_); simp (disch := omega) only [bb, bt, zDs, zD, eqCells, simprocAttr, ff, bne_self_eq_false, Int.reduceBNe, Int.reduceBEq, Bool.bne_false, Bool.bne_true, Bool.false_bne, Bool.true_bne, goCDS, callDS_fn, argsZ, argsD, ufa, uf]; (try ((first | with_reducible refine PGive.ret (cc1) ?_ | with_reducible refine PGive.ret (cc2) ?_ | with_reducible refine PGive.ret (cc3) ?_); simp (disch := omega) only [bb, bt, zDs, zD, eqCells, simprocAttr, afterDS, ff, bne_self_eq_false, Int.reduceBNe, Int.reduceBEq, Bool.bne_false, Bool.bne_true, Bool.false_bne, Bool.true_bne])); refine hKK _ _ _ ?_; clear hKK KK)); (refine awD_nil ?_); simp only [List.reverse_cons, List.reverse_nil, List.nil_append, List.cons_append]; (refine hKR _ _ (by first | rfl | kernel_rfl) ?_); (try clear hKR KR); (repeat (with_reducible first | refine q1 ?_ | refine q2 ?_ | refine q3 ?_ | refine q4 ?_ | refine q5 ?_ | refine q6 ?_ | (refine q7 ?_ ?_; (focus (with_unfolding_all rfl)))))
  (first | exact hq | (revert hKR; revert KR; exact hq))) : P := h f c1 c2 c3 q
theorem gga6_MQX {C1 C2 C3 C4 C5 C6 P Q : Prop} (c1 : C1) (c2 : C2) (c3 : C3) (c4 : C4) (c5 : C5) (c6 : C6) (q : Q) (h : C1 → C2 → C3 → C4 → C5 → C6 → Q → P := by
  intro cc1 cc2 cc3 cc4 cc5 cc6 hq
  (try with_reducible intro KR hKR)
  (repeat' (first | (with_reducible refine AW_seq ?_) | (with_reducible refine AW_region_k tab_ok fun KR hKR => ?_) | ((first | with_reducible refine AW_skip ?_ | with_reducible refine AW_exit ?_ | ((with_reducible refine awOps_nil ?_); refine hKR _ ?_; (try clear hKR KR))); (repeat (with_reducible first | refine q1 ?_ | refine q2 ?_ | refine q3 ?_ | refine q4 ?_ | refine q5 ?_ | refine q6 ?_ | (refine q7 ?_ ?_; (focus (with_unfolding_all rfl)))))) | ((first | ((with_reducible refine at_ops ?_); (first | refine awOps_n rfl fun KK hKK => ?_ | refine awOps_g rfl rfl fun KK hKK => ?_ | refine awOps_gc rfl fun KK hKK => ?_ | refine awOps_nc fun KK hKK => ?_)) | with_reducible refine AW_cond_k (tab := tab) fun KK hKK => ?_); simp (disch := omega) only [bb, bt, zDs, zD, eqCells, simprocAttr, bne_self_eq_false, Int.reduceBNe, Int.reduceBEq, Bool.bne_false, Bool.bne_true, Bool.false_bne, Bool.true_bne, goC, callO_fn, argsD, and_self]; (try ((first | (with_reducible refine ACall.of_pret (cc1) ?_ ?_; (focus (first | (simp only [um]; done) | rfl))) | (with_reducible refine ACall.of_pret (cc2) ?_ ?_; (focus (first | (simp only [um]; done) | rfl))) | (with_reducible refine ACall.of_pret (cc3) ?_ ?_; (focus (first | (simp only [um]; done) | rfl))) | (with_reducible refine ACall.of_pret (cc4) ?_ ?_; (focus (first | (simp only [um]; done) | rfl))) | (with_reducible refine ACall.of_pret (cc5) ?_ ?_; (focus (first | (simp only [um]; done) | rfl))) | (with_reducible refine ACall.of_pret (cc6) ?_ ?_; (focus (first | (simp only [um]; done) | rfl)))); simp only [afterC, St.put, putTM, ↓reduceIte, Nat.reduceEqDiff])); refine hKK _ ?_; clear hKK KK; (first | with_reducible refine at_ops ?_ | with_reducible refine i1 ?_ | with_reducible refine i0 ?_))))
  (first | exact hq | (revert hKR; revert KR; exact hq))) : P := h c1 c2 c3 c4 c5 c6 q
set_option linter.unusedSimpArgs false

/-! Chapter 16: find, without, modes, freedom, jammed. -/
def findM (s : Sy) (nm : ByteArray) : Int × Int := if validS s = true then (if findR s.rs nm < 0 then (0, 9) else (findR s.rs nm, 0)) else (0, 1)
theorem findM1 (r : Rp) (nm : ByteArray) : PRet Try.prog 182 [.agg (rp1 r), .rp [str nm] 0] (bool (decide (r.nm = nm))) := by
  refine PRet.intro 1 fun t => ACall.enter tab_ok Try.func182 rfl rfl Try.ntmps182 (by simp) ?_
  simp only [enterTM]
  ((refine gga0 ?_))
  ((repeat refine AW_seq ?_); (refine wta ?_); simp (disch := omega) only [retQ, resD, oneD, rsv, rs, rsL, rsL_eq_map, List.map_map, bb, bt, zDs, zD, eqCells, simprocAttr, Try.results182])
theorem find_mob (s : Sy) (hf : Fits s) (nm : ByteArray) : PRet Try.prog 150 [syD s, str nm] (.tup [int (findM s nm).1, int (findM s nm).2]) := by
  refine PRet.intro 1 fun t => ACall.enter tab_ok Try.func150 rfl rfl Try.ntmps150 (by simp) ?_
  simp only [enterTM]
  have hV := valid_prog s hf
  have hnr := hf.nr
  have hdr := rpC_div s.rs
  ((refine wqa ?_))
  ((refine AW.freeze (1) (by first | rfl | (simp only [setH, List.getElem?_cons_zero, List.getElem?_cons_succ, fz_bk, fz_rp]; done)) ?_); simp (disch := omega) only [fzT, fz, fzL, fzL_ints, fzL_mat, fzH, fzB, eq_self, bb, bt, zDs, zD, eqCells, simprocAttr, fz_bk, fz_rp])
  have hI := indexFuncRp s.rs 182 [.rp [str nm] 0] (fun b => decide (b.nm = nm)) hnr (fun x _ => findM1 x nm)
  have eI : idx (fun b : Rp => decide (b.nm = nm)) s.rs 0 = findR s.rs nm := rfl
  rw [eI] at hI
  cases hv : validS s
  · rw [hv] at hV
    have e : findM s nm = (0, 1) := by simp [findM, hv]
    ((refine gga1 hV ?_))
    ((repeat refine AW_seq ?_); (refine wta ?_); simp (disch := omega) only [retQ, resD, oneD, rsv, rs, rsL, rsL_eq_map, List.map_map, bb, bt, zDs, zD, eqCells, simprocAttr, Try.results150, e])
  rw [hv] at hV
  by_cases hb : findR s.rs nm < 0
  · have e : findM s nm = (0, 9) := by simp [findM, hv, hb]
    ((refine ggb2 hb hV hI ?_))
    ((repeat refine AW_seq ?_); (refine wta ?_); simp (disch := omega) only [retQ, resD, oneD, rsv, rs, rsL, rsL_eq_map, List.map_map, bb, bt, zDs, zD, eqCells, simprocAttr, Try.results150, e])
  have e : findM s nm = (findR s.rs nm, 0) := by simp [findM, hv, hb]
  ((refine ggb2 hb hV hI ?_))
  ((repeat refine AW_seq ?_); (refine wta ?_); simp (disch := omega) only [retQ, resD, oneD, rsv, rs, rsL, rsL_eq_map, List.map_map, bb, bt, zDs, zD, eqCells, simprocAttr, Try.results150, e])
theorem without_call (l : List Int) (m : List (List Int)) (k : Nat) (hk : k < m.length) (hm : m.length ≤ 1000) (t : Nat) : ACall Try.prog 107 [.agg [ints l, mat m], int k] [] t (fun d H' _ => ∃ b g, d = .own 1 b g 0 (m.length - 1) ∧ H'[b]? = some (some ⟨81, g, (m.eraseIdx k).map ints⟩)) := by
  refine ACall.enter tab_ok Try.func107 rfl rfl Try.ntmps107 (by simp) ?_
  simp only [enterTM]
  have hC := cloneRows m (by omega)
  ((refine wqa ?_))
  ((repeat refine AW_seq ?_); (refine AW_region_k tab_ok fun KR hKR => ?_)); ((refine wra ?_))
  ((first | refine awOps_nc fun KK hKK => ?_ | refine awOps_gc rfl fun KK hKK => ?_); simp (disch := omega) only [bb, bt, zDs, zD, eqCells, simprocAttr, goC, callO_fn, argsD, and_self]; refine ACall.of_fresh (hC) (by first | (simp only [List.map_cons, List.map_nil, List.append_nil, List.nil_append, List.cons_append, ufa, uf]; done) | rfl) ?_; simp (disch := omega) only [bb, bt, zDs, zD, eqCells, simprocAttr, afterC]; refine hKK _ ?_; clear hKK KK)
  ((refine wra ?_))
  ((try with_reducible intro KR hKR); (first | refine awOps_nc fun KK hKK => ?_ | refine awOps_gc rfl fun KK hKK => ?_); simp (disch := omega) only [bb, bt, zDs, zD, eqCells, simprocAttr, goC, callO_fn, argsD, and_self])
  refine delete_mat (bl := ⟨81, t + 1 + 1, m.map ints⟩) (l := m) rfl rfl rfl hk ?_
  (simp (disch := omega) only [bb, bt, zDs, zD, eqCells, simprocAttr, afterC]; refine hKK _ ?_; clear hKK KK)
  ((refine wra ?_)); ((refine wea ?_); (try clear hKR KR))
  ((repeat refine AW_seq ?_); (refine wta ?_); simp (disch := omega) only [retQ, resD, oneD, bb, bt, zDs, zD, eqCells, simprocAttr, Try.results107])
  exact ⟨1, t + 1 + 1 + 1, rfl, rfl⟩
theorem without_fresh (l : List Int) (m : List (List Int)) (k : Nat) (hk : k < m.length) (hm : m.length ≤ 1000) : PFresh Try.prog 107 [.agg [ints l, mat m], int k] 81 1 (m.length - 1) ((m.eraseIdx k).map ints) :=
  PFresh.intro (plainL_rows _) fun t => (without_call l m k hk hm t).mono fun _ _ _ h => .inr h
theorem without_ret (l : List Int) (m : List (List Int)) (k : Nat) (hk : k < m.length) (hm : m.length ≤ 1000) : PRet Try.prog 107 [.agg [ints l, mat m], int k] (mat (m.eraseIdx k)) := by
  refine PRet.intro 2 fun t => (without_call l m k hk hm t).mono ?_
  rintro d H' t' ⟨b, g, rfl, hb⟩
  have hl : (m.eraseIdx k).length = m.length - 1 := List.length_eraseIdx_of_lt hk
  simp only [rsv, rs, hb, if_true]
  have hfin : List.take (m.length - 1) ((m.eraseIdx k).map ints) = (m.eraseIdx k).map ints := List.take_of_length_le (by simp [hl])
  have ht : rsL (fun _ => D.any) H' ((m.eraseIdx k).map ints) = (m.eraseIdx k).map ints := rsL_tidy _ _ _ (tidyL_all fun d hd => by
    obtain ⟨x, _, rfl⟩ := List.mem_map.1 hd
    simp only [tidyD, tidy_ints, Bool.not_false, Bool.and_self])
  rw [rsL_eq_map] at ht
  simp [hfin, hl]
  intro a ha
  exact rs_tidy _ _ _ (by simp only [tidyD, tidy_ints, Bool.not_false, Bool.and_self])
/-! Lists of modes. -/
def unfr : List D → List (Int × Int)
  | .v (.int _ n) :: .v (.int _ d) :: r => (n, d) :: unfr r
  | _ => []
theorem unfr_frC : ∀ l : List (Int × Int), unfr (frC l) = l
  | [] => rfl
  | (n, d) :: l => by
    show (n, d) :: unfr (frC l) = _
    rw [unfr_frC l]
def D.frl : D → List (Int × Int)
  | .sl _ c _ => unfr c
  | _ => []
theorem any_frss (q : List (Int × Int) → Bool) (l : List (List (Int × Int))) : ((l.map frs).any fun d => q d.frl) = l.any q := by
  induction l with
  | nil => rfl
  | cons x r ih => rw [List.map_cons, List.any_cons, List.any_cons, ih]; simp only [D.frl, unfr_frC]
set_option maxHeartbeats 800000 in
theorem indexFuncFrss (l : List D) (g : FuncId) (caps : List D) (p : D → Bool) (hl : l.length ≤ 1000000) (hp : ∀ x ∈ l, PRet Try.prog g ((x :: caps).map ufa) (bool (p x))) : PRet Try.prog 157 [.sl 1 l false, .fn g caps] (int (idx p l 0)) := by
  refine PRet.intro 1 fun t => ACall.enter tab_ok Try.func157 rfl rfl Try.ntmps157 (by simp) ?_
  simp only [enterTM]
  ((refine wqa ?_))
  ((refine wqb @Nat.lt_one_iff ?_))
  refine AW_block ?_
  refine AW_loop_w (fun k : Nat => ⟨[(0, .sl 1 l false), (1, .fn g caps), (7, int l.length), (8, int k)], [], t⟩) (fun k => l.length - k) (fun k => k ≤ l.length ∧ idx p l 0 = idx p (l.drop k) k) 0 ⟨Nat.zero_le _, rfl⟩ (by (simp (disch := omega) only [StLe, tmLe, hpLe_refl, hpLe, bl, bb, bt, zDs, zD, eqCells, simprocAttr])) fun k ⟨hk, hi⟩ => ?_
  by_cases hlt : k < l.length
  · obtain ⟨x, hx⟩ : ∃ x, l[k]? = some x := ⟨_, List.getElem?_eq_getElem hlt⟩
    have hm := List.mem_of_getElem? hx
    have hd : l.drop k = x :: l.drop (k + 1) := by
      obtain ⟨h1, h2⟩ := List.getElem?_eq_some_iff.1 hx
      rw [List.drop_eq_getElem_cons h1, h2]
    rw [hd] at hi
    ((refine wqb (F := _∧_) ⟨@Int.ofNat_lt, hlt⟩ ?_))
    ((refine wia ?_))
    ((refine wsa ?_))
    ((repeat refine AW_seq ?_))
    refine AW_block ?_
    ((refine wqa ?_))
    ((repeat refine AW_seq ?_); (refine AW_region_k tab_ok fun KR hKR => ?_)); ((refine wrb (F := _∧_) ⟨hlt, hx⟩ ?_))
    ((refine wka1 (hp x hm) ?_))
    ((refine wea ?_); (try clear hKR KR))
    cases hpx : p x
    · ((refine wib hpx ?_))
      ((refine wsa ?_))
      ((refine wqa ?_))
      refine ⟨k + 1, ⟨hlt, by rw [hi]; simp [idx, hpx]⟩, by omega, ?_⟩
      (simp (disch := omega) only [StLe, tmLe, hpLe_refl, hpLe, bl, bb, bt, zDs, zD, eqCells, simprocAttr])
    · ((refine wib hpx ?_))
      ((refine wqa ?_))
      ((repeat refine AW_seq ?_); (refine wta ?_); simp (disch := omega) only [retQ, resD, oneD, rsv, rs, rsL, rsL_eq_map, List.map_map, bb, bt, zDs, zD, eqCells, simprocAttr, Try.results157, hi, idx, hpx])
  · ((refine wqb (F := _∧_) ⟨@Int.ofNat_lt, hlt⟩ ?_))
    ((refine wia ?_))
    ((refine wxa ?_))
    ((refine wqa ?_))
    ((repeat refine AW_seq ?_); (refine wta ?_); simp (disch := omega) only [retQ, resD, oneD, rsv, rs, rsL, rsL_eq_map, List.map_map, bb, bt, zDs, zD, eqCells, simprocAttr, Try.results157, hi])
    rw [List.drop_eq_nil_of_le (by omega)]; rfl
theorem containsFuncFrss (l : List D) (g : FuncId) (caps : List D) (p : D → Bool) (hl : l.length ≤ 1000000) (hp : ∀ x ∈ l, PRet Try.prog g ((x :: caps).map ufa) (bool (p x))) : PRet Try.prog 103 [.sl 1 l false, .fn g caps] (bool (l.any p)) := by
  refine PRet.intro 1 fun t => ACall.enter tab_ok Try.func103 rfl rfl Try.ntmps103 (by simp) ?_
  simp only [enterTM]
  ((refine wqa ?_))
  ((repeat refine AW_seq ?_); (refine AW_region_k tab_ok fun KR hKR => ?_)); ((refine wra ?_))
  ((refine wka1 (indexFuncFrss l g caps p hl hp) ?_))
  ((refine wra ?_)); ((refine wea ?_); (try clear hKR KR))
  ((repeat refine AW_seq ?_); (refine wta ?_); simp (disch := omega) only [retQ, resD, oneD, rsv, rs, rsL, rsL_eq_map, List.map_map, bb, bt, zDs, zD, eqCells, simprocAttr, Try.results103])
  rw [← idx_any p l 0]
theorem frC_get : ∀ (l : List (Int × Int)) (i : Nat) (p : Int × Int), l[i]? = some p → (frC l)[i * 2]? = some (int p.1)
  | [], i, p, h => by simp at h
  | x :: l, 0, p, h => by
    simp at h; subst h; rfl
  | x :: l, i + 1, p, h => by
    have := frC_get l i p (by simpa using h)
    show (int x.1 :: int x.2 :: frC l)[(i + 1) * 2]? = _
    rw [show (i + 1) * 2 = i * 2 + 1 + 1 by omega, List.getElem?_cons_succ, List.getElem?_cons_succ]
    exact this
theorem frC_one {l : List (Int × Int)} {i : Nat} {p : Int × Int} (h : l[i]? = some p) : ((frC l).drop (i * 2)).take 1 = [int p.1] := by
  have := frC_get l i p h
  obtain ⟨h1, h2⟩ := List.getElem?_eq_some_iff.1 this
  rw [List.drop_eq_getElem_cons h1, h2]
  rfl
def movB (k : Nat) (v : List (Int × Int)) : Bool := (v.getD k (0, 0)).1 != 0
theorem jammed1 (v : List (Int × Int)) (k : Nat) (hk : k < v.length) : PRet Try.prog 104 [frs v, .rp [int k] 0] (bool (movB k v)) := by
  refine PRet.intro 1 fun t => ACall.enter tab_ok Try.func104 rfl rfl Try.ntmps104 (by simp) ?_
  simp only [enterTM]
  obtain ⟨f, hf⟩ : ∃ y, v[k]? = some y := ⟨_, List.getElem?_eq_getElem hk⟩
  have hra := frC_get v k f hf
  have hrb := frC_one hf
  have hd := frC_div v
  have e : movB k v = (f.1 != 0) := by unfold movB; rw [List.getD_eq_getElem?_getD, hf]; rfl
  rw [e]
  ((refine ggb0 (F := _∧_∧_∧_) ⟨hk, hd, hra, hrb⟩ ?_))
  ((repeat refine AW_seq ?_); (refine wta ?_); simp (disch := omega) only [retQ, resD, oneD, rsv, rs, rsL, rsL_eq_map, List.map_map, bb, bt, zDs, zD, eqCells, simprocAttr, Try.results104])
theorem movesC (L : List (List (Int × Int))) (k : Nat) (hL : L.length ≤ 1000000) (hk : ∀ v ∈ L, k < v.length) : PRet Try.prog 103 [frss L, .fn 104 [.rp [int k] 0]] (bool (L.any (movB k))) := by
  have hc := containsFuncFrss (L.map frs) 104 [.rp [int k] 0] (fun d => movB k d.frl) (by simpa using hL) (fun x hx => by
    obtain ⟨v, hv, rfl⟩ := List.mem_map.1 hx
    simp only [D.frl, unfr_frC]
    exact jammed1 v k (hk v hv))
  rwa [any_frss (movB k)] at hc
/-! Modes. -/
def unitR (n i : Nat) : List (Int × Int) := (List.range n).map fun k => (if k = i then 1 else 0, 1)
def unitM (n : Nat) : List (List (Int × Int)) := (List.range n).map (unitR n)
def modesP (s : Sy) : List (List (Int × Int)) × Int := if validS s = true then (if fixA s = [] then (unitM s.bs.length, 0) else nullP (rowsF s (fixA s))) else ([], 1)
theorem fixP_lt {rs : List Rp} {but : Int} {k i : Nat} (h : i ∈ fixP rs but k) : i < k := (fixP_mem.1 h).1
theorem rowsF_valid {s : Sy} (ok : OkS s) {L : List Nat} (h0 : L ≠ []) (h1 : L.length ≤ 6) (h2 : ∀ i ∈ L, i < s.rs.length) : validP (rowsF s L) = true ∧ wid (rowsF s L) = s.bs.length ∧ ∀ r ∈ rowsF s L, r ∈ trS s ∧ r.length = s.bs.length := by
  obtain ⟨tv, tw⟩ := ok.tr_valid
  obtain ⟨m1, m2, m3⟩ := validP_iff.1 tv
  have hm : ∀ r ∈ rowsF s L, r ∈ trS s ∧ r.length = s.bs.length := fun r hr => by
    unfold rowsF at hr
    obtain ⟨i, hi, rfl⟩ := List.mem_map.1 hr
    have hlt : i < (trS s).length := by rw [ok.tr_len]; exact h2 i hi
    have e : (trS s).getD i [] = (trS s)[i] := by rw [List.getD_eq_getElem?_getD, List.getElem?_eq_getElem hlt]; rfl
    rw [e]
    exact ⟨List.getElem_mem _, by rw [(m3 _ (List.getElem_mem _)).1, tw]⟩
  have hw : wid (rowsF s L) = s.bs.length := by
    cases hL : L with
    | nil => exact absurd hL h0
    | cons i L' =>
      have := (hm ((trS s).getD i []) (by rw [hL]; simp [rowsF])).2
      rw [← this]
      rfl
  refine ⟨validP_iff.2 ⟨⟨?_, ?_⟩, ?_, fun r hr => ⟨?_, ?_⟩⟩, hw, hm⟩
  · rw [rowsF_len]
    exact List.length_pos_iff.2 h0
  · rw [rowsF_len]
    exact h1
  · rw [hw, ← tw]
    exact m2
  · rw [hw]
    exact (hm r hr).2
  · exact (m3 r (hm r hr).1).2
end Go.Proofs.Ytjjpjgnoanfaoaa.T
end

section
namespace Go.Proofs.Ytjjpjgnoanfaoaa.T
open Go Go.RowKit Lin
set_option linter.unusedSimpArgs false

/-! Chapter 16: modes, freedom, jammed. -/
def unitC (k j : Nat) : List (Int × Int) := (List.range j).map fun i => (if i = k then 1 else 0, 1)
theorem unitC_succ (k j : Nat) : unitC k (j + 1) = unitC k j ++ [(if j = k then 1 else 0, 1)] := by simp [unitC, List.range_succ]
theorem unitC_len (k j : Nat) : (unitC k j).length = j := by simp [unitC]
def unitL (n k : Nat) : List (List (Int × Int)) := (List.range k).map (unitR n)
theorem unitL_succ (n k : Nat) : unitL n (k + 1) = unitL n k ++ [unitC k n] := by simp [unitL, List.range_succ, unitR, unitC]
theorem unitL_len (n k : Nat) : (unitL n k).length = k := by simp [unitL]
theorem frC_push (l : List (Int × Int)) (x : Int × Int) : frC (l ++ [x]) = frC l ++ [int x.1, int x.2] := by simp [frC]
theorem fzS_fr (b g : Nat) (cs : List D) : ∀ l : List (Int × Int), fzL b g cs (frC l) = frC l
  | [] => rfl
  | x :: l => by
    show fzL b g cs (int x.1 :: int x.2 :: frC l) = _
    simp only [fzL, fz, fzS_fr b g cs l]
    rfl
theorem fzS_frss (b g : Nat) (cs : List D) : ∀ l : List (List (Int × Int)), fzL b g cs (l.map frs) = l.map frs
  | [] => rfl
  | x :: l => by simp only [List.map_cons, fzL, fz, fzS_fr, fzS_frss b g cs l]
abbrev nilF : D := .sl 2 [] true
theorem nilsF (n : Nat) : (List.replicate n [nilF]).flatten = List.replicate n nilF := by simp
theorem colF_push {cells : List D} {n k : Nat} (hc : cells.length = k) (hk : k < n) (c d : D) : (cells ++ c :: List.replicate (n - (k + 1)) nilF).set k d = cells ++ d :: List.replicate (n - (k + 1)) nilF := by
  rw [List.set_append_right _ _ (by omega), hc, Nat.sub_self, List.set_cons_zero]
theorem colF_get {cells : List D} {n k : Nat} (hc : cells.length = k) (c : D) : (cells ++ c :: List.replicate (n - (k + 1)) nilF)[k]? = some c := by
  rw [List.getElem?_append_right (by omega), hc, Nat.sub_self, List.getElem?_cons_zero]
theorem colF_nil {cells : List D} {n k : Nat} (hk : k < n) : cells ++ List.replicate (n - k) nilF = cells ++ nilF :: List.replicate (n - (k + 1)) nilF := by
  rw [show n - k = (n - (k + 1)) + 1 by omega, List.replicate_succ]
theorem fz_nilsF (b g : Nat) (cs : List D) : ∀ k, fzL b g cs (List.replicate k nilF) = List.replicate k nilF
  | 0 => rfl
  | k + 1 => by simp only [List.replicate_succ, fzL, fz, fz_nilsF b g cs k]
set_option maxHeartbeats 4000000 in
theorem modes_prog (s : Sy) (hf : Fits s) : PRet Try.prog 97 [syD s] (.tup [frss (modesP s).1, int (modesP s).2]) := by
  refine PRet.intro 1 fun t => ACall.enter tab_ok Try.func97 rfl rfl Try.ntmps97 (by simp) ?_
  simp only [enterTM]
  have hO := of_prog s hf
  have hdb := bkC_div s.bs
  cases hv : validS s
  · rw [hv] at hO
    simp only [Bool.false_eq_true, if_false] at hO
    have e : modesP s = ([], 1) := by simp [modesP, hv]
    ((refine gga1 hO ?_))
    ((repeat refine AW_seq ?_); (refine wta ?_); simp (disch := omega) only [retQ, resD, oneD, rsv, rs, rsL, rsL_eq_map, List.map_map, bb, bt, zDs, zD, eqCells, simprocAttr, Try.results97, e])
    rfl
  rw [hv] at hO
  simp only [if_true] at hO
  have ok := validS_ok hv
  have hb6 := ok.b6
  have hr6 := ok.r6
  by_cases h0 : fixA s = []
  rotate_left 1
  · have hfl := fixP_len s.rs (-1) s.rs.length
    obtain ⟨rv, rw', rm⟩ := rowsF_valid ok h0 (by unfold fixA; omega) (fun i hi => fixP_lt hi)
    have hN := null (rowsF s (fixA s)) (by rw [rowsF_len]; unfold fixA; omega) (fun r hr => by rw [(rm r hr).2]; omega)
    have e : modesP s = nullP (rowsF s (fixA s)) := by simp [modesP, hv, h0]
    have hp : (0 : Int) < ((rowsF s (fixA s)).length : Int) := by
      rw [rowsF_len]
      have := List.length_pos_iff.2 h0
      omega
    rw [e]
    generalize nullP (rowsF s (fixA s)) = Y at *
    ((refine ggb2 hp hO hN ?_))
    ((repeat refine AW_seq ?_); (refine wta ?_); simp (disch := omega) only [retQ, resD, oneD, bb, bt, zDs, zD, eqCells, simprocAttr, Try.results97])
    exact rsv_tidy _ _ (by simp only [tidyD, tidyL, tidy_frss, Bool.not_false, Bool.and_self])
  have e : modesP s = (unitM s.bs.length, 0) := by simp [modesP, hv, h0]
  rw [h0] at hO
  have e1 : nums [] = [] := rfl
  have e2 : rowsF s [] = [] := rfl
  rw [e1, e2] at hO
  rw [e]
  have eM : unitM s.bs.length = unitL s.bs.length s.bs.length := rfl
  simp only [eM]
  generalize hn : s.bs.length = n at *
  ((refine ggb1 hdb hO ?_))
  rw [nilsF]
  ((repeat refine AW_seq ?_))
  refine AW_mid (fun x : Nat => ⟨[(6, .own 1 2 (t + 1 + 1 + 1) 0 n)], [none, none, some ⟨51, t + 1 + 1 + 1, (unitL n n).map frs⟩], x⟩) (fun _ => True) ?_ ?_
  · refine AW_block ?_
    refine AW_loop_w (fun x : Nat × Nat => ⟨[(1, .ptr 0 (t + 1) 0), (6, .own 1 2 (t + 1 + 1 + 1) 0 n), (32, int n), (33, int x.1)], [some ⟨49, t + 1, [bks s.bs, rps s.rs]⟩, none, some ⟨51, t + 1 + 1 + 1, (unitL n x.1).map frs ++ List.replicate (n - x.1) nilF⟩], x.2⟩) (fun x => n - x.1) (fun x => x.1 ≤ n) (0, t + 1 + 1 + 1) (Nat.zero_le _) (by (simp (disch := omega) only [StLe, tmLe, hpLe_refl, hpLe, bl, bb, bt, zDs, zD, eqCells, simprocAttr, unitL, List.range_zero, List.map_nil, Nat.sub_zero])) ?_
    rintro ⟨k, tt⟩ hk
    simp only at hk
    have htl : ((unitL n k).map frs).length = k := by rw [List.length_map, unitL_len]
    by_cases hlt : k < n
    · rw [colF_nil hlt]
      ((refine ggb0 (F := _∧_) ⟨@Int.ofNat_lt, hlt⟩ ?_))
      ((repeat refine AW_seq ?_))
      refine AW_block ?_
      ((refine ggb0 hdb ?_))
      have hg1 := colF_get (n := n) htl nilF
      have hs1 := fun c d => colF_push (n := n) htl hlt c d
      refine AW.begin_cell 2 k 2 37 rfl hg1 (by decide) ?_
      simp only [List.set_cons_succ, List.set_cons_zero, List.length_cons, List.length_nil, List.cons_append, List.nil_append, Nat.zero_add, Nat.reduceAdd, hs1]
      have htl2 : (unitL n k).length = k := unitL_len n k
      have hrl : (List.replicate (n - (k + 1)) nilF).length = n - (k + 1) := by simp
      have hkn : k < k + (n - (k + 1) + 1) := by omega
      refine AW_block ?_
      refine AW_loop_w (fun x : Nat × Nat × Nat => ⟨[(1, .ptr 0 (t + 1) 0), (6, .own 1 2 (t + 1 + 1 + 1) 0 n), (7, int k), (32, int n), (33, int k), (38, int n), (39, int x.1)], [some ⟨49, t + 1, [bks s.bs, rps s.rs]⟩, none, some ⟨51, t + 1 + 1 + 1, (unitL n k).map frs ++ .own 2 3 x.2.1 0 x.1 :: List.replicate (n - (k + 1)) nilF⟩, some ⟨37, x.2.1, frC (unitC k x.1)⟩], x.2.2⟩) (fun x => n - x.1) (fun x => x.1 ≤ n) (0, tt + 1, tt + 1) (Nat.zero_le _) (by (simp (disch := omega) only [StLe, tmLe, hpLe_refl, hpLe, bl, bb, bt, zDs, zD, eqCells, simprocAttr, unitC, List.range_zero, List.map_nil, frC, List.flatMap_nil])) ?_
      rintro ⟨j, g, t2⟩ hj
      simp only at hj
      by_cases hlj : j < n
      · have hct := unitC_succ k j
        have hcl := unitC_len k j
        have hfl : (frC (unitC k j)).length = j * 2 := by rw [frC_len, hcl]
        have hg2 := fun c => colF_get (n := n) htl c
        ((refine ggb0 (F := _∧_) ⟨@Int.ofNat_lt, hlj⟩ ?_))
        ((repeat refine AW_seq ?_))
        refine AW_block ?_
        by_cases hjk : j = k
        · have ejk : ((j : Int) == (k : Int)) = true := by simp [hjk]
          rw [if_pos hjk] at hct
          ((refine ggb0 ejk ?_))
          ((repeat refine AW_seq ?_); (refine gdzb (F := _∧_∧_∧_∧_∧_∧_) ⟨hg2, hs1, hcl, hfl, hkn, htl2, hrl⟩ ?_))
          ((refine gga0 ?_))
          refine ⟨(j + 1, t2 + 1 + 1, t2 + 1 + 1), hlj, by show n - (j + 1) < n - j; omega, ?_⟩
          simp only [hct, frC_push]
          (simp (disch := omega) only [StLe, tmLe, hpLe_refl, hpLe, bl, bb, bt, zDs, zD, eqCells, simprocAttr])
        · have ejk : ((j : Int) == (k : Int)) = false := by simp; omega
          rw [if_neg hjk] at hct
          ((refine ggb0 ejk ?_))
          ((repeat refine AW_seq ?_); (refine gdzb (F := _∧_∧_∧_∧_∧_∧_) ⟨hg2, hs1, hcl, hfl, hkn, htl2, hrl⟩ ?_))
          ((refine gga0 ?_))
          refine ⟨(j + 1, t2 + 1 + 1, t2 + 1 + 1), hlj, by show n - (j + 1) < n - j; omega, ?_⟩
          simp only [hct, frC_push]
          (simp (disch := omega) only [StLe, tmLe, hpLe_refl, hpLe, bl, bb, bt, zDs, zD, eqCells, simprocAttr])
      · have hje : j = n := by omega
        subst hje
        have hcl := unitC_len k j
        have hfl : (frC (unitC k j)).length = j * 2 := by rw [frC_len, hcl]
        have hfin : List.take (j * 2) (frC (unitC k j)) = frC (unitC k j) := List.take_of_length_le (by omega)
        ((refine wqb @Int.lt_irrefl ?_))
        ((refine wia ?_))
        ((refine wxa ?_))
        ((refine AW.freeze (3) (by first | rfl | (simp only [setH, List.getElem?_cons_zero, List.getElem?_cons_succ, fzL_app, fz_nilsF, fzS_frss, fz_bk, fz_rp, hcl, hfl, hfin, List.length_map, Nat.le_refl]; done)) ?_); simp (disch := omega) only [fzT, fz, fzL, fzL_ints, fzL_mat, fzH, fzB, eq_self, bb, bt, zDs, zD, eqCells, simprocAttr, fzL_app, fz_nilsF, fzS_frss, fz_bk, fz_rp, hcl, hfl, hfin, List.length_map, Nat.le_refl])
        ((refine gga0 ?_))
        refine ⟨(k + 1, t2), hlt, by show j - (k + 1) < j - k; omega, ?_⟩
        simp only [unitL_succ, List.map_append, List.map_cons, List.map_nil, List.append_assoc, List.cons_append, List.nil_append]
        (simp (disch := omega) only [StLe, tmLe, hpLe_refl, hpLe, bl, bb, bt, zDs, zD, eqCells, simprocAttr])
    · have hke : k = n := by omega
      subst hke
      ((refine ggb0 @Int.lt_irrefl ?_))
      exact ⟨tt, trivial, by (simp (disch := omega) only [StLe, tmLe, hpLe_refl, hpLe, bl, bb, bt, zDs, zD, eqCells, simprocAttr, Nat.sub_self, List.replicate_zero, List.append_nil])⟩
  rintro tt -
  have hfin : List.take n ((unitL n n).map frs) = (unitL n n).map frs := List.take_of_length_le (by simp [unitL_len])
  have htl := unitL_len n n
  ((refine AW.freeze (2) (by first | rfl | (simp only [setH, List.getElem?_cons_zero, List.getElem?_cons_succ, hfin, htl, fzS_frss, List.length_map, Nat.le_refl]; done)) ?_); simp (disch := omega) only [fzT, fz, fzL, fzL_ints, fzL_mat, fzH, fzB, eq_self, bb, bt, zDs, zD, eqCells, simprocAttr, hfin, htl, fzS_frss, List.length_map, Nat.le_refl])
  ((refine gga0 ?_))
  ((repeat refine AW_seq ?_); (refine wta ?_); simp (disch := omega) only [retQ, resD, oneD, bb, bt, zDs, zD, eqCells, simprocAttr, Try.results97])
  refine rsv_tidy _ _ ?_
  have := tidy_frss (unitL n n)
  simp only [tidyD, tidyL, Bool.not_false, Bool.and_true, Bool.true_and] at this ⊢
  exact this
theorem freedom_prog (s : Sy) (hf : Fits s) : PRet Try.prog 44 [syD s] (.tup [int (modesP s).1.length, int (modesP s).2]) := by
  refine PRet.intro 1 fun t => ACall.enter tab_ok Try.func44 rfl rfl Try.ntmps44 (by simp) ?_
  simp only [enterTM]
  have hM := modes_prog s hf
  generalize modesP s = Y at *
  ((refine gga1 hM ?_))
  ((repeat refine AW_seq ?_); (refine wta ?_); simp (disch := omega) only [retQ, resD, oneD, rsv, rs, rsL, rsL_eq_map, List.map_map, bb, bt, zDs, zD, eqCells, simprocAttr, Try.results44])
/-- Modes are as long as the blocks are many. -/
theorem modesP_facts (s : Sy) : (∀ v ∈ (modesP s).1, v.length = s.bs.length) ∧ (modesP s).1.length ≤ 12 ∧ ((modesP s).2 = 0 ↔ validS s = true) := by
  unfold modesP
  cases hv : validS s
  · simp
  have ok := validS_ok hv
  have hr6 := ok.r6
  have hb6 := ok.b6
  simp only [if_true]
  by_cases h0 : fixA s = []
  · rw [if_pos h0]
    refine ⟨fun v hv => ?_, by simp [unitM]; omega, by simp⟩
    obtain ⟨i, _, rfl⟩ := List.mem_map.1 hv
    simp [unitR]
  · rw [if_neg h0]
    have hfl := fixP_len s.rs (-1) s.rs.length
    obtain ⟨rv, rw', rm⟩ := rowsF_valid ok h0 (by unfold fixA; omega) (fun i hi => fixP_lt hi)
    unfold nullP
    rw [if_pos rv]
    refine ⟨fun v hv => ?_, ?_, by simp⟩
    · obtain ⟨c, _, _, rfl⟩ := nulls_mem _ _ _ v hv
      rw [nvec_len, rw']
    · have := nulls_len (elim (rowsF s (fixA s)) (wid (rowsF s (fixA s)))) (wid (rowsF s (fixA s))) (wid (rowsF s (fixA s)))
      simp only
      omega
abbrev strsD (l : List ByteArray) : D := .sl 1 (l.map str) false
def jamN (bs : List Bk) (L : List (List (Int × Int))) (k : Nat) : List ByteArray := ((List.range k).filter fun i => !L.any (movB i)).map fun i => (bs.getD i ⟨ByteArray.empty, 0⟩).nm
theorem jamN_step {bs : List Bk} {L : List (List (Int × Int))} {k : Nat} {b : Bk} (hb : bs[k]? = some b) : jamN bs L (k + 1) = if L.any (movB k) = true then jamN bs L k else jamN bs L k ++ [b.nm] := by
  unfold jamN
  rw [List.range_succ, List.filter_append, List.map_append]
  have e : (bs.getD k ⟨ByteArray.empty, 0⟩).nm = b.nm := by rw [List.getD_eq_getElem?_getD, hb]; rfl
  cases h : L.any (movB k)
  · rw [List.filter_cons_of_pos (by simp [h]), List.filter_nil, List.map_cons, List.map_nil, e]
    simp
  · rw [List.filter_cons_of_neg (by simp [h])]
    simp
theorem jamN_len (bs : List Bk) (L : List (List (Int × Int))) (k : Nat) : (jamN bs L k).length ≤ k := by
  have := List.length_filter_le (fun i => !L.any (movB i)) (List.range k)
  simpa [jamN] using this
def jamP (s : Sy) : List ByteArray × Int := if (modesP s).2 = 0 then (jamN s.bs (modesP s).1 s.bs.length, 0) else ([], (modesP s).2)
theorem fzS_str (b g : Nat) (cs : List D) : ∀ l : List ByteArray, fzL b g cs (l.map str) = l.map str
  | [] => rfl
  | x :: l => by simp only [List.map_cons, fzL, fz, fzS_str b g cs l]
theorem tidy_strs (l : List ByteArray) : tidyL (l.map str) = true := tidyL_all fun d hd => by obtain ⟨x, _, rfl⟩ := List.mem_map.1 hd; rfl
set_option maxHeartbeats 4000000 in
theorem jammed_prog (s : Sy) (hf : Fits s) : PRet Try.prog 45 [syD s] (.tup [strsD (jamP s).1, int (jamP s).2]) := by
  refine PRet.intro 1 fun t => ACall.enter tab_ok Try.func45 rfl rfl Try.ntmps45 (by simp) ?_
  simp only [enterTM]
  have hM := modes_prog s hf
  have hdb := bkC_div s.bs
  obtain ⟨ml, mn, mv⟩ := modesP_facts s
  unfold jamP
  generalize modesP s = Y at *
  obtain ⟨L, ey⟩ := Y
  simp only at *
  cases hy : (ey == 0)
  · have hy' : (ey != 0) = true := by simpa using hy
    rw [if_neg (by simpa using hy)]
    ((refine ggb1 hy' hM ?_))
    ((repeat refine AW_seq ?_); (refine wta ?_); simp (disch := omega) only [retQ, resD, oneD, rsv, rs, rsL, rsL_eq_map, List.map_map, bb, bt, zDs, zD, eqCells, simprocAttr, Try.results45])
    rfl
  have hy' : (ey != 0) = false := by simpa using hy
  rw [if_pos (by simpa using hy)]
  ((refine ggb1 (F := _∧_) ⟨hy', hdb⟩ hM ?_))
  refine AW.begin 6 1 9 rfl (by decide) ?_
  simp only [putTM, List.length_cons, List.length_nil, Nat.reduceEqDiff, ↓reduceIte, List.cons_append, List.nil_append]
  refine AW_mid (fun x : Nat × Nat => ⟨[(6, .own 1 1 x.1 0 (jamN s.bs L s.bs.length).length)], [none, some ⟨9, x.1, (jamN s.bs L s.bs.length).map str⟩], x.2⟩) (fun _ => True) ?_ ?_
  · refine AW_block ?_
    refine AW_loop_w (fun x : Nat × Nat × Nat => ⟨[(1, .ptr 0 (t + 1) 0), (4, frss L), (6, .own 1 1 x.2.1 0 (jamN s.bs L x.1).length), (18, bks s.bs), (19, int s.bs.length), (20, int x.1)], [some ⟨49, t + 1, [bks s.bs, rps s.rs]⟩, some ⟨9, x.2.1, (jamN s.bs L x.1).map str⟩], x.2.2⟩) (fun x => s.bs.length - x.1) (fun x => x.1 ≤ s.bs.length) (0, t + 1 + 1, t + 1 + 1) (Nat.zero_le _) (by (simp (disch := omega) only [StLe, tmLe, hpLe_refl, hpLe, bl, bb, bt, zDs, zD, eqCells, simprocAttr, jamN, List.range_zero, List.filter_nil, List.map_nil, List.length_nil])) ?_
    rintro ⟨k, g, tt⟩ hk
    simp only at hk
    by_cases hlt : k < s.bs.length
    · obtain ⟨b, hb⟩ : ∃ y, s.bs[k]? = some y := ⟨_, List.getElem?_eq_getElem hlt⟩
      have hra := bkC_read s.bs k b hb
      have hst := jamN_step (L := L) hb
      have hjl := jamN_len s.bs L k
      have hC := movesC L k (by omega) (fun v hv => by rw [ml v hv]; exact hlt)
      have hnl := hf.nb
      generalize jamN s.bs L k = J at *
      ((refine ggb0 (F := _∧_∧_) ⟨@Int.ofNat_lt, hlt, hdb⟩ ?_))
      ((repeat refine AW_seq ?_))
      refine AW_block ?_
      ((refine wqb (F := _∧_∧_) ⟨hlt, hdb, hra⟩ ?_))
      ((refine AW.freeze (2) (by first | rfl | (simp only [setH, List.getElem?_cons_zero, List.getElem?_cons_succ, fz_bk, fz_rp, fzS_str, fzS_frss]; done)) ?_); simp (disch := omega) only [fzT, fz, fzL, fzL_ints, fzL_mat, fzH, fzB, eq_self, bb, bt, zDs, zD, eqCells, simprocAttr, fz_bk, fz_rp, fzS_str, fzS_frss])
      cases hj : L.any (movB k)
      · rw [hj] at hC hst
        ((refine gga1 hC ?_))
        refine ⟨(k + 1, tt + 1 + 1 + 1, tt + 1 + 1 + 1), hlt, by show s.bs.length - (k + 1) < s.bs.length - k; omega, ?_⟩
        simp only [hst, Bool.false_eq_true, if_false, List.length_append, List.length_cons, List.length_nil, List.map_append, List.map_cons, List.map_nil]
        (simp (disch := omega) only [StLe, tmLe, hpLe_refl, hpLe, bl, bb, bt, zDs, zD, eqCells, simprocAttr])
      · rw [hj] at hC hst
        ((refine gga1 hC ?_))
        refine ⟨(k + 1, g, tt + 1 + 1), hlt, by show s.bs.length - (k + 1) < s.bs.length - k; omega, ?_⟩
        simp only [hst, if_true]
        (simp (disch := omega) only [StLe, tmLe, hpLe_refl, hpLe, bl, bb, bt, zDs, zD, eqCells, simprocAttr])
    · have hke : k = s.bs.length := by omega
      subst hke
      ((refine wqb (F := _∧_) ⟨@Int.lt_irrefl, hdb⟩ ?_))
      ((refine wia ?_))
      ((refine wxa ?_))
      exact ⟨(g, tt), trivial, by (simp (disch := omega) only [StLe, tmLe, hpLe_refl, hpLe, bl, bb, bt, zDs, zD, eqCells, simprocAttr])⟩
  rintro ⟨g, tt⟩ -
  generalize jamN s.bs L s.bs.length = J at *
  have hfin : List.take J.length (J.map str) = J.map str := List.take_of_length_le (by simp)
  ((refine AW.freeze (1) (by first | rfl | (simp only [setH, List.getElem?_cons_zero, List.getElem?_cons_succ, hfin, fzS_str, List.length_map, Nat.le_refl]; done)) ?_); simp (disch := omega) only [fzT, fz, fzL, fzL_ints, fzL_mat, fzH, fzB, eq_self, bb, bt, zDs, zD, eqCells, simprocAttr, hfin, fzS_str, List.length_map, Nat.le_refl])
  ((refine gga0 ?_))
  ((repeat refine AW_seq ?_); (refine wta ?_); simp (disch := omega) only [retQ, resD, oneD, bb, bt, zDs, zD, eqCells, simprocAttr, Try.results45])
  exact rsv_tidy _ _ (by simp only [tidyD, tidyL, tidy_strs, Bool.not_false, Bool.and_self])
end Go.Proofs.Ytjjpjgnoanfaoaa.T
end

section
namespace Go.Proofs.Ytjjpjgnoanfaoaa.T
open Go Go.RowKit Lin
set_option linter.unusedSimpArgs false

/-! Chapter 16: witnesses. -/
theorem idxN_hit (x : Int) : ∀ (l : List Int) (n : Nat), ¬ idxN x l n < 0 → ∃ k : Nat, idxN x l n = (n + k : Nat) ∧ l[k]? = some x
  | [], n, h => by simp [idxN] at h
  | y :: r, n, h => by
    by_cases e : x = y
    · subst e
      exact ⟨0, by simp [idxN], by simp⟩
    · simp only [idxN, if_neg e] at h ⊢
      obtain ⟨k, h1, h2⟩ := idxN_hit x r (n + 1) h
      exact ⟨k + 1, by rw [h1]; omega, by simpa using h2⟩
theorem findM_ok {s : Sy} {nm : ByteArray} (h : (findM s nm).2 = 0) : validS s = true ∧ ∃ (i : Nat) (r : Rp), findM s nm = ((i : Int), 0) ∧ s.rs[i]? = some r ∧ r.nm = nm := by
  unfold findM at h ⊢
  cases hv : validS s
  · rw [hv] at h; simp at h
  rw [hv] at h
  simp only [if_true] at h ⊢
  by_cases hb : findR s.rs nm < 0
  · rw [if_pos hb] at h; simp at h
  rw [if_neg hb]
  refine ⟨trivial, ?_⟩
  obtain ⟨h1, h2⟩ := idx_lt (fun r : Rp => decide (r.nm = nm)) s.rs 0
  cases ha : s.rs.any fun r : Rp => decide (r.nm = nm)
  · exact absurd (h2 ha) (by unfold findR at hb; omega)
  · obtain ⟨k, x, e1, e2, e3⟩ := h1 ha
    refine ⟨k, x, ?_, e2, by simpa using e3⟩
    unfold findR
    rw [e1]
    simp
theorem turn_valid {C : List (List Int)} (hv : validP C = true) (h6 : wid C ≤ 6) : validP (turnP C (wid C)) = true ∧ wid (turnP C (wid C)) = C.length := by
  obtain ⟨m1, m2, m3⟩ := validP_iff.1 hv
  have hrow : ∀ r ∈ turnP C (wid C), r.length = C.length ∧ ∀ x ∈ r, -32 ≤ x ∧ x ≤ 32 := fun r hr => by
    obtain ⟨j, hj, rfl⟩ := List.mem_map.1 hr
    refine ⟨by simp [colP], fun x hx => ?_⟩
    obtain ⟨q, hq, rfl⟩ := List.mem_map.1 hx
    exact at_bound (by decide) (m3 q hq).2 j
  have hl := turnP_len C (wid C)
  have hw : wid (turnP C (wid C)) = C.length := by
    obtain ⟨r, rs, e⟩ : ∃ r rs, turnP C (wid C) = r :: rs := by
      cases hr : turnP C (wid C) with
      | nil => rw [hr] at hl; simp at hl; omega
      | cons a b => exact ⟨a, b, rfl⟩
    unfold wid
    unfold wid at e hrow
    rw [e, List.headD_cons]
    exact (hrow r (by rw [e]; simp)).1
  exact ⟨validP_iff.2 ⟨by omega, by omega, fun r hr => ⟨by rw [hw]; exact (hrow r hr).1, (hrow r hr).2⟩⟩, hw⟩
def rkF (s : Sy) (L : List Nat) : Nat := rankP (rowsF s L) (wid (rowsF s L))
def colsW (s : Sy) (L : List Nat) (k i : Nat) : List (List Int) := turnP (rowsF s (L.eraseIdx k ++ [i])) s.bs.length
def putW (v : List (Int × Int)) (os : List Nat) (n : Nat) : Nat → List (Int × Int)
  | 0 => List.replicate n (0, 1)
  | j + 1 => (putW v os n j).set (os.getD j 0) (v.getD j (0, 0))
theorem putW_len (v : List (Int × Int)) (os : List Nat) (n : Nat) : ∀ j, (putW v os n j).length = n
  | 0 => by simp [putW]
  | j + 1 => by simp [putW, putW_len v os n j]
def witV (s : Sy) (L : List Nat) (k i : Nat) (v : List (Int × Int)) : List (Int × Int) := (putW v (L.eraseIdx k) s.rs.length (L.eraseIdx k).length).set i (v.getD (v.length - 1) (0, 0))
def witK (s : Sy) (L : List Nat) (k i : Nat) : List (Int × Int) × Int :=
  if rkF s (L.eraseIdx k) < rkF s L then ([], 12)
  else if (nullP (colsW s L k i)).1 = [] then ([], 12)
  else (witV s L k i ((nullP (colsW s L k i)).1.getD ((nullP (colsW s L k i)).1.length - 1) []), 0)
def witP (s : Sy) (nm : ByteArray) : List (Int × Int) × Int :=
  if (findM s nm).2 ≠ 0 then ([], (findM s nm).2)
  else if idxN (findM s nm).1 (nums (fixA s)) 0 < 0 then ([], 12)
  else witK s (fixA s) (idxN (findM s nm).1 (nums (fixA s)) 0).toNat (findM s nm).1.toNat
theorem rowsF_erase (s : Sy) (L : List Nat) (k : Nat) : (rowsF s L).eraseIdx k = rowsF s (L.eraseIdx k) := erase_map _ _ _
theorem nums_erase (L : List Nat) (k : Nat) : (nums L).eraseIdx k = nums (L.eraseIdx k) := erase_map _ _ _
theorem rank_rows {s : Sy} (ok : OkS s) {L : List Nat} (h1 : L.length ≤ 6) (h2 : ∀ i ∈ L, i < s.rs.length) : PRet Try.prog 106 [mat (rowsF s L)] (int (rkF s L)) := by
  have hb6 := ok.b6
  refine rank_mob _ (by rw [rowsF_len]; omega) (fun r hr => ?_) (fun h => ?_)
  · have h0 : L ≠ [] := fun e => by subst e; simp [rowsF] at hr
    rw [((rowsF_valid ok h0 h1 h2).2.2 r hr).2]
    omega
  · exact (rowsF_valid ok (fun e => h (by subst e; rfl)) h1 h2).1
set_option maxHeartbeats 8000000 in
theorem witness_prog (s : Sy) (hf : Fits s) (nm : ByteArray) : PRet Try.prog 96 [syD s, str nm] (.tup [frs (witP s nm).1, int (witP s nm).2]) := by
  refine PRet.intro 1 fun t => ACall.enter tab_ok Try.func96 rfl rfl Try.ntmps96 (by simp) ?_
  simp only [enterTM]
  have hF := find_mob s hf nm
  have hO := of_prog s hf
  have hdb := bkC_div s.bs
  have hdr := rpC_div s.rs
  by_cases h0 : (findM s nm).2 = 0
  rotate_left 1
  · have h0' : ((findM s nm).2 != 0) = true := by simpa using h0
    have e : witP s nm = ([], (findM s nm).2) := by simp [witP, h0]
    generalize findM s nm = Z at *
    ((refine ggb1 h0' hF ?_))
    ((repeat refine AW_seq ?_); (refine wta ?_); simp (disch := omega) only [retQ, resD, oneD, rsv, rs, rsL, rsL_eq_map, List.map_map, bb, bt, zDs, zD, eqCells, simprocAttr, Try.results96, e])
    rfl
  obtain ⟨hv, i, r, hZ, hri, hrn⟩ := findM_ok h0
  rw [hv] at hO
  simp only [if_true] at hO
  rw [hZ] at hF
  have ok := validS_ok hv
  have hb6 := ok.b6
  have hr6 := ok.r6
  have hfl := fixP_len s.rs (-1) s.rs.length
  have hlt : ∀ j ∈ fixA s, j < s.rs.length := fun j hj => fixP_lt hj
  have hil := (List.getElem?_eq_some_iff.1 hri).1
  have e : witP s nm = if idxN (i : Int) (nums (fixA s)) 0 < 0 then ([], 12) else witK s (fixA s) (idxN (i : Int) (nums (fixA s)) 0).toNat i := by
    unfold witP
    rw [hZ]
    simp
  rw [e]
  clear e
  replace hfl : (fixA s).length ≤ 6 := Nat.le_trans hfl hr6
  generalize fixA s = L at *
  have hnl := nums_len L
  have hX := indexInts (nums L) (i : Int) (by omega)
  by_cases hk : idxN (i : Int) (nums L) 0 < 0
  · rw [if_pos hk]
    generalize idxN (i : Int) (nums L) 0 = K at *
    ((refine gga3 hF hO hX ?_))
    ((repeat refine AW_seq ?_); (refine gdzb hk ?_))
    ((refine gga0 ?_))
    ((repeat refine AW_seq ?_); (refine wta ?_); simp (disch := omega) only [retQ, resD, oneD, rsv, rs, rsL, rsL_eq_map, List.map_map, bb, bt, zDs, zD, eqCells, simprocAttr, Try.results96])
    rfl
  rw [if_neg hk]
  obtain ⟨k, hk1, hk2⟩ := idxN_hit (i : Int) (nums L) 0 hk
  rw [Nat.zero_add] at hk1
  rw [hk1, Int.toNat_natCast]
  rw [hk1] at hX
  have hkn : k < (nums L).length := (List.getElem?_eq_some_iff.1 hk2).1
  have hkl : k < L.length := by omega
  have hLk : L[k]? = some i := by
    unfold nums at hk2
    rw [List.getElem?_map] at hk2
    cases hq : L[k]? with
    | none => rw [hq] at hk2; simp at hk2
    | some y => rw [hq] at hk2; simp at hk2; exact congrArg some (by omega)
  have hrl := rowsF_len s L
  have hMk : (rowsF s L)[k]? = some ((trS s).getD i []) := by unfold rowsF; rw [List.getElem?_map, hLk]; rfl
  have hel : (L.eraseIdx k).length = L.length - 1 := List.length_eraseIdx_of_lt hkl
  have helt : ∀ j ∈ L.eraseIdx k, j < s.rs.length := fun j hj => hlt j (List.mem_of_mem_eraseIdx hj)
  have hW := without_ret (nums L) (rowsF s L) k (by omega) (by omega)
  have hWf := without_fresh (nums L) (rowsF s L) k (by omega) (by omega)
  rw [rowsF_erase] at hW hWf
  have hR1 := rank_rows ok (by omega) helt
  have hR2 := rank_rows ok hfl hlt
  have hk0 : ¬ ((k : Int) < 0) := by omega
  unfold witK
  generalize rkF s (L.eraseIdx k) = A at *
  generalize rkF s L = B at *
  by_cases hab : A < B
  · have hab' : (A : Int) < B := by omega
    rw [if_pos hab]
    ((refine gga3 hF hO hX ?_))
    ((repeat refine AW_seq ?_); (refine gdzb3_MQX (F := _∧_) ⟨hk0, hab'⟩ hW hR1 hR2 ?_))
    ((refine gga0 ?_))
    ((repeat refine AW_seq ?_); (refine wta ?_); simp (disch := omega) only [retQ, resD, oneD, rsv, rs, rsL, rsL_eq_map, List.map_map, bb, bt, zDs, zD, eqCells, simprocAttr, Try.results96])
    rfl
  have hab' : ¬ (A : Int) < B := by omega
  rw [if_neg hab]
  have hkM : k < (rowsF s L).length := by omega
  have hro : (rowsF s (L.eraseIdx k)).map ints ++ [ints ((trS s).getD i [])] = (rowsF s (L.eraseIdx k ++ [i])).map ints := by simp [rowsF]
  have hrel := rowsF_len s (L.eraseIdx k)
  ((refine gga3 hF hO hX ?_))
  ((repeat refine AW_seq ?_); (refine gdzb3_MQX (F := _∧_) ⟨hk0, hab'⟩ hW hR1 hR2 ?_))
  ((refine gga0 ?_))
  ((repeat refine AW_seq ?_); (refine AW_drawn_i tab_ok follows_mixed 1 fun KR hKR => ?_); simp only [List.replicate_succ, List.replicate_zero, List.append_nil, List.nil_append, List.cons_append, List.length_cons, List.length_nil, Nat.reduceAdd])
  ((refine wda ?_))
  ((first | refine awD_nc fun KK hKK => ?_ | refine awD_gc rfl fun KK hKK => ?_); simp (disch := omega) only [bb, bt, zDs, zD, eqCells, simprocAttr, goCDS, callDS_fn, argsZ, argsD, ufa, uf]; refine PGive.fresh (2) (hWf) ?_ ?_; (focus (first | omega | (simp (disch := omega) only [List.length_cons, List.length_nil, List.length_append]; done) | (simp (disch := omega) only [List.length_cons, List.length_nil, List.length_append]; omega))); simp (disch := omega) only [bb, bt, zDs, zD, eqCells, simprocAttr, afterDS]; refine hKK _ _ _ ?_; clear hKK KK)
  ((refine wdb (F := _∧_∧_∧_∧_) ⟨hkM, hMk, hrel, hel, hrl⟩ ?_))
  ((refine awD_nil ?_); simp only [List.reverse_cons, List.reverse_nil, List.nil_append, List.cons_append]; (refine hKR _ _ (by exact anyB_map (clamp 2) (by kernel_rfl)) ?_); (try clear hKR KR); (repeat (with_reducible first | refine q1 ?_ | refine q2 ?_ | refine q3 ?_ | refine q4 ?_ | refine q5 ?_ | refine q6 ?_ | (refine q7 ?_ ?_; (focus (with_unfolding_all rfl))))))
  obtain ⟨cv, cw, cm⟩ := rowsF_valid ok (L := L.eraseIdx k ++ [i]) (by simp) (by simp; omega) (fun j hj => by
    rcases List.mem_append.1 hj with h | h
    · exact helt j h
    · rw [List.mem_singleton.1 h]; exact hil)
  obtain ⟨uv, uw⟩ := turn_valid cv (by omega)
  have hcl : (rowsF s (L.eraseIdx k ++ [i])).length = L.length := by rw [rowsF_len]; simp; omega
  have hN := null (turnP (rowsF s (L.eraseIdx k ++ [i])) (wid (rowsF s (L.eraseIdx k ++ [i])))) (by rw [turnP_len]; omega) (fun r hr => by
    rw [((validP_iff.1 uv).2.2 r hr).1, uw]
    omega)
  rw [cw] at hN uw uv
  have ec : colsW s L k i = turnP (rowsF s (L.eraseIdx k ++ [i])) s.bs.length := rfl
  rw [ec]
  generalize rowsF s (L.eraseIdx k ++ [i]) = C at *
  have hlm : L.length - 1 + 1 = L.length := by omega
  have hfin : List.take (C.map ints).length (C.map ints) = C.map ints := List.take_length
  rw [List.length_map, hcl] at hfin
  ((refine AW.freeze (2) (by first | rfl | (simp only [setH, List.getElem?_cons_zero, List.getElem?_cons_succ, fzL_ints, fzL_mat, fz_bk, fz_rp, hro, hfin, hcl, hlm, hrl, List.length_map, Nat.le_refl]; done)) ?_); simp (disch := omega) only [fzT, fz, fzL, fzL_ints, fzL_mat, fzH, fzB, eq_self, bb, bt, zDs, zD, eqCells, simprocAttr, fzL_ints, fzL_mat, fz_bk, fz_rp, hro, hfin, hcl, hlm, hrl, List.length_map, Nat.le_refl])
  ((refine ggb0 hdb ?_))
  rw [nilsI]
  generalize t + 1 + 1 + 1 + 1 + 11 + 1 = gm
  generalize hn : s.bs.length = n at *
  have hcr : ∀ q ∈ C, q.length = n := fun q hq => (cm q hq).2
  have hC1 : 1 ≤ C.length := by omega
  ((repeat refine AW_seq ?_))
  refine AW_mid (fun x : Nat => ⟨[(2, .ptr 0 (t + 1) 0), (6, int i), (8, .ptr 1 (t + 1 + 1) 0), (9, int k), (11, .own 1 3 gm 0 n)], [some ⟨49, t + 1, [bks s.bs, rps s.rs]⟩, some ⟨139, t + 1 + 1, [ints (nums L), mat (rowsF s L)]⟩, none, some ⟨81, gm, (turnP C n).map ints⟩], x⟩) (fun _ => True) ?_ ?_
  · refine AW_block ?_
    refine AW_loop_w (fun x : Nat × Nat => ⟨[(2, .ptr 0 (t + 1) 0), (6, int i), (8, .ptr 1 (t + 1 + 1) 0), (9, int k), (10, mat C), (11, .own 1 3 gm 0 n), (70, int n), (71, int x.1)], [some ⟨49, t + 1, [bks s.bs, rps s.rs]⟩, some ⟨139, t + 1 + 1, [ints (nums L), mat (rowsF s L)]⟩, none, some ⟨81, gm, (turnP C x.1).map ints ++ List.replicate (n - x.1) nilI⟩], x.2⟩) (fun x => n - x.1) (fun x => x.1 ≤ n) (0, gm) (Nat.zero_le _) (by (simp (disch := omega) only [StLe, tmLe, hpLe_refl, hpLe, bl, bb, bt, zDs, zD, eqCells, simprocAttr, turnP, List.range_zero, Nat.sub_zero])) ?_
    rintro ⟨p, tt⟩ hp
    simp only at hp
    have htl : ((turnP C p).map ints).length = p := by rw [List.length_map, turnP_len]
    by_cases hlt : p < n
    · rw [col_nil hlt]
      ((refine ggb0 (F := _∧_) ⟨@Int.ofNat_lt, hlt⟩ ?_))
      ((repeat refine AW_seq ?_))
      refine AW_block ?_
      ((refine gga0 ?_))
      have hg1 := col_get (n := n) htl nilI
      have hs1 := fun c d => col_push (n := n) htl hlt c d
      refine AW.begin_cell 3 p 1 3 rfl hg1 (by decide) ?_
      simp only [List.set_cons_succ, List.set_cons_zero, List.length_cons, List.length_nil, List.cons_append, List.nil_append, Nat.zero_add, Nat.reduceAdd, hs1]
      have htl2 : (turnP C p).length = p := turnP_len C p
      have hrl : (List.replicate (n - (p + 1)) nilI).length = n - (p + 1) := by simp
      have hkn : p < p + (n - (p + 1) + 1) := by omega
      refine AW_block ?_
      refine AW_loop_w (fun x : Nat × Nat × Nat => ⟨[(2, .ptr 0 (t + 1) 0), (6, int i), (8, .ptr 1 (t + 1 + 1) 0), (9, int k), (10, mat C), (11, .own 1 3 gm 0 n), (12, int p), (70, int n), (71, int p), (74, mat C), (75, int C.length), (76, int x.1)], [some ⟨49, t + 1, [bks s.bs, rps s.rs]⟩, some ⟨139, t + 1 + 1, [ints (nums L), mat (rowsF s L)]⟩, none, some ⟨81, gm, (turnP C p).map ints ++ .own 1 4 x.2.1 0 x.1 :: List.replicate (n - (p + 1)) nilI⟩, some ⟨3, x.2.1, (colP (C.take x.1) p).map int⟩], x.2.2⟩) (fun x => C.length - x.1) (fun x => x.1 ≤ C.length) (0, tt + 1, tt + 1) (Nat.zero_le _) (by (simp (disch := omega) only [StLe, tmLe, hpLe_refl, hpLe, bl, bb, bt, zDs, zD, eqCells, simprocAttr, colP])) ?_
      rintro ⟨j, g, t2⟩ hj
      simp only at hj
      by_cases hlj : j < C.length
      · obtain ⟨q, hq⟩ : ∃ y, C[j]? = some y := ⟨_, List.getElem?_eq_getElem hlj⟩
        have hql := hcr q (List.mem_of_getElem? hq)
        have hkr : p < q.length := by omega
        obtain ⟨v, hv⟩ : ∃ y, q[p]? = some y := ⟨_, List.getElem?_eq_getElem hkr⟩
        have hct := colP_take hq hv
        have hcl2 : (colP (C.take j) p).length = j := by simp [colP]; omega
        have hg2 := fun c => col_get (n := n) htl c
        ((refine ggb0 (F := _∧_) ⟨@Int.ofNat_lt, hlj⟩ ?_))
        ((repeat refine AW_seq ?_))
        refine AW_block ?_
        ((refine ggb0 (F := _∧_) ⟨hlj, hq⟩ ?_))
        ((repeat refine AW_seq ?_); (refine gdzb (F := _∧_∧_∧_∧_∧_∧_∧_) ⟨hg2, hs1, hkr, hv, hcl2, hkn, htl2, hrl⟩ ?_))
        ((refine gga0 ?_))
        refine ⟨(j + 1, t2 + 1, t2 + 1), hlj, by show C.length - (j + 1) < C.length - j; omega, ?_⟩
        simp only [hct, List.map_append, List.map_cons, List.map_nil]
        (simp (disch := omega) only [StLe, tmLe, hpLe_refl, hpLe, bl, bb, bt, zDs, zD, eqCells, simprocAttr])
      · have hje : j = C.length := by omega
        subst hje
        rw [List.take_length]
        have hcl2 : (colP C p).length = C.length := by simp [colP]
        have hfin2 : List.take C.length ((colP C p).map int) = (colP C p).map int := List.take_of_length_le (by simp [hcl2])
        ((refine wqb @Int.lt_irrefl ?_))
        ((refine wia ?_))
        ((refine wxa ?_))
        ((refine AW.freeze (4) (by first | rfl | (simp only [setH, List.getElem?_cons_zero, List.getElem?_cons_succ, fzL_app, fz_nils, fzL_ints, fzL_mat, fz_bk, fz_rp, hcl2, hfin2, List.length_map, Nat.le_refl]; done)) ?_); simp (disch := omega) only [fzT, fz, fzL, fzL_ints, fzL_mat, fzH, fzB, eq_self, bb, bt, zDs, zD, eqCells, simprocAttr, fzL_app, fz_nils, fzL_ints, fzL_mat, fz_bk, fz_rp, hcl2, hfin2, List.length_map, Nat.le_refl])
        ((refine gga0 ?_))
        refine ⟨(p + 1, t2), hlt, by show n - (p + 1) < n - p; omega, ?_⟩
        simp only [turnP_succ, List.map_append, List.map_cons, List.map_nil, List.append_assoc, List.cons_append, List.nil_append]
        (simp (disch := omega) only [StLe, tmLe, hpLe_refl, hpLe, bl, bb, bt, zDs, zD, eqCells, simprocAttr])
    · have hke : p = n := by omega
      subst hke
      ((refine ggb0 @Int.lt_irrefl ?_))
      exact ⟨tt, trivial, by (simp (disch := omega) only [StLe, tmLe, hpLe_refl, hpLe, bl, bb, bt, zDs, zD, eqCells, simprocAttr, Nat.sub_self, List.replicate_zero, List.append_nil])⟩
  rintro tt -
  have hfin3 : List.take n ((turnP C n).map ints) = (turnP C n).map ints := List.take_of_length_le (by simp [turnP_len])
  have htl := turnP_len C n
  have hY2 : (nullP (turnP C n)).2 = 0 := by unfold nullP; rw [if_pos uv]
  have hYl : ∀ v ∈ (nullP (turnP C n)).1, v.length = C.length := fun v hv => by
    unfold nullP at hv
    rw [if_pos uv] at hv
    obtain ⟨c, _, _, rfl⟩ := nulls_mem _ _ _ v hv
    rw [nvec_len, uw]
  have hYn : (nullP (turnP C n)).1.length ≤ 12 := by
    unfold nullP
    rw [if_pos uv]
    have := nulls_len (elim (turnP C n) (wid (turnP C n))) (wid (turnP C n)) (wid (turnP C n))
    simp only
    omega
  ((refine AW.freeze (3) (by first | rfl | (simp only [setH, List.getElem?_cons_zero, List.getElem?_cons_succ, hfin3, htl, fzL_mat, fzL_ints, fz_bk, fz_rp, List.length_map, Nat.le_refl]; done)) ?_); simp (disch := omega) only [fzT, fz, fzL, fzL_ints, fzL_mat, fzH, fzB, eq_self, bb, bt, zDs, zD, eqCells, simprocAttr, hfin3, htl, fzL_mat, fzL_ints, fz_bk, fz_rp, List.length_map, Nat.le_refl])
  generalize nullP (turnP C n) = Y at *
  obtain ⟨N, ye⟩ := Y
  simp only at hY2 hYl hYn hN ⊢
  subst hY2
  by_cases hY : N = []
  · rw [if_pos hY]
    subst hY
    ((refine gga1 hN ?_))
    ((repeat refine AW_seq ?_); (refine wta ?_); simp (disch := omega) only [retQ, resD, oneD, rsv, rs, rsL, rsL_eq_map, List.map_map, bb, bt, zDs, zD, eqCells, simprocAttr, Try.results96])
    rfl
  rw [if_neg hY]
  have hNp := List.length_pos_iff.2 hY
  have hl0 : ((N.length : Int) == 0) = false := by simp; omega
  obtain ⟨v, hv1⟩ : ∃ y, N[N.length - 1]? = some y := ⟨_, List.getElem?_eq_getElem (by omega)⟩
  have hvl := hYl v (List.mem_of_getElem? hv1)
  have hsub : (N.length : Int) - 1 = ((N.length - 1 : Nat) : Int) := by omega
  have hlt1 : N.length - 1 < N.length := by omega
  rw [List.getD_eq_getElem?_getD, hv1, Option.getD_some]
  ((refine ggb1 (F := _∧_∧_∧_∧_) ⟨hl0, hsub, hlt1, hv1, hdr⟩ hN ?_))
  generalize hnr : s.rs.length = nr at *
  have hfz : (List.replicate nr [int 0, int 0]).flatten = frC (fillF nr 0) := by
    rw [fillF_zero]; exact pairC_frC 0 0 nr
  rw [hfz]
  ((repeat refine AW_seq ?_))
  refine AW_mid (fun x : Nat => ⟨[(6, int i), (8, .ptr 1 (t + 1 + 1) 0), (9, int k), (16, frs v), (17, .own 2 4 (tt + 1) 0 nr)], [none, some ⟨139, t + 1 + 1, [ints (nums L), mat (rowsF s L)]⟩, none, none, some ⟨37, tt + 1, frC (fillF nr nr)⟩], x⟩) (fun _ => True) ?_ ?_
  · refine AW_block ?_
    refine AW_loop_w (fun x : Nat × Nat => ⟨[(6, int i), (8, .ptr 1 (t + 1 + 1) 0), (9, int k), (16, frs v), (17, .own 2 4 (tt + 1) 0 nr), (118, int nr), (119, int x.1)], [none, some ⟨139, t + 1 + 1, [ints (nums L), mat (rowsF s L)]⟩, none, none, some ⟨37, tt + 1, frC (fillF nr x.1)⟩], x.2⟩) (fun x => nr - x.1) (fun x => x.1 ≤ nr) (0, tt + 1) (Nat.zero_le _) (by (simp (disch := omega) only [StLe, tmLe, hpLe_refl, hpLe, bl, bb, bt, zDs, zD, eqCells, simprocAttr])) ?_
    rintro ⟨p, t3⟩ hp
    simp only at hp
    by_cases hpn : p < nr
    · have hl0 := frC_len (fillF nr p)
      rw [fillF_len hp] at hl0
      have hle0 : p * 2 + 2 ≤ nr * 2 := by omega
      have hset0 := frC_set (fillF nr p) p 0 1 (by rw [fillF_len hp]; exact hpn)
      rw [fillF_set hpn] at hset0
      simp only [List.append_assoc, List.cons_append, List.nil_append] at hset0
      ((refine ggb0 (F := _∧_) ⟨@Int.ofNat_lt, hpn⟩ ?_))
      ((repeat refine AW_seq ?_))
      refine AW_block ?_
      ((refine ggb0 (F := _∧_∧_∧_) ⟨hl0, hpn, hle0, hset0⟩ ?_))
      refine ⟨(p + 1, t3), hpn, by show nr - (p + 1) < nr - p; omega, ?_⟩
      (simp (disch := omega) only [StLe, tmLe, hpLe_refl, hpLe, bl, bb, bt, zDs, zD, eqCells, simprocAttr])
    · have hpe : p = nr := by omega
      subst hpe
      ((refine ggb0 @Int.lt_irrefl ?_))
      exact ⟨t3, trivial, by (simp (disch := omega) only [StLe, tmLe, hpLe_refl, hpLe, bl, bb, bt, zDs, zD, eqCells, simprocAttr])⟩
  rintro t3 -
  rw [fillF_end, show List.replicate nr ((0 : Int), (1 : Int)) = putW v (L.eraseIdx k) nr 0 from rfl]
  ((repeat refine AW_seq ?_); (refine AW_region_k tab_ok fun KR hKR => ?_)); ((refine wra ?_))
  ((first | refine awOps_nc fun KK hKK => ?_ | refine awOps_gc rfl fun KK hKK => ?_); simp (disch := omega) only [bb, bt, zDs, zD, eqCells, simprocAttr, goC, callO_fn, argsD, and_self]; refine ACall.of_fresh (cloneInts (nums L) (by omega)) (by first | (simp only [List.map_cons, List.map_nil, List.append_nil, List.nil_append, List.cons_append, ufa, uf]; done) | rfl) ?_; simp (disch := omega) only [bb, bt, zDs, zD, eqCells, simprocAttr, afterC]; refine hKK _ ?_; clear hKK KK)
  ((refine wra ?_))
  ((try with_reducible intro KR hKR); (first | refine awOps_nc fun KK hKK => ?_ | refine awOps_gc rfl fun KK hKK => ?_); simp (disch := omega) only [bb, bt, zDs, zD, eqCells, simprocAttr, goC, callO_fn, argsD, and_self])
  refine delete_row (bl := ⟨3, t3 + 1, (nums L).map int⟩) (l := nums L) rfl rfl rfl hkn ?_
  (simp (disch := omega) only [bb, bt, zDs, zD, eqCells, simprocAttr, afterC]; refine hKK _ ?_; clear hKK KK)
  ((refine wra ?_)); ((refine wea ?_); (try clear hKR KR))
  have hfin5 : List.take ((nums L).length - 1) (((nums L).eraseIdx k).map int) = ((nums L).eraseIdx k).map int := List.take_of_length_le (by rw [List.length_map, List.length_eraseIdx_of_lt hkn]; omega)
  have hle5 : (nums L).length - 1 ≤ ((nums L).eraseIdx k).length := by rw [List.length_eraseIdx_of_lt hkn]; omega
  ((refine AW.freeze (5) (by first | rfl | (simp only [setH, List.getElem?_cons_zero, List.getElem?_cons_succ, fzL_ints, fzL_mat, fzS_fr, hfin5, hle5, List.length_map, Nat.le_refl]; done)) ?_); simp (disch := omega) only [fzT, fz, fzL, fzL_ints, fzL_mat, fzH, fzB, eq_self, bb, bt, zDs, zD, eqCells, simprocAttr, fzL_ints, fzL_mat, fzS_fr, hfin5, hle5, List.length_map, Nat.le_refl])
  rw [nums_erase]
  unfold witV
  rw [hnr]
  generalize hO' : L.eraseIdx k = O at *
  have hol := nums_len O
  have hvn : v.length = O.length + 1 := by omega
  have hO6 : O.length ≤ 6 := by omega
  ((refine ggb0 hol ?_))
  ((repeat refine AW_seq ?_))
  refine AW_mid (fun x : Nat => ⟨[(6, int i), (16, frs v), (17, .own 2 4 (tt + 1) 0 nr)], [none, none, none, none, some ⟨37, tt + 1, frC (putW v O nr O.length)⟩], x⟩) (fun _ => True) ?_ ?_
  · refine AW_block ?_
    refine AW_loop_w (fun x : Nat × Nat => ⟨[(6, int i), (16, frs v), (17, .own 2 4 (tt + 1) 0 nr), (134, ints (nums O)), (135, int O.length), (136, int x.1)], [none, none, none, none, some ⟨37, tt + 1, frC (putW v O nr x.1)⟩], x.2⟩) (fun x => O.length - x.1) (fun x => x.1 ≤ O.length) (0, t3 + 1 + 1) (Nat.zero_le _) (by (simp (disch := omega) only [StLe, tmLe, hpLe_refl, hpLe, bl, bb, bt, zDs, zD, eqCells, simprocAttr])) ?_
    rintro ⟨j, t4⟩ hj
    simp only at hj
    by_cases hjn : j < O.length
    · obtain ⟨o, ho⟩ : ∃ y, O[j]? = some y := ⟨_, List.getElem?_eq_getElem hjn⟩
      obtain ⟨f, hfj⟩ : ∃ y, v[j]? = some y := ⟨_, List.getElem?_eq_getElem (by omega)⟩
      have hon := helt o (List.mem_of_getElem? ho)
      have hno : (nums O)[j]? = some (o : Int) := by unfold nums; rw [List.getElem?_map, ho]; rfl
      have hjn2 : j < (nums O).length := by omega
      have hjv : j < v.length := by omega
      have hra := frC_read v j f hfj
      have hvd := frC_div v
      have hl0 := frC_len (putW v O nr j)
      rw [putW_len] at hl0
      have hle0 : o * 2 + 2 ≤ nr * 2 := by omega
      have hset0 := frC_set (putW v O nr j) o f.1 f.2 (by rw [putW_len]; exact hon)
      have hpu : putW v O nr (j + 1) = (putW v O nr j).set o (f.1, f.2) := by simp only [putW]; rw [List.getD_eq_getElem?_getD, ho, List.getD_eq_getElem?_getD, hfj]; rfl
      rw [← hpu] at hset0
      simp only [List.append_assoc, List.cons_append, List.nil_append] at hset0
      ((refine ggb0 (F := _∧_) ⟨@Int.ofNat_lt, hjn⟩ ?_))
      ((repeat refine AW_seq ?_))
      refine AW_block ?_
      ((refine ggb0 (F := _∧_∧_∧_∧_∧_∧_∧_∧_∧_∧_) ⟨hl0, hon, hle0, hset0, hno, hjn, hjn2, hjv, hra, hvd, hol⟩ ?_))
      refine ⟨(j + 1, t4), hjn, by show O.length - (j + 1) < O.length - j; omega, ?_⟩
      (simp (disch := omega) only [StLe, tmLe, hpLe_refl, hpLe, bl, bb, bt, zDs, zD, eqCells, simprocAttr])
    · have hje : j = O.length := by omega
      subst hje
      ((refine ggb0 @Int.lt_irrefl ?_))
      exact ⟨t4, trivial, by (simp (disch := omega) only [StLe, tmLe, hpLe_refl, hpLe, bl, bb, bt, zDs, zD, eqCells, simprocAttr])⟩
  rintro t4 -
  obtain ⟨f, hfj⟩ : ∃ y, v[v.length - 1]? = some y := ⟨_, List.getElem?_eq_getElem (by omega)⟩
  have hsub2 : (v.length : Int) - 1 = ((v.length - 1 : Nat) : Int) := by omega
  have hjv : v.length - 1 < v.length := by omega
  have hra := frC_read v (v.length - 1) f hfj
  have hvd := frC_div v
  have hl0 := frC_len (putW v O nr O.length)
  rw [putW_len] at hl0
  have hle0 : i * 2 + 2 ≤ nr * 2 := by omega
  have hset0 := frC_set (putW v O nr O.length) i f.1 f.2 (by rw [putW_len]; exact hil)
  have hpu : (putW v O nr O.length).set i (v.getD (v.length - 1) (0, 0)) = (putW v O nr O.length).set i (f.1, f.2) := by rw [List.getD_eq_getElem?_getD, hfj]; rfl
  rw [hpu]
  have hwl : ((putW v O nr O.length).set i (f.1, f.2)).length = nr := by rw [List.length_set, putW_len]
  simp only [List.append_assoc, List.cons_append, List.nil_append] at hset0
  have hvl12 : v.length ≤ 12 := by omega
  generalize (putW v O nr O.length).set i (f.1, f.2) = W at *
  ((refine wqb (F := _∧_∧_∧_∧_∧_∧_∧_) ⟨hl0, hil, hle0, hset0, hsub2, hjv, hra, hvd⟩ ?_))
  have hwl2 := frC_len W
  rw [hwl] at hwl2
  have hfin6 : List.take (nr * 2) (frC W) = frC W := List.take_of_length_le (by omega)
  ((refine AW.freeze (4) (by first | rfl | (simp only [setH, List.getElem?_cons_zero, List.getElem?_cons_succ, fzS_fr, hfin6, hwl2, Nat.le_refl]; done)) ?_); simp (disch := omega) only [fzT, fz, fzL, fzL_ints, fzL_mat, fzH, fzB, eq_self, bb, bt, zDs, zD, eqCells, simprocAttr, fzS_fr, hfin6, hwl2, Nat.le_refl])
  ((refine gga0 ?_))
  ((repeat refine AW_seq ?_); (refine wta ?_); simp (disch := omega) only [retQ, resD, oneD, bb, bt, zDs, zD, eqCells, simprocAttr, Try.results96])
  exact rsv_tidy _ _ (by simp only [tidyD, tidyL, tidy_fr, Bool.not_false, Bool.and_self])
end Go.Proofs.Ytjjpjgnoanfaoaa.T
end
end

section
section
namespace Go.Proofs.Ytjjpjgnoanfaoaa.T
open Go Go.RowKit Lin
set_option linter.unusedSimpArgs false

/-! Chapter 16: the examples. -/
theorem equalStrs (a b : List ByteArray) (ha : a.length ≤ 1000000) (hb : b.length ≤ 1000000) : PRet Try.prog 48 [strsD a, strsD b] (bool (a == b)) := by
  refine PRet.intro 1 fun t => ACall.enter tab_ok Try.func48 rfl rfl Try.ntmps48 (by simp) ?_
  simp only [enterTM]
  ((refine wqa ?_))
  by_cases hl : a.length = b.length
  rotate_left 1
  · have e1 : ((a.length : Int) != (b.length : Int)) = true := by simpa using fun h => hl (by omega)
    ((refine wqb e1 ?_))
    ((refine wia ?_))
    ((refine wqa ?_))
    ((repeat refine AW_seq ?_); (refine wta ?_); simp (disch := omega) only [retQ, resD, oneD, rsv, rs, rsL, rsL_eq_map, List.map_map, bb, bt, zDs, zD, eqCells, simprocAttr, Try.results48])
    have : (a == b) = false := by rw [beq_eq_false_iff_ne]; intro h; exact hl (by rw [h])
    rw [this]
  have e1 : ((a.length : Int) != (b.length : Int)) = false := by simp [hl]
  ((refine wqb e1 ?_))
  ((refine wia ?_))
  ((refine wsa ?_))
  ((refine wqa ?_))
  ((repeat refine AW_seq ?_))
  refine AW_mid (fun x : Nat => ⟨[], [], x⟩) (fun _ => (a == b) = true) ?_ ?_
  · refine AW_block ?_
    refine AW_loop_w (fun x : Nat × Nat => ⟨[(0, strsD a), (1, strsD b), (12, int a.length), (13, int x.1)], [], x.2⟩) (fun x => a.length - x.1) (fun x => x.1 ≤ a.length ∧ (a == b) = (a.drop x.1 == b.drop x.1)) (0, t) ⟨Nat.zero_le _, rfl⟩ (by (simp (disch := omega) only [StLe, tmLe, hpLe_refl, hpLe, bl, bb, bt, zDs, zD, eqCells, simprocAttr])) ?_
    rintro ⟨k, t2⟩ ⟨hk, he⟩
    simp only at hk he
    by_cases hlt : k < a.length
    · have hltb : k < b.length := by omega
      obtain ⟨x, hx⟩ : ∃ y, a[k]? = some y := ⟨_, List.getElem?_eq_getElem hlt⟩
      obtain ⟨y, hy⟩ : ∃ y, b[k]? = some y := ⟨_, List.getElem?_eq_getElem hltb⟩
      have hda : a.drop k = x :: a.drop (k + 1) := by
        obtain ⟨h1, h2⟩ := List.getElem?_eq_some_iff.1 hx
        rw [List.drop_eq_getElem_cons h1, h2]
      have hdb : b.drop k = y :: b.drop (k + 1) := by
        obtain ⟨h1, h2⟩ := List.getElem?_eq_some_iff.1 hy
        rw [List.drop_eq_getElem_cons h1, h2]
      rw [hda, hdb, List.cons_beq_cons] at he
      ((refine wqb (F := _∧_) ⟨@Int.ofNat_lt, hlt⟩ ?_))
      ((refine wia ?_))
      ((refine wsa ?_))
      ((repeat refine AW_seq ?_))
      refine AW_block ?_
      ((refine wqa ?_))
      ((repeat refine AW_seq ?_); (refine AW_drawn_k tab_ok follows_mixed 0 fun KR hKR => ?_); simp only [List.replicate_succ, List.replicate_zero, List.append_nil, List.nil_append, List.cons_append, List.length_cons, List.length_nil, Nat.reduceAdd])
      ((refine wdb (F := _∧_∧_∧_) ⟨hlt, hltb, hx, hy⟩ ?_))
      ((refine awD_nil ?_); simp only [List.reverse_cons, List.reverse_nil, List.nil_append, List.cons_append]; (refine hKR _ _ (by first | rfl | kernel_rfl) ?_); (try clear hKR KR); (repeat (with_reducible first | refine q1 ?_ | refine q2 ?_ | refine q3 ?_ | refine q4 ?_ | refine q5 ?_ | refine q6 ?_ | (refine q7 ?_ ?_; (focus (with_unfolding_all rfl))))))
      by_cases hxy : x = y
      · have e2 : (x != y) = false := by simp [hxy]
        have e3 : decide (x = y) = true := by simp [hxy]
        ((refine wib e3 ?_))
        ((refine wsa ?_))
        ((refine wqa ?_))
        refine ⟨(k + 1, t2 + 1), ⟨hlt, by rw [he, hxy, beq_self_eq_true, Bool.true_and]⟩, by show a.length - (k + 1) < a.length - k; omega, ?_⟩
        (simp (disch := omega) only [StLe, tmLe, hpLe_refl, hpLe, bl, bb, bt, zDs, zD, eqCells, simprocAttr])
      · have e2 : (x != y) = true := by simpa using hxy
        have e3 : decide (x = y) = false := by simpa using hxy
        ((refine wib e3 ?_))
        ((refine wqa ?_))
        ((repeat refine AW_seq ?_); (refine wta ?_); simp (disch := omega) only [retQ, resD, oneD, rsv, rs, rsL, rsL_eq_map, List.map_map, bb, bt, zDs, zD, eqCells, simprocAttr, Try.results48])
        rw [he, beq_eq_false_iff_ne.2 hxy]; rfl
    · ((refine wqb (F := _∧_) ⟨@Int.ofNat_lt, hlt⟩ ?_))
      ((refine wia ?_))
      ((refine wxa ?_))
      refine ⟨t2, ?_, by (simp (disch := omega) only [StLe, tmLe, hpLe_refl, hpLe, bl, bb, bt, zDs, zD, eqCells, simprocAttr])⟩
      rw [he, List.drop_eq_nil_of_le (by omega), List.drop_eq_nil_of_le (by omega)]; rfl
  · rintro t2 he
    ((refine wqa ?_))
    ((repeat refine AW_seq ?_); (refine wta ?_); simp (disch := omega) only [retQ, resD, oneD, rsv, rs, rsL, rsL_eq_map, List.map_map, bb, bt, zDs, zD, eqCells, simprocAttr, Try.results48])
    rw [he]
def hA16 : ByteArray := ⟨#[97]⟩
def hP16 : ByteArray := ⟨#[112]⟩
def hQ16 : ByteArray := ⟨#[113]⟩
theorem of16 (n : Int) : PRet Try.prog 98 [int n] (frD (n, 1)) := by
  refine PRet.intro 1 fun t => ACall.enter tab_ok Try.func98 rfl rfl Try.ntmps98 (by simp) ?_
  simp only [enterTM]
  ((refine gga0 ?_))
  ((repeat refine AW_seq ?_); (refine wta ?_); simp (disch := omega) only [retQ, resD, oneD, rsv, rs, rsL, rsL_eq_map, List.map_map, bb, bt, zDs, zD, eqCells, simprocAttr, Try.results98])
theorem end16 (b : ByteArray) (n : Int) : PRet Try.prog 149 [str b, int n] (.agg [str b, int n, int 1, int 1]) := by
  refine PRet.intro 1 fun t => ACall.enter tab_ok Try.func149 rfl rfl Try.ntmps149 (by simp) ?_
  simp only [enterTM]
  have hw := of16 1
  ((refine gga1 hw ?_))
  ((repeat refine AW_seq ?_); (refine wta ?_); simp (disch := omega) only [retQ, resD, oneD, rsv, rs, rsL, rsL_eq_map, List.map_map, bb, bt, zDs, zD, eqCells, simprocAttr, Try.results149])
def ex16 : Nat → Sy
  | 0 => ⟨[⟨hA16, 5⟩, ⟨hB, 5⟩], [⟨hP16, [⟨hA16, 1, 1, 1⟩, ⟨hE, 0, 1, 1⟩], false⟩, ⟨hQ16, [⟨hB, 1, 1, 1⟩, ⟨hE, 0, 1, 1⟩], false⟩, ⟨hR, [⟨hA16, 1, 1, 1⟩, ⟨hE, 0, 1, 1⟩, ⟨hB, 1, 1, 1⟩], false⟩]⟩
  | _ => ⟨[⟨hA16, 5⟩, ⟨hB, 5⟩], [⟨hR, [⟨hA16, 1, 1, 1⟩, ⟨hE, 0, 1, 1⟩, ⟨hB, 1, 1, 1⟩], false⟩]⟩
theorem example16_0 : PRet Try.prog 95 [int 0] (syD (ex16 0)) := by
  refine PRet.intro 3 fun t => ACall.enter tab_ok Try.func95 rfl rfl Try.ntmps95 (by simp) ?_
  simp only [enterTM]
  have w1 := end16 ⟨#[97]⟩ 1
  have w2 := end16 ⟨#[]⟩ 0
  have w3 := end16 ⟨#[98]⟩ 1
  ((refine gga3 w1 w2 w3 ?_))
  ((repeat refine AW_seq ?_); (refine wta ?_); simp (disch := omega) only [retQ, resD, oneD, rsv, rs, rsL, rsL_eq_map, List.map_map, bb, bt, zDs, zD, eqCells, simprocAttr, Try.results95])
  rfl
theorem example16_2 : PRet Try.prog 95 [int 2] (syD (ex16 2)) := by
  refine PRet.intro 3 fun t => ACall.enter tab_ok Try.func95 rfl rfl Try.ntmps95 (by simp) ?_
  simp only [enterTM]
  have w1 := end16 ⟨#[97]⟩ 1
  have w2 := end16 ⟨#[]⟩ 0
  have w3 := end16 ⟨#[98]⟩ 1
  ((refine gga3 w1 w2 w3 ?_))
  ((repeat refine AW_seq ?_); (refine wta ?_); simp (disch := omega) only [retQ, resD, oneD, rsv, rs, rsL, rsL_eq_map, List.map_map, bb, bt, zDs, zD, eqCells, simprocAttr, Try.results95])
  rfl
theorem ex16_fits (k : Nat) : Fits (ex16 k) := by
  cases k with
  | zero => exact small_fits (by decide +kernel)
  | succ k => exact small_fits (by show smallS (ex16 1) = true; decide +kernel)
theorem ex16_jam : jamP (ex16 0) = ([hA16, hB], 0) := by decide +kernel
theorem ex16_wit : witP (ex16 0) hR = ([(-1, 1), (-1, 1), (1, 1)], 0) := by decide +kernel
theorem ex16_modes : modesP (ex16 2) = ([[(-1, 1), (1, 1)]], 0) := by decide +kernel
set_option maxHeartbeats 2000000 in
theorem awake16 : PRet Try.prog 41 [] (bool true) := by
  refine PRet.intro 1 fun t => ACall.enter tab_ok Try.func41 rfl rfl Try.ntmps41 (by simp) ?_
  simp only [enterTM]
  have hJ : PRet Try.prog 45 [syD (ex16 0)] (.tup [.sl 1 [str hA16, str hB] false, int 0]) := by
    have := jammed_prog (ex16 0) (ex16_fits 0)
    rw [ex16_jam] at this
    exact this
  have hW : PRet Try.prog 96 [syD (ex16 0), .v (.string ⟨#[114]⟩)] (.tup [frs [(-1, 1), (-1, 1), (1, 1)], int 0]) := by
    have := witness_prog (ex16 0) (ex16_fits 0) hR
    rw [ex16_wit] at this
    exact this
  have hF : PRet Try.prog 44 [syD (ex16 2)] (.tup [int 1, int 0]) := by
    have := freedom_prog (ex16 2) (ex16_fits 2)
    rw [ex16_modes] at this
    exact this
  have hM : PRet Try.prog 97 [syD (ex16 2)] (.tup [.sl 1 [frs [(-1, 1), (1, 1)]] false, int 0]) := by
    have := modes_prog (ex16 2) (ex16_fits 2)
    rw [ex16_modes] at this
    exact this
  have w1 := of16 (-1)
  have w2 := of16 1
  have hS : PRet Try.prog 48 [.sl 1 [str hA16, str hB] false, .sl 1 [.v (.string ⟨#[97]⟩), .v (.string ⟨#[98]⟩)] false] (bool true) := equalStrs [hA16, hB] [hA16, hB] (by simp) (by simp)
  have hE3 : PRet Try.prog 38 [frs [(-1, 1), (-1, 1), (1, 1)], .sl 2 [int (-1), int 1, int (-1), int 1, int 1, int 1] false] (bool true) := equalFr [(-1, 1), (-1, 1), (1, 1)] [(-1, 1), (-1, 1), (1, 1)] (by simp) (by simp)
  have hE2 : PRet Try.prog 38 [frs [(-1, 1), (1, 1)], .sl 2 [int (-1), int 1, int 1, int 1] false] (bool true) := equalFr [(-1, 1), (1, 1)] [(-1, 1), (1, 1)] (by simp) (by simp)
  ((refine gga6_MQX example16_0 example16_2 hJ hW hF hM ?_))
  ((repeat refine AW_seq ?_); (refine gdza5_MQX w1 w2 hS hE3 hE2 ?_))
  ((repeat refine AW_seq ?_); (refine wta ?_); simp (disch := omega) only [retQ, resD, oneD, rsv, rs, rsL, rsL_eq_map, List.map_map, bb, bt, zDs, zD, eqCells, simprocAttr, Try.results41])
def longM (s : Sy) (nm : ByteArray) : Bool := !smallS s || decide ((60 : Int) < nm.size)
theorem long16 (s : Sy) (nm : ByteArray) : PRet Try.prog 42 [syD s, str nm] (bool (longM s nm)) := by
  refine PRet.intro 1 fun t => ACall.enter tab_ok Try.func42 rfl rfl Try.ntmps42 (by simp) ?_
  simp only [enterTM]
  have hS := small_ref s
  cases hs : smallS s
  · rw [hs] at hS
    have e : longM s nm = true := by simp [longM, hs]
    ((refine gga1 hS ?_))
    ((repeat refine AW_seq ?_); (refine wta ?_); simp (disch := omega) only [retQ, resD, oneD, rsv, rs, rsL, rsL_eq_map, List.map_map, bb, bt, zDs, zD, eqCells, simprocAttr, Try.results42, e])
  · rw [hs] at hS
    have e : longM s nm = decide ((60 : Int) < nm.size) := by simp [longM, hs]
    ((refine gga1 hS ?_))
    ((repeat refine AW_seq ?_); (refine wta ?_); simp (disch := omega) only [retQ, resD, oneD, rsv, rs, rsL, rsL_eq_map, List.map_map, bb, bt, zDs, zD, eqCells, simprocAttr, Try.results42, e])
end Go.Proofs.Ytjjpjgnoanfaoaa.T
end

section
namespace Go.Proofs.Ytjjpjgnoanfaoaa.T
open Go Go.RowKit Lin
set_option linter.unusedSimpArgs false

/-! Chapter 16: what its laws' own functions return. -/
def idxS (x : ByteArray) : List ByteArray → Nat → Int
  | [], _ => -1
  | y :: r, k => if x = y then k else idxS x r (k + 1)
theorem idxS_mem (x : ByteArray) : ∀ (l : List ByteArray) (k : Nat), decide (0 ≤ idxS x l k) = l.contains x
  | [], k => by simp [idxS]
  | y :: r, k => by
    have := idxS_mem x r (k + 1)
    rw [List.contains_cons, ← this]
    by_cases h : x = y
    · subst h; simp [idxS]
    · simp [idxS, h]
theorem indexStrs (l : List ByteArray) (x : ByteArray) (hl : l.length ≤ 1000000) : PRet Try.prog 112 [strsD l, str x] (int (idxS x l 0)) := by
  refine PRet.intro 1 fun t => ACall.enter tab_ok Try.func112 rfl rfl Try.ntmps112 (by simp) ?_
  simp only [enterTM]
  ((refine wqa ?_))
  ((refine wqa ?_))
  ((repeat refine AW_seq ?_))
  refine AW_block ?_
  refine AW_loop_w (fun k : Nat => ⟨[(0, strsD l), (1, str x), (7, int l.length), (8, int k)], [], t⟩) (fun k => l.length - k) (fun k => k ≤ l.length ∧ idxS x l 0 = idxS x (l.drop k) k) 0 ⟨Nat.zero_le _, rfl⟩ (by (simp (disch := omega) only [StLe, tmLe, hpLe_refl, hpLe, bl, bb, bt, zDs, zD, eqCells, simprocAttr])) fun k ⟨hk, hi⟩ => ?_
  by_cases hlt : k < l.length
  · obtain ⟨y, hy⟩ : ∃ y, l[k]? = some y := ⟨_, List.getElem?_eq_getElem hlt⟩
    have hd : l.drop k = y :: l.drop (k + 1) := by
      obtain ⟨h1, h2⟩ := List.getElem?_eq_some_iff.1 hy
      rw [List.drop_eq_getElem_cons h1, h2]
    rw [hd] at hi
    ((refine wqb (F := _∧_) ⟨@Int.ofNat_lt, hlt⟩ ?_))
    ((refine wia ?_))
    ((refine wsa ?_))
    ((repeat refine AW_seq ?_))
    refine AW_block ?_
    ((refine wqa ?_))
    by_cases hxy : x = y
    · have e1 : (x == y) = true := by simp [hxy]
      have e2 : decide (y = x) = true := by simp [hxy]
      have e3 : decide (x = y) = true := by simp [hxy]
      ((refine wqb (F := _∧_∧_∧_∧_) ⟨hlt, hy, e1, e2, e3⟩ ?_))
      ((refine wia ?_))
      ((refine wqa ?_))
      ((repeat refine AW_seq ?_); (refine wta ?_); simp (disch := omega) only [retQ, resD, oneD, rsv, rs, rsL, rsL_eq_map, List.map_map, bb, bt, zDs, zD, eqCells, simprocAttr, Try.results112, hi])
      simp only [idxS, hxy, if_true]
    · have e1 : (x == y) = false := by simpa using hxy
      have e2 : decide (y = x) = false := by simpa using Ne.symm hxy
      have e3 : decide (x = y) = false := by simpa using hxy
      ((refine wqb (F := _∧_∧_∧_∧_) ⟨hlt, hy, e1, e2, e3⟩ ?_))
      ((refine wia ?_))
      ((refine wsa ?_))
      ((refine wqa ?_))
      refine ⟨k + 1, ⟨hlt, by rw [hi]; simp only [idxS]; rw [if_neg hxy]⟩, by omega, ?_⟩
      (simp (disch := omega) only [StLe, tmLe, hpLe_refl, hpLe, bl, bb, bt, zDs, zD, eqCells, simprocAttr])
  · ((refine wqb (F := _∧_) ⟨@Int.ofNat_lt, hlt⟩ ?_))
    ((refine wia ?_))
    ((refine wxa ?_))
    ((refine wqa ?_))
    ((repeat refine AW_seq ?_); (refine wta ?_); simp (disch := omega) only [retQ, resD, oneD, rsv, rs, rsL, rsL_eq_map, List.map_map, bb, bt, zDs, zD, eqCells, simprocAttr, Try.results112, hi])
    rw [List.drop_eq_nil_of_le (by omega)]; rfl
theorem containsStrs (l : List ByteArray) (x : ByteArray) (hl : l.length ≤ 1000000) : PRet Try.prog 50 [strsD l, str x] (bool (l.contains x)) := by
  refine PRet.intro 1 fun t => ACall.enter tab_ok Try.func50 rfl rfl Try.ntmps50 (by simp) ?_
  simp only [enterTM]
  ((refine wqa ?_))
  ((repeat refine AW_seq ?_); (refine AW_region_k tab_ok fun KR hKR => ?_)); ((refine wra ?_))
  ((refine wka1 (indexStrs l x hl) ?_))
  ((refine wra ?_)); ((refine wea ?_); (try clear hKR KR))
  ((repeat refine AW_seq ?_); (refine wta ?_); simp (disch := omega) only [retQ, resD, oneD, rsv, rs, rsL, rsL_eq_map, List.map_map, bb, bt, zDs, zD, eqCells, simprocAttr, Try.results50])
  rw [← idxS_mem x l 0]
end Go.Proofs.Ytjjpjgnoanfaoaa.T
end

section
namespace Go.Proofs.Ytjjpjgnoanfaoaa.T
open Go Go.RowKit Lin
set_option linter.unusedSimpArgs false

/-! Chapter 16: sums of numbers times fractions. -/
/-! What the modes are (plain). -/
theorem modes_val {m : List (List Int)} (hv : validP m = true) {v : List (Int × Int)} (hmem : v ∈ (nullP m).1) : (v.any fun x => x.1 != 0) = true ∧ ∃ Z D, D ≠ 0 ∧ Ker m Z ∧ ∀ (k : Nat) (f : Int × Int), v[k]? = some f → Val f (Z k) D := by
  unfold nullP at hmem
  rw [if_pos hv] at hmem
  simp only at hmem
  obtain ⟨h1, h2, h3⟩ := validP_iff.1 hv
  have hs := valid_small hv
  have iv := elim_inv (ups_mover m (wid m)) hs.lens (wid m) (Nat.le_refl _)
  rw [← elim_by] at iv
  have in2 := iv.small2 hs (Nat.le_refl _)
  have hd2 := iv.den_small2 hs (Nat.le_refl _)
  generalize elim m (wid m) = f at *
  obtain ⟨c, hcn, hc, rfl⟩ := nulls_mem f (wid m) (wid m) v hmem
  have ok : ∀ k c, k < f.pivots.length → c < wid m → (makeP (-(Lin.at_ (Lin.row f.rows k) c)) f.den).2 = 0 := fun k c hk hc => by
    have := in2 k c hk hc
    exact makeP_ok (by omega) hd2 iv.den0
  obtain ⟨q1', q2'⟩ := nvec_q iv ok hcn f.pivots.length (Nat.le_refl _)
  have ho := nvec_one iv hcn hc f.pivots.length (Nat.le_refl _)
  refine ⟨List.any_eq_true.2 ⟨_, List.mem_of_getElem? ho, by decide⟩, nX f c f.pivots.length, f.den, iv.den0, fun r hr => ?_, fun k p hp => ⟨allV_at q1' hp, iv.den0, q2' k p hp⟩⟩
  rw [nX_sum iv hcn hc (Lin.at_ r) f.pivots.length (Nat.le_refl _), van_sum iv hcn (iv.van_lt hcn) hr]
  omega
theorem modes_count {m : List (List Int)} (hv : validP m = true) : (nullP m).1.length + rankP m (wid m) = wid m ∧ (nullP m).2 = 0 := by
  have hs := valid_small hv
  have iv := elim_inv (ups_mover m (wid m)) hs.lens (wid m) (Nat.le_refl _)
  rw [← elim_by] at iv
  unfold nullP
  rw [if_pos hv]
  exact ⟨nulls_rank iv, rfl⟩
/-- What the law asks of the modes. -/
theorem modes_law {s : Sy} (hv : validS s = true) : (modesP s).2 = 0 ∧ (fixA s ≠ [] → ((modesP s).1.length : Int) = (s.bs.length : Int) - (rankP (rowsF s (fixA s)) (wid (rowsF s (fixA s))) : Int)) ∧ (fixA s = [] → (modesP s).1.length = s.bs.length) ∧ ∀ v ∈ (modesP s).1, (v.any fun x => x.1 != 0) = true ∧ ∃ (Z : Nat → Int) (D : Int), D ≠ 0 ∧ (∀ r ∈ rowsF s (fixA s), sumN (fun k => Lin.at_ r k * Z k) r.length = 0) ∧ ∀ (k : Nat) (f : Int × Int), v[k]? = some f → Val f (Z k) D := by
  have ok := validS_ok hv
  have hr6 := ok.r6
  have hfl := fixP_len s.rs (-1) s.rs.length
  refine ⟨(modesP_facts s).2.2.2 hv, fun h0 => ?_, fun h0 => ?_, fun v hm => ?_⟩
  · obtain ⟨rv, rw', rm⟩ := rowsF_valid ok h0 (by unfold fixA; omega) (fun i hi => fixP_lt hi)
    have e : modesP s = nullP (rowsF s (fixA s)) := by simp [modesP, hv, h0]
    rw [e]
    have := (modes_count rv).1
    omega
  · simp [modesP, hv, h0, unitM]
  · by_cases h0 : fixA s = []
    · have e : modesP s = (unitM s.bs.length, 0) := by simp [modesP, hv, h0]
      rw [e] at hm
      obtain ⟨i, hi, rfl⟩ := List.mem_map.1 hm
      rw [List.mem_range] at hi
      refine ⟨List.any_eq_true.2 ⟨(1, 1), ?_, by decide⟩, fun k => if k = i then 1 else 0, 1, by decide, fun r hr => ?_, fun k f hf => ?_⟩
      · unfold unitR
        exact List.mem_map.2 ⟨i, List.mem_range.2 hi, by simp⟩
      · rw [h0] at hr
        simp [rowsF] at hr
      · unfold unitR at hf
        rw [List.getElem?_map] at hf
        by_cases hk : k < s.bs.length
        · rw [List.getElem?_range hk] at hf
          simp only [Option.map_some, Option.some.injEq] at hf
          subst hf
          by_cases e : k = i
          · simp only [e, if_true]; exact Val.one (by decide)
          · simp only [e, if_false]; exact Val.one (by decide)
        · rw [List.getElem?_eq_none (by simp; omega)] at hf
          simp at hf
    · obtain ⟨rv, rw', rm⟩ := rowsF_valid ok h0 (by unfold fixA; omega) (fun i hi => fixP_lt hi)
      have e : modesP s = nullP (rowsF s (fixA s)) := by simp [modesP, hv, h0]
      rw [e] at hm
      obtain ⟨a, Z, D, hD, hK, hX⟩ := modes_val rv hm
      refine ⟨a, Z, D, hD, fun r hr => ?_, hX⟩
      rw [(rm r hr).2, ← rw']
      exact hK r hr
end Go.Proofs.Ytjjpjgnoanfaoaa.T
end
end

section
namespace Go.Proofs.Ytjjpjgnoanfaoaa.T
open Go Go.RowKit Lin
set_option linter.unusedSimpArgs false

/-! Chapter 16: redundant ropes. -/
def redB (s : Sy) (L : List Nat) (k : Nat) : Bool := rkF s (L.eraseIdx k) == rkF s L
def redN (s : Sy) (L : List Nat) (k : Nat) : List ByteArray := ((List.range k).filter (redB s L)).map fun i => (s.rs.getD (L.getD i 0) ⟨ByteArray.empty, [], false⟩).nm
theorem redN_step {s : Sy} {L : List Nat} {k i : Nat} {r : Rp} (hL : L[k]? = some i) (hr : s.rs[i]? = some r) : redN s L (k + 1) = if redB s L k = true then redN s L k ++ [r.nm] else redN s L k := by
  unfold redN
  rw [List.range_succ, List.filter_append, List.map_append]
  have e : (s.rs.getD (L.getD k 0) ⟨ByteArray.empty, [], false⟩).nm = r.nm := by
    rw [List.getD_eq_getElem?_getD (l := L), hL, Option.getD_some, List.getD_eq_getElem?_getD, hr]; rfl
  cases h : redB s L k
  · rw [List.filter_cons_of_neg (by simp [h])]
    simp
  · rw [List.filter_cons_of_pos (by simp [h]), List.filter_nil, List.map_cons, List.map_nil, e]
    simp
theorem redN_len (s : Sy) (L : List Nat) (k : Nat) : (redN s L k).length ≤ k := by
  have := List.length_filter_le (redB s L) (List.range k)
  simpa [redN] using this
def redP (s : Sy) : List ByteArray × Int := if validS s = true then (redN s (fixA s) (fixA s).length, 0) else ([], 1)
theorem rpC_get : ∀ (l : List Rp) (i : Nat) (r : Rp), l[i]? = some r → (rpC l)[i * 3]? = some (str r.nm)
  | [], i, r, h => by simp at h
  | x :: l, 0, r, h => by
    simp at h; subst h; rfl
  | x :: l, i + 1, r, h => by
    have := rpC_get l i r (by simpa using h)
    show (str x.nm :: hds x.hs :: bool x.hl :: rpC l)[(i + 1) * 3]? = _
    rw [show (i + 1) * 3 = i * 3 + 1 + 1 + 1 by omega, List.getElem?_cons_succ, List.getElem?_cons_succ, List.getElem?_cons_succ]
    exact this
theorem rpC_one {l : List Rp} {i : Nat} {r : Rp} (h : l[i]? = some r) : ((rpC l).drop (i * 3)).take 1 = [str r.nm] := by
  have := rpC_get l i r h
  obtain ⟨h1, h2⟩ := List.getElem?_eq_some_iff.1 this
  rw [List.drop_eq_getElem_cons h1, h2]
  rfl
set_option maxHeartbeats 4000000 in
theorem redundant_call (s : Sy) (hf : Fits s) (hv : validS s = true) (t : Nat) : ACall Try.prog 46 [syD s] [] t (fun d H' _ => ∃ b g, d = .tup [.own 1 b g 0 (redP s).1.length, int 0] ∧ H'[b]? = some (some ⟨9, g, (redP s).1.map str⟩)) := by
  refine ACall.enter tab_ok Try.func46 rfl rfl Try.ntmps46 (by simp) ?_
  simp only [enterTM]
  have hO := of_prog s hf
  have hdr := rpC_div s.rs
  rw [hv] at hO
  simp only [if_true] at hO
  have e : redP s = (redN s (fixA s) (fixA s).length, 0) := by simp [redP, hv]
  have ok := validS_ok hv
  have hr6 := ok.r6
  have hfl := fixP_len s.rs (-1) s.rs.length
  have hlt : ∀ j ∈ fixA s, j < s.rs.length := fun j hj => fixP_lt hj
  replace hfl : (fixA s).length ≤ 6 := Nat.le_trans hfl hr6
  rw [e]
  clear e
  generalize fixA s = L at *
  have hnl := nums_len L
  have hrl := rowsF_len s L
  have hR2 := rank_rows ok hfl hlt
  ((refine ggb1 hnl hO ?_))
  refine AW.begin 6 1 9 rfl (by decide) ?_
  simp only [putTM, List.length_cons, List.length_nil, Nat.reduceEqDiff, ↓reduceIte, List.cons_append, List.nil_append]
  refine AW_mid (fun x : Nat × Nat => ⟨[(6, .own 1 2 x.1 0 (redN s L L.length).length)], [none, none, some ⟨9, x.1, (redN s L L.length).map str⟩], x.2⟩) (fun _ => True) ?_ ?_
  · refine AW_block ?_
    refine AW_loop_w (fun x : Nat × Nat × Nat => ⟨[(1, .ptr 0 (t + 1) 0), (4, .ptr 1 (t + 1 + 1) 0), (6, .own 1 2 x.2.1 0 (redN s L x.1).length), (18, ints (nums L)), (19, int L.length), (20, int x.1)], [some ⟨49, t + 1, [bks s.bs, rps s.rs]⟩, some ⟨139, t + 1 + 1, [ints (nums L), mat (rowsF s L)]⟩, some ⟨9, x.2.1, (redN s L x.1).map str⟩], x.2.2⟩) (fun x => L.length - x.1) (fun x => x.1 ≤ L.length) (0, t + 1 + 1 + 1, t + 1 + 1 + 1) (Nat.zero_le _) (by (simp (disch := omega) only [StLe, tmLe, hpLe_refl, hpLe, bl, bb, bt, zDs, zD, eqCells, simprocAttr, redN, List.range_zero, List.filter_nil, List.map_nil, List.length_nil])) ?_
    rintro ⟨k, g, tt⟩ hk
    simp only at hk
    by_cases hkl : k < L.length
    · obtain ⟨i, hLk⟩ : ∃ y, L[k]? = some y := ⟨_, List.getElem?_eq_getElem hkl⟩
      have hil := hlt i (List.mem_of_getElem? hLk)
      obtain ⟨r, hr⟩ : ∃ y, s.rs[i]? = some y := ⟨_, List.getElem?_eq_getElem hil⟩
      have hra := rpC_get s.rs i r hr
      have hrb := rpC_one hr
      have hnk : (nums L)[k]? = some (i : Int) := by unfold nums; rw [List.getElem?_map, hLk]; rfl
      have hkn : k < (nums L).length := by omega
      have hst := redN_step hLk hr
      have hjl := redN_len s L k
      have hel : (L.eraseIdx k).length = L.length - 1 := List.length_eraseIdx_of_lt hkl
      have hW := without_ret (nums L) (rowsF s L) k (by omega) (by omega)
      rw [rowsF_erase] at hW
      have hR1 := rank_rows ok (L := L.eraseIdx k) (by omega) (fun j hj => hlt j (List.mem_of_mem_eraseIdx hj))
      unfold redB at hst
      generalize rkF s (L.eraseIdx k) = A at *
      generalize rkF s L = B at *
      generalize redN s L k = J at *
      have hcast : ((A : Int) == (B : Int)) = (A == B) := by rw [Bool.eq_iff_iff]; simp; omega
      cases hab : (A == B)
      · rw [hab] at hst hcast
        ((refine ggb0 (F := _∧_) ⟨@Int.ofNat_lt, hkl⟩ ?_))
        ((repeat refine AW_seq ?_))
        refine AW_block ?_
        ((refine ggb0 (F := _∧_) ⟨hkn, hnk⟩ ?_))
        ((repeat refine AW_seq ?_); (refine gdzb3_MQX hcast hW hR1 hR2 ?_))
        ((refine gga0 ?_))
        refine ⟨(k + 1, g, tt + 1), hkl, by show L.length - (k + 1) < L.length - k; omega, ?_⟩
        simp only [hst, Bool.false_eq_true, if_false]
        (simp (disch := omega) only [StLe, tmLe, hpLe_refl, hpLe, bl, bb, bt, zDs, zD, eqCells, simprocAttr])
      · rw [hab] at hst hcast
        ((refine ggb0 (F := _∧_) ⟨@Int.ofNat_lt, hkl⟩ ?_))
        ((repeat refine AW_seq ?_))
        refine AW_block ?_
        ((refine ggb0 (F := _∧_) ⟨hkn, hnk⟩ ?_))
        ((repeat refine AW_seq ?_); (refine gdzb3_MQX hcast hW hR1 hR2 ?_))
        ((refine ggb0 (F := _∧_∧_∧_) ⟨hdr, hil, hra, hrb⟩ ?_))
        refine ⟨(k + 1, tt + 1 + 1, tt + 1 + 1), hkl, by show L.length - (k + 1) < L.length - k; omega, ?_⟩
        simp only [hst, if_true, List.length_append, List.length_cons, List.length_nil, List.map_append, List.map_cons, List.map_nil]
        (simp (disch := omega) only [StLe, tmLe, hpLe_refl, hpLe, bl, bb, bt, zDs, zD, eqCells, simprocAttr])
    · have hke : k = L.length := by omega
      subst hke
      ((refine wqb @Int.lt_irrefl ?_))
      ((refine wia ?_))
      ((refine wxa ?_))
      exact ⟨(g, tt), trivial, by (simp (disch := omega) only [StLe, tmLe, hpLe_refl, hpLe, bl, bb, bt, zDs, zD, eqCells, simprocAttr])⟩
  rintro ⟨g, tt⟩ -
  generalize redN s L L.length = J at *
  ((refine gga0 ?_))
  ((repeat refine AW_seq ?_); (refine wta ?_); simp (disch := omega) only [retQ, resD, oneD, bb, bt, zDs, zD, eqCells, simprocAttr, Try.results46])
  exact ⟨2, g, rfl, rfl⟩
theorem redundant_prog (s : Sy) (hf : Fits s) : PRet Try.prog 46 [syD s] (.tup [strsD (redP s).1, int (redP s).2]) := by
  cases hv : validS s
  · refine PRet.intro 1 fun t => ACall.enter tab_ok Try.func46 rfl rfl Try.ntmps46 (by simp) ?_
    simp only [enterTM]
    have hO := of_prog s hf
    rw [hv] at hO
    simp only [Bool.false_eq_true, if_false] at hO
    have e : redP s = ([], 1) := by simp [redP, hv]
    ((refine gga1 hO ?_))
    ((repeat refine AW_seq ?_); (refine wta ?_); simp (disch := omega) only [retQ, resD, oneD, rsv, rs, rsL, rsL_eq_map, List.map_map, bb, bt, zDs, zD, eqCells, simprocAttr, Try.results46, e])
    rfl
  · have e2 : (redP s).2 = 0 := by simp [redP, hv]
    rw [e2]
    refine PRet.intro 2 fun t => (redundant_call s hf hv t).mono ?_
    rintro d H' t' ⟨b, g, rfl, hb⟩
    generalize (redP s).1 = J at *
    simp only [rsv, rs, hb, if_true, rsL]
    have hfin : List.take J.length (J.map str) = J.map str := List.take_of_length_le (by simp)
    have ht : rsL (fun _ => D.any) H' (J.map str) = J.map str := rsL_tidy _ _ _ (tidy_strs _)
    rw [rsL_eq_map] at ht
    simp [hfin]
    intro a ha
    exact rs_tidy _ _ _ rfl
/-! Chapter 16: a witness proves that a rope is redundant (plain). -/
theorem isRank_mem {A B : List Row} {n r : Nat} (h : IsRank A n r) (e : ∀ x, x ∈ A ↔ x ∈ B) : IsRank B n r := by
  obtain ⟨S, C, k1, k2, k3, k4, k5, k6⟩ := h
  exact ⟨S, C, fun s hs => (e s).1 (k1 s hs), k2, k3, k4, k5, fun j hj y hy => k6 j hj y ((e y).2 hy)⟩
/-! MobilityProves. -/
theorem fixA_nodup (s : Sy) : (fixA s).Nodup := List.nodup_range.filter _
theorem fixA_le {s : Sy} (ok : OkS s) : (fixA s).length ≤ 6 := by
  have hr6 := ok.r6
  have hfl := fixP_len s.rs (-1) s.rs.length
  unfold fixA
  omega
theorem redP_len {s : Sy} (hv : validS s = true) : (redP s).1.length ≤ 6 := by
  have := fixA_le (validS_ok hv)
  have h2 := redN_len s (fixA s) (fixA s).length
  have eR : (redP s).1 = redN s (fixA s) (fixA s).length := by simp [redP, hv]
  rw [eR]
  omega
end Go.Proofs.Ytjjpjgnoanfaoaa.T
end

namespace Go.Proofs.Ytjjpjgnoanfaoaa.T
open Go Go.RowKit Lin
set_option linter.unusedSimpArgs false

/-! Chapter 16: a system without a rope. -/
/-! Chapter 16: what vanishes, and what depends on the set of the fixed ropes alone (plain). -/
theorem nulls_has (f : Frm) (n : Nat) : ∀ c d, d < c → f.pivots.contains d = false → nvec f n d f.pivots.length ∈ nulls f n c
  | 0, d, h, _ => by omega
  | c + 1, d, h, hd => by
    simp only [nulls]
    by_cases e : d = c
    · subst e
      rw [hd]
      simp
    · have ih := nulls_has f n c d (by omega) hd
      split
      · exact ih
      · exact List.mem_append_left _ ih
theorem nX_at {f : Frm} (hnd : f.pivots.Pairwise (· < ·)) {c i p : Nat} (hp : f.pivots[i]? = some p) : ∀ k, i < k → k ≤ f.pivots.length → nX f c k p = -(at_ (Lin.row f.rows i) c)
  | 0, h, _ => by omega
  | k + 1, h, hk => by
    simp only [nX]
    by_cases e : i = k
    · subst e
      rw [hp, Option.getD_some, if_pos rfl]
    · rw [if_neg, nX_at hnd hp k (by omega) (by omega)]
      have hi := (List.getElem?_eq_some_iff.1 hp)
      obtain ⟨hil, hie⟩ := hi
      rw [List.getElem?_eq_getElem (show k < f.pivots.length by omega), Option.getD_some]
      have := List.pairwise_iff_getElem.1 hnd i k hil (by omega) (by omega)
      omega
/-- What is 0 in all null vectors is 0 in all that the rows send to 0. -/
theorem null_all_zero {m : List (List Int)} (hv : validP m = true) {k : Nat} (hk : k < wid m) (hz : ∀ v ∈ (nullP m).1, (v.getD k (0, 0)).1 = 0) {Z : Nat → Int} (hZ : Ker m Z) : Z k = 0 := by
  have hs := valid_small hv
  have iv := elim_inv (ups_mover m (wid m)) hs.lens (wid m) (Nat.le_refl _)
  rw [← elim_by] at iv
  have in2 := iv.small2 hs (Nat.le_refl _)
  have hd2 := iv.den_small2 hs (Nat.le_refl _)
  have e0 : (nullP m).1 = nulls (elim m (wid m)) (wid m) (wid m) := by unfold nullP; rw [if_pos hv]
  rw [e0] at hz
  generalize elim m (wid m) = f at *
  cases hc : f.pivots.contains k
  · have h1 := hz _ (nulls_has f (wid m) (wid m) k hk hc)
    rw [List.getD_eq_getElem?_getD, nvec_one iv hk hc f.pivots.length (Nat.le_refl _)] at h1
    simp at h1
  · obtain ⟨i, hi⟩ := List.mem_iff_getElem?.1 (List.contains_iff_mem.1 hc)
    obtain ⟨hil, hie⟩ := List.getElem?_eq_some_iff.1 hi
    have hCC : CC f = (f.pivots.drop (i + 1)).reverse ++ k :: (f.pivots.take i).reverse := by
      have e : f.pivots = f.pivots.take i ++ k :: f.pivots.drop (i + 1) := by
        conv => lhs; rw [← List.take_append_drop i f.pivots, List.drop_eq_getElem_cons hil, hie]
      unfold CC
      conv => lhs; rw [e]
      simp
    have hpost : (f.pivots.take i).reverse.length = i := by simp; omega
    have hpv := fun j (hj : j < wid m) => iv.piv _ _ k hCC j hj
    rw [hpost] at hpv
    have hSS : ∀ r ∈ SS m f, phi Z 0 (wid m) r = 0 := fun r hr => by
      obtain ⟨s, hs', rfl⟩ := SS_mem iv r hr
      unfold phi
      rw [hZ s hs']
      simp
    have h0 := phi_span (w_span_at (SS m f) (f.pivots.drop (i + 1)).reverse (f.pivots.take i).reverse) hSS
    unfold phi at h0
    simp only [Int.zero_mul, Int.sub_zero] at h0
    have hsum : sumN (fun j => w (SS m f) ((f.pivots.drop (i + 1)).reverse ++ j :: (f.pivots.take i).reverse) * Z j) (wid m) = Z k * f.den := by
      have e : ∀ j, j < wid m → w (SS m f) ((f.pivots.drop (i + 1)).reverse ++ j :: (f.pivots.take i).reverse) * Z j = Z j * (if j = k then f.den else 0) := fun j hj => by
        by_cases hjk : j = k
        · subst hjk
          rw [if_pos rfl, ← hCC, ← iv.den, Int.mul_comm]
        · rw [if_neg hjk, Int.mul_zero]
          cases hcj : f.pivots.contains j
          · rw [← hpv j hj]
            have ok : ∀ k c, k < f.pivots.length → c < wid m → (makeP (-(at_ (Lin.row f.rows k) c)) f.den).2 = 0 := fun k c hk hc => by
              have := in2 k c hk hc
              exact makeP_ok (by omega) hd2 iv.den0
            obtain ⟨q1', q2'⟩ := nvec_q iv ok hj f.pivots.length (Nat.le_refl _)
            have hvm := hz _ (nulls_has f (wid m) (wid m) j hj hcj)
            have hvl := nvec_len f (wid m) j f.pivots.length
            obtain ⟨p, hp⟩ : ∃ y, (nvec f (wid m) j f.pivots.length)[k]? = some y := ⟨_, List.getElem?_eq_getElem (by omega)⟩
            rw [List.getD_eq_getElem?_getD, hp, Option.getD_some] at hvm
            have h2 := q2' k p hp
            rw [hvm, Int.zero_mul, nX_at iv.nd hi _ hil (Nat.le_refl _)] at h2
            have hp2 := vfrac_ne (allV_at q1' hp)
            rcases Int.mul_eq_zero.1 h2.symm with h3 | h3
            · rw [show at_ (Lin.row f.rows i) j = 0 by omega, Int.zero_mul]
            · exact absurd h3 hp2
          · rw [piv_same (ci := k) (d := j) ?_ hjk, Int.zero_mul]
            rw [← hCC]
            unfold CC
            exact List.mem_reverse.2 (List.contains_iff_mem.1 hcj)
      rw [sumN_congr (wid m) e, sumN_one Z k f.den (wid m) hk]
    rw [hsum] at h0
    rcases Int.mul_eq_zero.1 h0 with e | e
    · exact e
    · exact absurd e iv.den0
/-- Which blocks move. -/
theorem moves_iff {s : Sy} (hv : validS s = true) {k : Nat} (hk : k < s.bs.length) : (modesP s).1.any (movB k) = true ↔ ∃ Z : Nat → Int, (∀ r ∈ rowsF s (fixA s), sumN (fun j => at_ r j * Z j) s.bs.length = 0) ∧ Z k ≠ 0 := by
  have ok := validS_ok hv
  obtain ⟨_, _, _, ml⟩ := modes_law hv
  obtain ⟨z1, _, _⟩ := modesP_facts s
  have hrl : ∀ r ∈ rowsF s (fixA s), r.length = s.bs.length := fun r hr => by
    obtain ⟨i, hi, rfl⟩ := List.mem_map.1 hr
    rw [trS_getD s (fixP_lt hi)]
    simp [colP, ok.mat_len]
  constructor
  · intro h
    obtain ⟨v, hvm, hm⟩ := List.any_eq_true.1 h
    obtain ⟨_, Z, D, hD, hK, hX⟩ := ml v hvm
    have hvl := z1 v hvm
    obtain ⟨f, hf⟩ : ∃ y, v[k]? = some y := ⟨_, List.getElem?_eq_getElem (by omega)⟩
    refine ⟨Z, fun r hr => by rw [← hrl r hr]; exact hK r hr, fun e => ?_⟩
    have hx := (hX k f hf).e
    rw [e, Int.zero_mul] at hx
    unfold movB at hm
    rw [List.getD_eq_getElem?_getD, hf, Option.getD_some] at hm
    rcases Int.mul_eq_zero.1 hx with h1 | h1
    · rw [h1] at hm; simp at hm
    · exact hD h1
  · rintro ⟨Z, hZ, hne⟩
    refine Classical.byContradiction fun hno => hne ?_
    have hall : ∀ v ∈ (modesP s).1, (v.getD k (0, 0)).1 = 0 := fun v hvm => by
      refine Classical.byContradiction fun hx => hno (List.any_eq_true.2 ⟨v, hvm, ?_⟩)
      unfold movB
      simpa using hx
    by_cases h0 : fixA s = []
    · have e : modesP s = (unitM s.bs.length, 0) := by simp [modesP, hv, h0]
      rw [e] at hall
      have := hall (unitR s.bs.length k) (List.mem_map.2 ⟨k, List.mem_range.2 hk, rfl⟩)
      unfold unitR at this
      rw [List.getD_eq_getElem?_getD, List.getElem?_map, List.getElem?_range hk] at this
      simp at this
    · obtain ⟨rv, rw', rm⟩ := rowsF_valid ok h0 (fixA_le ok) (fun i hi => fixP_lt hi)
      have e : modesP s = nullP (rowsF s (fixA s)) := by simp [modesP, hv, h0]
      rw [e] at hall
      exact null_all_zero rv (by omega) hall (fun r hr => by rw [rw']; exact hZ r hr)
/-! The fixed ropes as a list. -/
def rowR (bs : List Bk) (r : Rp) : List Int := bs.map fun b => pull b.nm r.hs
def fxR (s : Sy) : List Rp := s.rs.filter fun r => !r.hl
theorem colP_row {s : Sy} {i : Nat} {r : Rp} (hr : s.rs[i]? = some r) : colP (matS s) i = rowR s.bs r := by
  unfold colP matS rowR
  rw [List.map_map]
  refine List.map_congr_left fun b _ => ?_
  simp [at_, hr]
theorem fxR_take (s : Sy) : ∀ k, k ≤ s.rs.length → (fixP s.rs (-1) k).map (fun i => s.rs[i]?) = ((s.rs.take k).filter fun r => !r.hl).map some
  | 0, _ => rfl
  | k + 1, hk => by
    obtain ⟨r, hr⟩ : ∃ y, s.rs[k]? = some y := ⟨_, List.getElem?_eq_getElem (by omega)⟩
    have ih := fxR_take s k (by omega)
    rw [fixP_step hr, List.take_add_one, hr, Option.toList_some, List.filter_append, List.map_append, ← ih]
    cases hh : r.hl
    · have hk1 : (!((k : Int) == -1)) = true := by simp
      rw [if_pos (by simpa using hk1), List.map_append]
      simp [hr, hh]
    · simp [hh]
theorem fxR_get (s : Sy) : (fixA s).map (fun i => s.rs[i]?) = (fxR s).map some := by
  have := fxR_take s s.rs.length (Nat.le_refl _)
  rw [List.take_length] at this
  exact this
theorem fxR_at {s : Sy} {k : Nat} {r : Rp} : (fxR s)[k]? = some r ↔ ∃ i, (fixA s)[k]? = some i ∧ s.rs[i]? = some r := by
  have h := congrArg (·[k]?) (fxR_get s)
  simp only [List.getElem?_map] at h
  constructor
  · intro hr
    rw [hr] at h
    cases hi : (fixA s)[k]? with
    | none => rw [hi] at h; simp at h
    | some i => rw [hi] at h; exact ⟨i, rfl, by simpa using h⟩
  · rintro ⟨i, hi, hr⟩
    rw [hi] at h
    simp only [Option.map_some, hr] at h
    cases hx : (fxR s)[k]? with
    | none => rw [hx] at h; simp at h
    | some q => rw [hx] at h; simp at h; rw [h]
theorem fxR_len (s : Sy) : (fxR s).length = (fixA s).length := by
  have := congrArg List.length (fxR_get s)
  simpa using this.symm
theorem rowsF_fx (s : Sy) : rowsF s (fixA s) = (fxR s).map (rowR s.bs) := by
  refine List.ext_getElem? fun k => ?_
  unfold rowsF
  rw [List.getElem?_map, List.getElem?_map]
  cases hi : (fixA s)[k]? with
  | none =>
    have : (fixA s).length ≤ k := List.getElem?_eq_none_iff.1 hi
    rw [List.getElem?_eq_none (by rw [fxR_len]; omega)]
    rfl
  | some i =>
    have hil : i < s.rs.length := fixP_lt (List.mem_of_getElem? hi)
    obtain ⟨r, hr⟩ : ∃ y, s.rs[i]? = some y := ⟨_, List.getElem?_eq_getElem hil⟩
    rw [fxR_at.2 ⟨i, hi, hr⟩]
    simp only [Option.map_some]
    rw [trS_getD s hil, colP_row hr]
/-! The rank of some ropes' rows. -/
def rkB (bs : List Bk) (M : List Rp) : Nat := rankP (M.map (rowR bs)) bs.length
theorem rkB_is {s : Sy} (ok : OkS s) {M : List Rp} (hM : M.length ≤ 6) (h : ∀ r ∈ M, r ∈ s.rs) : IsRank ((M.map (rowR s.bs)).map at_) s.bs.length (rkB s.bs M) := by
  have hent : ∀ r ∈ M.map (rowR s.bs), r.length = s.bs.length ∧ ∀ x ∈ r, -32 ≤ x ∧ x ≤ 32 := fun r hr => by
    obtain ⟨q, hq, rfl⟩ := List.mem_map.1 hr
    refine ⟨by simp [rowR], fun x hx => ?_⟩
    obtain ⟨b, _, rfl⟩ := List.mem_map.1 hx
    have h1 := pull_bound (nm := b.nm) (ok.pulls q (h q hq))
    have h2 := (ok.holds q (h q hq)).2.1
    omega
  exact rk_isRank ⟨by simpa using hM, fun r hr => (hent r hr).1, Nat.le_refl _, fun r hr j _ => at_bound (by decide) (hent r hr).2 j, fun r hr j => by
    have := at_bound (x := 32) (by decide) (hent r hr).2 j
    omega⟩
theorem rkB_rows {s t : Sy} (ok : OkS s) (ok' : OkS t) (hb : t.bs = s.bs) {M N : List Rp} (hM : M.length ≤ 6) (hN : N.length ≤ 6) (h1 : ∀ r ∈ M, r ∈ s.rs) (h2 : ∀ r ∈ N, r ∈ t.rs) (h : ∀ x, x ∈ M.map (rowR s.bs) ↔ x ∈ N.map (rowR s.bs)) : rkB s.bs M = rkB s.bs N := by
  have i1 := rkB_is ok hM h1
  have i2 := rkB_is ok' hN h2
  rw [hb] at i2
  refine (isRank_mem i1 fun x => ?_).uniq i2
  constructor
  · intro hx
    obtain ⟨y, hy, rfl⟩ := List.mem_map.1 hx
    exact List.mem_map.2 ⟨y, (h y).1 hy, rfl⟩
  · intro hx
    obtain ⟨y, hy, rfl⟩ := List.mem_map.1 hx
    exact List.mem_map.2 ⟨y, (h y).2 hy, rfl⟩
theorem fxR_sub {s : Sy} : ∀ r ∈ fxR s, r ∈ s.rs := fun _ hr => (List.mem_filter.1 hr).1
theorem fxR_six {s : Sy} (ok : OkS s) : (fxR s).length ≤ 6 := by rw [fxR_len]; exact fixA_le ok
theorem rowsF_list (s : Sy) {L : List Nat} {X : List Rp} (h : L.map (fun i => s.rs[i]?) = X.map some) : rowsF s L = X.map (rowR s.bs) := by
  refine List.ext_getElem? fun k => ?_
  have hk := congrArg (·[k]?) h
  simp only [List.getElem?_map] at hk
  unfold rowsF
  rw [List.getElem?_map, List.getElem?_map]
  cases hi : L[k]? with
  | none =>
    rw [hi] at hk
    cases hx : X[k]? with
    | none => rfl
    | some r => rw [hx] at hk; simp at hk
  | some i =>
    rw [hi] at hk
    cases hx : X[k]? with
    | none => rw [hx] at hk; simp at hk
    | some r =>
      rw [hx] at hk
      have hr : s.rs[i]? = some r := by simpa using hk
      simp only [Option.map_some]
      rw [trS_getD s (List.getElem?_eq_some_iff.1 hr).1, colP_row hr]
theorem rankP_nil (n : Nat) : rankP ([] : List (List Int)) n = 0 := by
  obtain ⟨S, C, h1, h2, _⟩ := rk_isRank (m := []) (w := n) ⟨by simp, by simp, Nat.le_refl _, by simp, by simp⟩
  cases S with
  | nil => simpa using h2.symm
  | cons a l => exact absurd (h1 a (by simp)) (by simp)
theorem rkF_list {s : Sy} (ok : OkS s) {L : List Nat} {X : List Rp} (hl : L.length ≤ 6) (h : L.map (fun i => s.rs[i]?) = X.map some) : rkF s L = rkB s.bs X := by
  unfold rkF rkB
  rw [← rowsF_list s h]
  by_cases h0 : L = []
  · subst h0
    have e2 : rowsF s [] = [] := rfl
    rw [e2, rankP_nil, rankP_nil]
  · have hL : ∀ i ∈ L, i < s.rs.length := fun i hi => by
      obtain ⟨k, hk⟩ := List.mem_iff_getElem?.1 hi
      have h1 := congrArg (·[k]?) h
      simp only [List.getElem?_map, hk, Option.map_some] at h1
      cases hx : X[k]? with
      | none => rw [hx] at h1; simp at h1
      | some r =>
        rw [hx] at h1
        exact (List.getElem?_eq_some_iff.1 (show s.rs[i]? = some r by simpa using h1)).1
    rw [(rowsF_valid ok h0 hl hL).2.1]
theorem freedom_is {s : Sy} (hv : validS s = true) : (modesP s).2 = 0 ∧ (modesP s).1.length + rkB s.bs (fxR s) = s.bs.length := by
  have ok := validS_ok hv
  obtain ⟨m1, m2, m3, _⟩ := modes_law hv
  refine ⟨m1, ?_⟩
  have e := rkF_list ok (fixA_le ok) (fxR_get s)
  unfold rkF at e
  rw [← e]
  by_cases h0 : fixA s = []
  · have e2 : rowsF s [] = [] := rfl
    have e3 : rankP ([] : List (List Int)) (wid []) = 0 := rfl
    rw [m3 h0, h0, e2, e3]
    rfl
  · have := m2 h0
    omega
theorem moves_fx {s : Sy} (hv : validS s = true) {k : Nat} (hk : k < s.bs.length) : (modesP s).1.any (movB k) = true ↔ ∃ Z : Nat → Int, (∀ r ∈ (fxR s).map (rowR s.bs), sumN (fun j => at_ r j * Z j) s.bs.length = 0) ∧ Z k ≠ 0 := by
  rw [← rowsF_fx]
  exact moves_iff hv hk
/-! The redundant ropes by their names. -/
theorem fxR_inj {s : Sy} (ok : OkS s) {i j : Nat} {x y : Rp} (hi : (fxR s)[i]? = some x) (hj : (fxR s)[j]? = some y) (h : x.nm = y.nm) : i = j := by
  obtain ⟨a, ha, hx⟩ := fxR_at.1 hi
  obtain ⟨b, hb, hy⟩ := fxR_at.1 hj
  have := ok.rinj a b x y hx hy h
  subst this
  exact (List.getElem?_inj (List.getElem?_eq_some_iff.1 ha).1 (fixA_nodup s)).1 (ha.trans hb.symm)
def butR (s : Sy) (nm : ByteArray) : List Rp := (fxR s).filter fun q => !decide (q.nm = nm)
theorem butR_mem {s : Sy} {nm : ByteArray} {q : Rp} : q ∈ butR s nm ↔ q ∈ fxR s ∧ q.nm ≠ nm := by simp [butR]
theorem butR_six {s : Sy} (ok : OkS s) (nm : ByteArray) : (butR s nm).length ≤ 6 := Nat.le_trans (List.length_filter_le _ _) (fxR_six ok)
def redR (s : Sy) (r : Rp) : Bool := decide (rkB s.bs (butR s r.nm) = rkB s.bs (fxR s))
theorem filt_range {α β : Type} (X : List α) (p : Nat → Bool) (q : α → Bool) (g : Nat → β) (h : α → β) (hp : ∀ i x, X[i]? = some x → p i = q x) (hg : ∀ i x, X[i]? = some x → g i = h x) : ∀ k, k ≤ X.length → ((List.range k).filter p).map g = ((X.take k).filter q).map h
  | 0, _ => rfl
  | k + 1, hk => by
    obtain ⟨x, hx⟩ : ∃ y, X[k]? = some y := ⟨_, List.getElem?_eq_getElem (by omega)⟩
    have ih := filt_range X p q g h hp hg k (by omega)
    rw [List.range_succ, List.take_add_one, hx, Option.toList_some, List.filter_append, List.filter_append, List.map_append, List.map_append, ih]
    congr 1
    have e := hp k x hx
    cases hq : q x
    · rw [hq] at e
      simp [e, hq]
    · rw [hq] at e
      simp [e, hq, hg k x hx]
theorem map_erase_some {s : Sy} {L : List Nat} {X : List Rp} (h : L.map (fun i => s.rs[i]?) = X.map some) (k : Nat) : (L.eraseIdx k).map (fun i => s.rs[i]?) = (X.eraseIdx k).map some := by
  rw [← erase_map, ← erase_map, h]
theorem redB_is {s : Sy} (ok : OkS s) {k : Nat} {r : Rp} (hr : (fxR s)[k]? = some r) : redB s (fixA s) k = redR s r := by
  have hkl := (List.getElem?_eq_some_iff.1 hr).1
  have h6 := fixA_le ok
  have hel : ((fixA s).eraseIdx k).length ≤ 6 := Nat.le_trans (List.length_eraseIdx_le _ _) h6
  have e1 := rkF_list ok h6 (fxR_get s)
  have e2 := rkF_list ok hel (map_erase_some (fxR_get s) k)
  have e3 : rkB s.bs ((fxR s).eraseIdx k) = rkB s.bs (butR s r.nm) := by
    refine rkB_rows ok ok rfl (Nat.le_trans (List.length_eraseIdx_le _ _) (fxR_six ok)) (butR_six ok _) (fun q hq => fxR_sub q (List.mem_of_mem_eraseIdx hq)) (fun q hq => fxR_sub q (butR_mem.1 hq).1) fun x => ?_
    have hm : ∀ q, q ∈ (fxR s).eraseIdx k ↔ q ∈ butR s r.nm := fun q => by
      rw [butR_mem, List.mem_eraseIdx_iff_getElem?]
      constructor
      · rintro ⟨i, hne, hi⟩
        exact ⟨List.mem_of_getElem? hi, fun e => hne (fxR_inj ok hi hr e)⟩
      · rintro ⟨hq, hne⟩
        obtain ⟨i, hi⟩ := List.mem_iff_getElem?.1 hq
        refine ⟨i, fun e => hne ?_, hi⟩
        subst e
        rw [hr] at hi
        cases hi
        rfl
    simp only [List.mem_map, hm]
  unfold redB redR
  rw [e1, e2, e3, Bool.eq_iff_iff]
  simp
theorem redP_fx {s : Sy} (hv : validS s = true) : redP s = (((fxR s).filter (redR s)).map (·.nm), 0) := by
  have ok := validS_ok hv
  have e : redP s = (redN s (fixA s) (fixA s).length, 0) := by simp [redP, hv]
  rw [e]
  congr 1
  unfold redN
  have h := filt_range (fxR s) (redB s (fixA s)) (redR s) (fun i => (s.rs.getD ((fixA s).getD i 0) ⟨ByteArray.empty, [], false⟩).nm) (·.nm) (fun i x hx => redB_is ok hx) (fun i x hx => by
    obtain ⟨a, ha, hr⟩ := fxR_at.1 hx
    rw [List.getD_eq_getElem?_getD (l := fixA s), ha, Option.getD_some, List.getD_eq_getElem?_getD, hr]
    rfl) (fxR s).length (Nat.le_refl _)
  rw [List.take_length, fxR_len] at h
  exact h
theorem redP_has {s : Sy} (hv : validS s = true) {r : Rp} (hr : r ∈ s.rs) : (redP s).1.contains r.nm = (!r.hl && redR s r) := by
  have ok := validS_ok hv
  rw [redP_fx hv, Bool.eq_iff_iff, List.contains_iff_mem, List.mem_map]
  constructor
  · rintro ⟨q, hq, e⟩
    obtain ⟨h1, h2⟩ := List.mem_filter.1 hq
    obtain ⟨h3, h4⟩ := List.mem_filter.1 h1
    obtain ⟨i, hi⟩ := List.mem_iff_getElem?.1 h3
    obtain ⟨j, hj⟩ := List.mem_iff_getElem?.1 hr
    have := ok.rinj i j q r hi hj e
    subst this
    rw [hi] at hj
    cases hj
    simp only [Bool.and_eq_true]
    exact ⟨h4, h2⟩
  · intro h
    simp only [Bool.and_eq_true] at h
    exact ⟨r, List.mem_filter.2 ⟨List.mem_filter.2 ⟨hr, h.1⟩, h.2⟩, rfl⟩
/-! Other systems of the same ropes. -/
theorem VS_of {s t : Sy} (h : VS s) (hb : t.bs = s.bs) (h1 : 1 ≤ t.rs.length ∧ t.rs.length ≤ 6) (hm : ∀ r ∈ t.rs, r ∈ s.rs) (hn : (bNames t.bs ++ rNames t.rs).Nodup) (hh : hauls t.rs ≤ 1) : VS t :=
  ⟨by rw [hb]; exact h.b, h1, hn, by rw [hb]; exact h.bk, fun r hr => by rw [hb]; exact h.rp r (hm r hr), hh⟩
theorem valid_revR {s : Sy} (hv : validS s = true) : validS ⟨s.bs, s.rs.reverse⟩ = true := by
  have h := validS_iff.1 hv
  refine validS_iff.2 (VS_of h rfl (by simpa using h.r) (fun r hr => List.mem_reverse.1 hr) ?_ ?_)
  · refine (List.Perm.nodup_iff ?_).1 h.nd
    refine List.Perm.append_left _ ?_
    unfold rNames
    rw [List.map_reverse]
    exact (List.reverse_perm _).symm
  · have : hauls s.rs.reverse = hauls s.rs := by
      unfold hauls
      rw [List.filter_reverse, List.length_reverse]
    rw [this]
    exact h.h
theorem jamN_congr {bs : List Bk} {L M : List (List (Int × Int))} (h : ∀ k, k < bs.length → L.any (movB k) = M.any (movB k)) : jamN bs L bs.length = jamN bs M bs.length := by
  unfold jamN
  congr 1
  refine List.filter_congr fun i hi => ?_
  rw [h i (List.mem_range.1 hi)]
/-- What the reverse order of the ropes does. -/
theorem turned_law {s : Sy} (hv : validS s = true) : (modesP ⟨s.bs, s.rs.reverse⟩).1.length = (modesP s).1.length ∧ (modesP ⟨s.bs, s.rs.reverse⟩).2 = 0 ∧ jamP ⟨s.bs, s.rs.reverse⟩ = jamP s ∧ redP ⟨s.bs, s.rs.reverse⟩ = ((redP s).1.reverse, 0) := by
  have hv2 := valid_revR hv
  have ok := validS_ok hv
  have ok2 := validS_ok hv2
  have hfx : fxR ⟨s.bs, s.rs.reverse⟩ = (fxR s).reverse := by unfold fxR; rw [List.filter_reverse]
  have hmem : ∀ x, x ∈ (fxR ⟨s.bs, s.rs.reverse⟩).map (rowR s.bs) ↔ x ∈ (fxR s).map (rowR s.bs) := fun x => by
    rw [hfx, List.map_reverse, List.mem_reverse]
  have hrk : rkB s.bs (fxR ⟨s.bs, s.rs.reverse⟩) = rkB s.bs (fxR s) := rkB_rows ok2 ok rfl (fxR_six ok2) (fxR_six ok) fxR_sub fxR_sub hmem
  obtain ⟨f1, f2⟩ := freedom_is hv
  obtain ⟨g1, g2⟩ := freedom_is hv2
  simp only at g2
  rw [hrk] at g2
  refine ⟨by omega, g1, ?_, ?_⟩
  · have e1 : jamP s = (jamN s.bs (modesP s).1 s.bs.length, 0) := by unfold jamP; rw [if_pos f1]
    have e2 : jamP ⟨s.bs, s.rs.reverse⟩ = (jamN s.bs (modesP ⟨s.bs, s.rs.reverse⟩).1 s.bs.length, 0) := by unfold jamP; rw [if_pos g1]
    rw [e1, e2]
    congr 1
    refine jamN_congr fun k hk => ?_
    have i1 := moves_fx hv hk
    have i2 := moves_fx hv2 (k := k) hk
    simp only [hmem] at i2
    rw [Bool.eq_iff_iff, i1, i2]
  · rw [redP_fx hv, redP_fx hv2]
    simp only [hfx]
    congr 1
    rw [← List.map_reverse, ← List.filter_reverse]
    congr 1
    refine List.filter_congr fun r hr => ?_
    unfold redR
    have hb : rkB s.bs (butR ⟨s.bs, s.rs.reverse⟩ r.nm) = rkB s.bs (butR s r.nm) := by
      refine rkB_rows ok2 ok rfl (butR_six ok2 _) (butR_six ok _) (fun q hq => fxR_sub q (butR_mem.1 hq).1) (fun q hq => fxR_sub q (butR_mem.1 hq).1) fun x => ?_
      have : ∀ q, q ∈ butR ⟨s.bs, s.rs.reverse⟩ r.nm ↔ q ∈ butR s r.nm := fun q => by rw [butR_mem, butR_mem, hfx, List.mem_reverse]
      simp only [List.mem_map, this]
    simp only [hb, hrk]
/-- What a rope more, with the same holds, does. -/
theorem twice_law {s : Sy} (hv : validS s = true) {r : Rp} (hr : r ∈ s.rs) (hh : r.hl = false) {nm : ByteArray} (hv2 : validS ⟨s.bs, s.rs ++ [⟨nm, r.hs, false⟩]⟩ = true) : (modesP ⟨s.bs, s.rs ++ [⟨nm, r.hs, false⟩]⟩).1.length = (modesP s).1.length ∧ (modesP ⟨s.bs, s.rs ++ [⟨nm, r.hs, false⟩]⟩).2 = 0 ∧ (redP ⟨s.bs, s.rs ++ [⟨nm, r.hs, false⟩]⟩).2 = 0 ∧ (redP ⟨s.bs, s.rs ++ [⟨nm, r.hs, false⟩]⟩).1.contains r.nm = true ∧ (redP ⟨s.bs, s.rs ++ [⟨nm, r.hs, false⟩]⟩).1.contains nm = true := by
  have ok := validS_ok hv
  have ok2 := validS_ok hv2
  have hrf : r ∈ fxR s := List.mem_filter.2 ⟨hr, by simp [hh]⟩
  have hfx : fxR ⟨s.bs, s.rs ++ [⟨nm, r.hs, false⟩]⟩ = fxR s ++ [⟨nm, r.hs, false⟩] := by unfold fxR; simp
  have hne : r.nm ≠ nm := fun e => by
    obtain ⟨i, hi⟩ := List.mem_iff_getElem?.1 hr
    have hil := (List.getElem?_eq_some_iff.1 hi).1
    have := ok2.rinj i s.rs.length r ⟨nm, r.hs, false⟩ (by rw [List.getElem?_append_left hil]; exact hi) (by simp) e
    omega
  have hrow : rowR s.bs ⟨nm, r.hs, false⟩ = rowR s.bs r := rfl
  have hmem : ∀ x, x ∈ (fxR ⟨s.bs, s.rs ++ [⟨nm, r.hs, false⟩]⟩).map (rowR s.bs) ↔ x ∈ (fxR s).map (rowR s.bs) := fun x => by
    rw [hfx, List.map_append, List.mem_append]
    constructor
    · rintro (h | h)
      · exact h
      · rw [List.map_cons, List.map_nil, List.mem_singleton, hrow] at h
        subst h
        exact List.mem_map.2 ⟨r, hrf, rfl⟩
    · exact .inl
  have hrk : rkB s.bs (fxR ⟨s.bs, s.rs ++ [⟨nm, r.hs, false⟩]⟩) = rkB s.bs (fxR s) := rkB_rows ok2 ok rfl (fxR_six ok2) (fxR_six ok) fxR_sub fxR_sub hmem
  obtain ⟨f1, f2⟩ := freedom_is hv
  obtain ⟨g1, g2⟩ := freedom_is hv2
  simp only at g2
  rw [hrk] at g2
  have hred : ∀ q : Rp, (q = r ∨ q = ⟨nm, r.hs, false⟩) → redR ⟨s.bs, s.rs ++ [⟨nm, r.hs, false⟩]⟩ q = true := fun q hq => by
    unfold redR
    simp only [decide_eq_true_eq]
    rw [hrk]
    refine rkB_rows ok2 ok rfl (butR_six ok2 _) (fxR_six ok) (fun q hq => fxR_sub q (butR_mem.1 hq).1) fxR_sub fun x => ?_
    constructor
    · intro hx
      obtain ⟨y, hy, rfl⟩ := List.mem_map.1 hx
      exact (hmem _).1 (List.mem_map.2 ⟨y, (butR_mem.1 hy).1, rfl⟩)
    · intro hx
      obtain ⟨y, hy, rfl⟩ := List.mem_map.1 hx
      by_cases e : y.nm = q.nm
      · rcases hq with rfl | rfl
        · have : y = q := by
            obtain ⟨i, hi⟩ := List.mem_iff_getElem?.1 hy
            obtain ⟨j, hj⟩ := List.mem_iff_getElem?.1 hrf
            have := fxR_inj ok hi hj e
            subst this
            rw [hi] at hj
            exact Option.some.inj hj
          subst this
          exact List.mem_map.2 ⟨⟨nm, y.hs, false⟩, butR_mem.2 ⟨by rw [hfx]; simp, fun h => hne h.symm⟩, rfl⟩
        · have : (⟨nm, r.hs, false⟩ : Rp) = y := by
            obtain ⟨i, hi⟩ := List.mem_iff_getElem?.1 (fxR_sub y hy)
            have hil := (List.getElem?_eq_some_iff.1 hi).1
            have := ok2.rinj i s.rs.length y ⟨nm, r.hs, false⟩ (by rw [List.getElem?_append_left hil]; exact hi) (by simp) e
            omega
          subst this
          exact List.mem_map.2 ⟨r, butR_mem.2 ⟨by rw [hfx]; exact List.mem_append_left _ hrf, hne⟩, rfl⟩
      · exact List.mem_map.2 ⟨y, butR_mem.2 ⟨by rw [hfx]; exact List.mem_append_left _ hy, e⟩, rfl⟩
  refine ⟨by omega, g1, by rw [redP_fx hv2], ?_, ?_⟩
  · rw [redP_has hv2 (r := r) (List.mem_append_left _ hr), hh, hred r (.inl rfl)]
    rfl
  · have := redP_has hv2 (r := ⟨nm, r.hs, false⟩) (by simp)
    rw [hred _ (.inr rfl)] at this
    exact this
/-! MobilityRemoves. -/
end Go.Proofs.Ytjjpjgnoanfaoaa.T

namespace Go.Proofs.Ytjjpjgnoanfaoaa.T
open Go Go.RowKit Lin
theorem gdob_MOR {F P Q : Prop} (f : F) (q : Q) (h : F → Q → P := by
  intro ff  hq
  (try with_reducible intro KR hKR)
  (repeat refine AW_seq ?_); (repeat refine AW_seq ?_); (refine AW_drawn_k tab_ok follows_mixed 1 fun KR hKR => ?_); simp only [List.replicate_succ, List.replicate_zero, List.append_nil, List.nil_append, List.cons_append, List.length_cons, List.length_nil, Nat.reduceAdd]; (repeat' ((first | refine awD_n rfl fun KK hKK => ?_ | refine awD_g rfl rfl fun KK hKK => ?_ | refine awD_gc rfl fun KK hKK => ?_ | refine awD_nc fun KK hKK => ?_); simp (disch := omega) only [bb, bt, zDs, zD, eqCells, simprocAttr, ff, bne_self_eq_false, Int.reduceBNe, Int.reduceBEq, Bool.bne_false, Bool.bne_true, Bool.false_bne, Bool.true_bne]; refine hKK _ _ _ ?_; clear hKK KK)); (refine awD_nil ?_); simp only [List.reverse_cons, List.reverse_nil, List.nil_append, List.cons_append]; (refine hKR _ _ (by first | rfl | kernel_rfl) ?_); (try clear hKR KR); (repeat (with_reducible first | refine q1 ?_ | refine q2 ?_ | refine q3 ?_ | refine q4 ?_ | refine q5 ?_ | refine q6 ?_ | (refine q7 ?_ ?_; (focus (with_unfolding_all rfl)))))
  (first | exact hq | (revert hKR; revert KR; exact hq))) : P := h f  q
theorem gga5_MOR {C1 C2 C3 C4 C5 P Q : Prop} (c1 : C1) (c2 : C2) (c3 : C3) (c4 : C4) (c5 : C5) (q : Q) (h : C1 → C2 → C3 → C4 → C5 → Q → P := by
  intro cc1 cc2 cc3 cc4 cc5 hq
  (try with_reducible intro KR hKR)
  (repeat' (first | (with_reducible refine AW_seq ?_) | (with_reducible refine AW_region_k tab_ok fun KR hKR => ?_) | ((first | with_reducible refine AW_skip ?_ | with_reducible refine AW_exit ?_ | ((with_reducible refine awOps_nil ?_); refine hKR _ ?_; (try clear hKR KR))); (repeat (with_reducible first | refine q1 ?_ | refine q2 ?_ | refine q3 ?_ | refine q4 ?_ | refine q5 ?_ | refine q6 ?_ | (refine q7 ?_ ?_; (focus (with_unfolding_all rfl)))))) | ((first | ((with_reducible refine at_ops ?_); (first | refine awOps_n rfl fun KK hKK => ?_ | refine awOps_g rfl rfl fun KK hKK => ?_ | refine awOps_gc rfl fun KK hKK => ?_ | refine awOps_nc fun KK hKK => ?_)) | with_reducible refine AW_cond_k (tab := tab) fun KK hKK => ?_); simp (disch := omega) only [bb, bt, zDs, zD, eqCells, simprocAttr, bne_self_eq_false, Int.reduceBNe, Int.reduceBEq, Bool.bne_false, Bool.bne_true, Bool.false_bne, Bool.true_bne, goC, callO_fn, argsD, and_self]; (try ((first | (with_reducible refine ACall.of_pret (cc1) ?_ ?_; (focus (first | (simp only [um]; done) | rfl))) | (with_reducible refine ACall.of_pret (cc2) ?_ ?_; (focus (first | (simp only [um]; done) | rfl))) | (with_reducible refine ACall.of_pret (cc3) ?_ ?_; (focus (first | (simp only [um]; done) | rfl))) | (with_reducible refine ACall.of_pret (cc4) ?_ ?_; (focus (first | (simp only [um]; done) | rfl))) | (with_reducible refine ACall.of_pret (cc5) ?_ ?_; (focus (first | (simp only [um]; done) | rfl)))); simp only [afterC, St.put, putTM, ↓reduceIte, Nat.reduceEqDiff])); refine hKK _ ?_; clear hKK KK; (first | with_reducible refine at_ops ?_ | with_reducible refine i1 ?_ | with_reducible refine i0 ?_))))
  (first | exact hq | (revert hKR; revert KR; exact hq))) : P := h c1 c2 c3 c4 c5 q
set_option linter.unusedSimpArgs false

/-! MobilityOrder. -/
set_option maxHeartbeats 2000000 in
theorem reverseRq {H : Hp} {t b g : Nat} {l : List (List D)} (hb : H[b]? = some (some ⟨61, g, l.flatten⟩)) (hsh : ∀ x ∈ l, ∃ (nm : ByteArray) (hs : List Hd) (hl : Bool), x = [str nm, hds hs, bool hl]) (hn : l.length ≤ 1000000) : ACall Try.prog 36 [.own 3 b g 0 l.length] H t (fun _ H' _ => H' = H.set b (some ⟨61, g, l.reverse.flatten⟩)) := by
  refine ACall.enter tab_ok Try.func36 rfl rfl Try.ntmps36 (by simp) ?_
  simp only [enterTM]
  have hl : ∀ x ∈ l, x.length = 3 := fun x hx => by
    obtain ⟨a1, a2, a3, rfl⟩ := hsh x hx
    rfl
  have hbl := (List.getElem?_eq_some_iff.1 hb).1
  have hH : H.set b (some ⟨61, g, (rvS l 0).flatten⟩) = H := by
    refine List.ext_getElem? fun k => ?_
    by_cases e : b = k
    · subst e
      rw [List.getElem?_set_self hbl, hb]
      rfl
    · rw [List.getElem?_set_ne e]
  have hget : ∀ X : Option Blk, (H.set b X)[b]? = some X := fun X => List.getElem?_set_self hbl
  have hne : ∀ X : Option Blk, (b = (H.set b X).length) = False := fun X => by simp; omega
  have hss : ∀ X Y : Option Blk, (H.set b X).set b Y = H.set b Y := fun X Y => by simp
  have hfl : ∀ i, 2 * i ≤ l.length + 1 → (rvS l i).flatten.length = l.length * 3 := fun i hi => by
    rw [grp_len fun x hx => hl x (rvS_mem hi x hx), rvS_len]
  have hf0 := hfl 0 (by omega)
  conv => arg 5; rw [← hH]
  ((refine ggb0 (F := _∧_) ⟨hget, hf0⟩ ?_))
  ((repeat refine AW_seq ?_))
  refine AW_block ?_
  refine AW_loop_w (fun x : Nat × Nat => ⟨[(0, .own 3 b g 0 l.length), (2, int x.1), (3, int ((l.length : Int) - 1 - x.1))], H.set b (some ⟨61, g, (rvS l x.1).flatten⟩), x.2⟩) (fun x => l.length - x.1) (fun x => 2 * x.1 ≤ l.length + 1) (0, t) (by simp) (by (simp (disch := omega) only [StLe, tmLe, hpLe_refl, hpLe, bl, bb, bt, zDs, zD, eqCells, simprocAttr, Int.sub_zero])) ?_
  rintro ⟨i, tt⟩ hi
  simp only at hi
  have hfi := hfl i hi
  by_cases hlt : 2 * i + 1 < l.length
  · have c1 : (i : Int) < (l.length : Int) - 1 - i := by omega
    have ej : (l.length : Int) - 1 - i = ((l.length - 1 - i : Nat) : Int) := by omega
    have hil : i < l.length := by omega
    have hjl : l.length - 1 - i < l.length := by omega
    have hri := rvS_len l i
    have hmem := fun x hx => hl x (rvS_mem hi x hx)
    obtain ⟨x, hx⟩ : ∃ x, (rvS l i)[i]? = some x := ⟨_, List.getElem?_eq_getElem (by omega)⟩
    obtain ⟨y, hy⟩ : ∃ y, (rvS l i)[l.length - 1 - i]? = some y := ⟨_, List.getElem?_eq_getElem (by omega)⟩
    have hrx := grp_read hmem i x hx
    have hry := grp_read hmem _ y hy
    have hxl := hmem x (List.mem_of_getElem? hx)
    have hyl := hmem y (List.mem_of_getElem? hy)
    have hs1 := grp_set hmem i y (by omega)
    have hmem2 : ∀ z ∈ (rvS l i).set i y, z.length = 3 := fun z hz => by
      rcases List.mem_or_eq_of_mem_set hz with h | rfl
      · exact hmem z h
      · exact hyl
    have hs2 := grp_set hmem2 (l.length - 1 - i) x (by rw [List.length_set]; omega)
    have hsw : ((rvS l i).set i y).set (l.length - 1 - i) x = rvS l (i + 1) := by
      simp only [rvS]
      unfold Lin.swp
      rw [hx, hy]
    rw [hsw] at hs2
    have hf2 : ((rvS l i).set i y).flatten.length = l.length * 3 := by rw [grp_len hmem2, List.length_set, hri]
    have hx0 := hsh x (rvS_mem hi x (List.mem_of_getElem? hx))
    have hy0 := hsh y (rvS_mem hi y (List.mem_of_getElem? hy))
    obtain ⟨a1, a2, a3, rfl⟩ := hx0
    obtain ⟨b1, b2, b3, rfl⟩ := hy0
    ((refine ggb0 c1 ?_))
    ((repeat refine AW_seq ?_))
    refine AW_block ?_
    ((repeat refine AW_seq ?_); (refine AW_drawn_k tab_ok follows_mixed 0 fun KR hKR => ?_); simp only [List.replicate_succ, List.replicate_zero, List.append_nil, List.nil_append, List.cons_append, List.length_cons, List.length_nil, Nat.reduceAdd])
    ((refine wdb (F := _∧_∧_∧_∧_∧_∧_∧_∧_∧_∧_∧_) ⟨hget, hss, hne, hfi, hf2, ej, hil, hjl, hrx, hry, hs1, hs2⟩ ?_))
    ((refine awD_nil ?_); simp only [List.reverse_cons, List.reverse_nil, List.nil_append, List.cons_append]; (refine hKR _ _ (by exact anyB_map (clamp 0) (by kernel_rfl)) ?_); (try clear hKR KR); (repeat (with_reducible first | refine q1 ?_ | refine q2 ?_ | refine q3 ?_ | refine q4 ?_ | refine q5 ?_ | refine q6 ?_ | (refine q7 ?_ ?_; (focus (with_unfolding_all rfl))))))
    ((refine gga0 ?_))
    have ej2 : ((l.length - 1 - i : Nat) : Int) - 1 = (l.length : Int) - 1 - ((i : Int) + 1) := by omega
    refine ⟨(i + 1, tt + 1), by show 2 * (i + 1) ≤ _; omega, by show l.length - (i + 1) < l.length - i; omega, ?_⟩
    (simp (disch := omega) only [StLe, tmLe, hpLe_refl, hpLe, bl, bb, bt, zDs, zD, eqCells, simprocAttr, ej2])
  · have c1 : ¬ (i : Int) < (l.length : Int) - 1 - i := by omega
    have he := rvS_end l hi (by omega)
    rw [he]
    ((refine ggb0 c1 ?_))
    (simp (disch := omega) only [retQ, resD, oneD, rsv, rs, rsL, rsL_eq_map, List.map_map, bb, bt, zDs, zD, eqCells, simprocAttr, Try.results36])
theorem rpC_flat (l : List Rp) : rpC l = (l.map rp1).flatten := by simp [rpC, List.flatMap]
theorem reverseRs {H : Hp} {t b g n : Nat} {l : List Rp} (hb : H[b]? = some (some ⟨61, g, rpC l⟩)) (hl : l.length = n) (hn : n ≤ 1000000) : ACall Try.prog 36 [.own 3 b g 0 n] H t (fun _ H' _ => H' = H.set b (some ⟨61, g, rpC l.reverse⟩)) := by
  subst hl
  rw [rpC_flat] at hb
  have h := reverseRq (t := t) hb (fun x hx => by
    obtain ⟨r, _, rfl⟩ := List.mem_map.1 hx
    exact ⟨_, _, _, rfl⟩) (by rw [List.length_map]; exact hn)
  rw [List.length_map, ← List.map_reverse, ← rpC_flat] at h
  exact h
set_option maxHeartbeats 2000000 in
theorem reverseSt {H : Hp} {t b g n : Nat} {l : List ByteArray} (hb : H[b]? = some (some ⟨9, g, l.map str⟩)) (hnl : l.length = n) (hn : n ≤ 1000000) : ACall Try.prog 47 [.own 1 b g 0 n] H t (fun _ H' _ => H' = H.set b (some ⟨9, g, l.reverse.map str⟩)) := by
  subst hnl
  refine ACall.enter tab_ok Try.func47 rfl rfl Try.ntmps47 (by simp) ?_
  simp only [enterTM]
  have hbl := (List.getElem?_eq_some_iff.1 hb).1
  have hH : H.set b (some ⟨9, g, (rvS l 0).map str⟩) = H := by
    refine List.ext_getElem? fun k => ?_
    by_cases e : b = k
    · subst e
      rw [List.getElem?_set_self hbl, hb]
      rfl
    · rw [List.getElem?_set_ne e]
  have hget : ∀ X : Option Blk, (H.set b X)[b]? = some X := fun X => List.getElem?_set_self hbl
  have hne : ∀ X : Option Blk, (b = (H.set b X).length) = False := fun X => by simp; omega
  have hss : ∀ X Y : Option Blk, (H.set b X).set b Y = H.set b Y := fun X Y => by simp
  have hfl : ∀ i, (rvS l i).length = l.length := fun i => rvS_len l i
  have hf0 := hfl 0
  conv => arg 5; rw [← hH]
  ((refine ggb0 (F := _∧_) ⟨hget, hf0⟩ ?_))
  ((repeat refine AW_seq ?_))
  refine AW_block ?_
  refine AW_loop_w (fun x : Nat × Nat => ⟨[(0, .own 1 b g 0 l.length), (2, int x.1), (3, int ((l.length : Int) - 1 - x.1))], H.set b (some ⟨9, g, (rvS l x.1).map str⟩), x.2⟩) (fun x => l.length - x.1) (fun x => 2 * x.1 ≤ l.length + 1) (0, t) (by simp) (by (simp (disch := omega) only [StLe, tmLe, hpLe_refl, hpLe, bl, bb, bt, zDs, zD, eqCells, simprocAttr, Int.sub_zero])) ?_
  rintro ⟨i, tt⟩ hi
  simp only at hi
  have hfi := hfl i
  by_cases hlt : 2 * i + 1 < l.length
  · have c1 : (i : Int) < (l.length : Int) - 1 - i := by omega
    have ej : (l.length : Int) - 1 - i = ((l.length - 1 - i : Nat) : Int) := by omega
    have hil : i < l.length := by omega
    have hjl : l.length - 1 - i < l.length := by omega
    obtain ⟨x, hx⟩ : ∃ x, (rvS l i)[i]? = some x := ⟨_, List.getElem?_eq_getElem (by omega)⟩
    obtain ⟨y, hy⟩ : ∃ y, (rvS l i)[l.length - 1 - i]? = some y := ⟨_, List.getElem?_eq_getElem (by omega)⟩
    have hs1 : ((rvS l i).map str).set i (str y) = ((rvS l i).set i y).map str := by rw [List.map_set]
    have hsw : ((rvS l i).set i y).set (l.length - 1 - i) x = rvS l (i + 1) := by
      simp only [rvS]
      unfold Lin.swp
      rw [hx, hy]
    have hs2 : (((rvS l i).set i y).map str).set (l.length - 1 - i) (str x) = (rvS l (i + 1)).map str := by rw [← hsw]; simp only [List.map_set]
    have hf2 : ((rvS l i).set i y).length = l.length := by rw [List.length_set, hfi]
    ((refine ggb0 c1 ?_))
    ((repeat refine AW_seq ?_))
    refine AW_block ?_
    ((repeat refine AW_seq ?_); (refine AW_drawn_k tab_ok follows_mixed 0 fun KR hKR => ?_); simp only [List.replicate_succ, List.replicate_zero, List.append_nil, List.nil_append, List.cons_append, List.length_cons, List.length_nil, Nat.reduceAdd])
    ((refine wdb (F := _∧_∧_∧_∧_∧_∧_∧_∧_∧_∧_∧_) ⟨hget, hss, hne, hfi, hf2, ej, hil, hjl, hx, hy, hs1, hs2⟩ ?_))
    ((refine awD_nil ?_); simp only [List.reverse_cons, List.reverse_nil, List.nil_append, List.cons_append]; (refine hKR _ _ (by exact anyB_map (clamp 0) (by kernel_rfl)) ?_); (try clear hKR KR); (repeat (with_reducible first | refine q1 ?_ | refine q2 ?_ | refine q3 ?_ | refine q4 ?_ | refine q5 ?_ | refine q6 ?_ | (refine q7 ?_ ?_; (focus (with_unfolding_all rfl))))))
    ((refine gga0 ?_))
    have ej2 : ((l.length - 1 - i : Nat) : Int) - 1 = (l.length : Int) - 1 - ((i : Int) + 1) := by omega
    refine ⟨(i + 1, tt + 1), by show 2 * (i + 1) ≤ _; omega, by show l.length - (i + 1) < l.length - i; omega, ?_⟩
    (simp (disch := omega) only [StLe, tmLe, hpLe_refl, hpLe, bl, bb, bt, zDs, zD, eqCells, simprocAttr, ej2])
  · have c1 : ¬ (i : Int) < (l.length : Int) - 1 - i := by omega
    have he := rvS_end l hi (by omega)
    rw [he]
    ((refine ggb0 c1 ?_))
    (simp (disch := omega) only [retQ, resD, oneD, rsv, rs, rsL, rsL_eq_map, List.map_map, bb, bt, zDs, zD, eqCells, simprocAttr, Try.results47])
theorem redundant_own (s : Sy) (hf : Fits s) (hv : validS s = true) : PFreshX Try.prog 46 [syD s] 9 1 (redP s).1.length ((redP s).1.map str) (fun o => .tup [o, int 0]) := by
  refine PFreshX.intro (tup := true) (pre := []) (post := [int 0]) ?_ rfl rfl fun t => (redundant_call s hf hv t).mono ?_
  · generalize (redP s).1 = J
    induction J with
    | nil => rfl
    | cons x l ih => simp only [List.map_cons, plainL, plainD, Bool.true_and]; exact ih
  · rintro d H' t' ⟨b, g, rfl, hb⟩
    exact ⟨b, g, rfl, hb⟩
def sameN : ByteArray := ⟨#[116, 104, 101, 83, 97, 109, 101, 65, 103, 97, 105, 110]⟩
set_option maxRecDepth 100000 in
set_option maxHeartbeats 16000000 in
theorem law_order (s : Sy) (k : Int) (hk : 0 ≤ k ∧ k < 256) : PRet Try.prog 7 [syD s, .v (.int .u8 k)] (bool true) := by
  refine PRet.intro 1 fun t => ACall.enter tab_ok Try.func7 rfl rfl Try.ntmps7 (by simp) ?_
  simp only [enterTM]
  have hL : PRet Try.prog 42 [syD s, .v (.string ⟨#[]⟩)] (bool (longM s ⟨#[]⟩)) := long16 s ⟨#[]⟩
  cases hlo : longM s ⟨#[]⟩
  rotate_left 1
  · rw [hlo] at hL
    ((refine gga2 awake16 hL ?_))
    ((repeat refine AW_seq ?_); (refine wta ?_); simp (disch := omega) only [retQ, resD, oneD, rsv, rs, rsL, rsL_eq_map, List.map_map, bb, bt, zDs, zD, eqCells, simprocAttr, Try.results7])
  rw [hlo] at hL
  have hs : smallS s = true := by
    unfold longM at hlo
    rw [Bool.or_eq_false_iff] at hlo
    simpa using hlo.1
  have hf := small_fits hs
  have hV := valid_ref s hf
  cases hv : validS s
  · rw [hv] at hV
    ((refine gga3 awake16 hL hV ?_))
    ((repeat refine AW_seq ?_); (refine wta ?_); simp (disch := omega) only [retQ, resD, oneD, rsv, rs, rsL, rsL_eq_map, List.map_map, bb, bt, zDs, zD, eqCells, simprocAttr, Try.results7])
  rw [hv] at hV
  have ok := validS_ok hv
  have hr6 := ok.r6
  have hr1 := ok.r1
  have hb6 := ok.b6
  have hC := copyR s ok
  obtain ⟨q1', q2', q3', q4'⟩ := turned_law hv
  have hv2 := valid_revR hv
  have hf2 : Fits ⟨s.bs, s.rs.reverse⟩ := ⟨hf.nb, by simpa using hf.nr, hf.sb, fun r hr => hf.sr r (List.mem_reverse.1 hr)⟩
  have hF1 := freedom_prog s hf
  have hF2 := freedom_prog ⟨s.bs, s.rs.reverse⟩ hf2
  have hJ1 := jammed_prog s hf
  have hJ2 := jammed_prog ⟨s.bs, s.rs.reverse⟩ hf2
  have hR1 := redundant_prog s hf
  have hR2 := redundant_own ⟨s.bs, s.rs.reverse⟩ hf2 hv2
  have m0 : (modesP s).2 = 0 := (modesP_facts s).2.2.2 hv
  have r0 : (redP s).2 = 0 := by rw [redP_fx hv]
  have ej : jamP s = (jamN s.bs (modesP s).1 s.bs.length, 0) := by unfold jamP; rw [if_pos m0]
  have hjl := jamN_len s.bs (modesP s).1 s.bs.length
  have hrl := redP_len hv
  have htw := fun (r : Rp) h1 h2 nm h3 => twice_law (s := s) hv (r := r) h1 h2 (nm := nm) h3
  rw [q1', q2'] at hF2
  rw [q3'] at hJ2
  rw [q4'] at hR2
  rw [ej] at hJ1 hJ2
  rw [m0] at hF1
  rw [r0] at hR1
  simp only at hJ1 hJ2 hR2
  generalize jamN s.bs (modesP s).1 s.bs.length = J at *
  generalize hM : (modesP s).1.length = M at *
  have hE1 := equalStrs J J (by omega) (by omega)
  have hE2 := equalStrs (redP s).1 (redP s).1 (by omega) (by omega)
  rw [beq_self_eq_true] at hE1 hE2
  generalize (redP s).1 = R at *
  have hlr := rpC_len s.rs.reverse
  rw [List.length_reverse] at hlr
  have hdr := rpC_div s.rs
  have hfin : List.take (s.rs.length * 3) (rpC s.rs.reverse) = rpC s.rs.reverse := List.take_of_length_le (by omega)
  ((refine gga3 awake16 hL hV ?_))
  intro KR hKR
  ((first | refine awOps_nc fun KK hKK => ?_ | refine awOps_gc rfl fun KK hKK => ?_); simp (disch := omega) only [bb, bt, zDs, zD, eqCells, simprocAttr, goC, callO_fn, argsD, and_self]; refine ACall.of_freshX (hC) (by first | (simp only [List.map_cons, List.map_nil, List.append_nil, List.nil_append, List.cons_append, ufa, uf]; done) | rfl) ?_; simp (disch := omega) only [bb, bt, zDs, zD, eqCells, simprocAttr, afterC]; refine hKK _ ?_; clear hKK KK)
  ((refine wra ?_)); ((refine wea ?_); (try clear hKR KR))
  ((refine gga0 ?_))
  ((try with_reducible intro KR hKR); (first | refine awOps_nc fun KK hKK => ?_ | refine awOps_gc rfl fun KK hKK => ?_); simp (disch := omega) only [bb, bt, zDs, zD, eqCells, simprocAttr, goC, callO_fn, argsD, and_self])
  refine (reverseRs (l := s.rs) rfl rfl (by omega)).mono fun d H' t' h => ?_
  subst h
  (simp (disch := omega) only [bb, bt, zDs, zD, eqCells, simprocAttr, afterC, List.set_cons_succ, List.set_cons_zero]; refine hKK _ ?_; clear hKK KK)
  ((refine wra ?_)); ((refine wea ?_); (try clear hKR KR))
  ((refine AW.freeze (1) (by first | rfl | (simp only [setH, List.getElem?_cons_zero, List.getElem?_cons_succ, fz_bk, fz_rp, hfin, hlr, Nat.le_refl]; done)) ?_); simp (disch := omega) only [fzT, fz, fzL, fzL_ints, fzL_mat, fzH, fzB, eq_self, bb, bt, zDs, zD, eqCells, simprocAttr, fz_bk, fz_rp, hfin, hlr, Nat.le_refl])
  ((refine gga5_MOR hF1 hF2 hJ1 hJ2 hR1 ?_))
  intro KR hKR
  ((first | refine awOps_nc fun KK hKK => ?_ | refine awOps_gc rfl fun KK hKK => ?_); simp (disch := omega) only [bb, bt, zDs, zD, eqCells, simprocAttr, goC, callO_fn, argsD, and_self]; refine ACall.of_freshX (hR2) (by first | (simp only [List.map_cons, List.map_nil, List.append_nil, List.nil_append, List.cons_append, ufa, uf]; done) | rfl) ?_; simp (disch := omega) only [bb, bt, zDs, zD, eqCells, simprocAttr, afterC]; refine hKK _ ?_; clear hKK KK)
  ((refine wra ?_)); ((refine wea ?_); (try clear hKR KR))
  ((refine gga0 ?_))
  ((try with_reducible intro KR hKR); (first | refine awOps_nc fun KK hKK => ?_ | refine awOps_gc rfl fun KK hKK => ?_); simp (disch := omega) only [bb, bt, zDs, zD, eqCells, simprocAttr, goC, callO_fn, argsD, and_self])
  refine (reverseSt (l := R.reverse) rfl (by simp) (by simp; omega)).mono fun d2 H2 t2 h => ?_
  rw [List.reverse_reverse] at h
  subst h
  (simp (disch := omega) only [bb, bt, zDs, zD, eqCells, simprocAttr, afterC, List.set_cons_succ, List.set_cons_zero]; refine hKK _ ?_; clear hKK KK)
  ((refine wra ?_)); ((refine wea ?_); (try clear hKR KR))
  have hrv : R.reverse.length = R.length := List.length_reverse
  have hfinR : List.take R.length (R.map str) = R.map str := List.take_of_length_le (by simp)
  ((refine AW.freeze (3) (by first | rfl | (simp only [setH, List.getElem?_cons_zero, List.getElem?_cons_succ, fz_bk, fz_rp, fzS_str, hrv, hfinR, List.length_map, Nat.le_refl]; done)) ?_); simp (disch := omega) only [fzT, fz, fzL, fzL_ints, fzL_mat, fzH, fzB, eq_self, bb, bt, zDs, zD, eqCells, simprocAttr, fz_bk, fz_rp, fzS_str, hrv, hfinR, List.length_map, Nat.le_refl])
  have hmm : ((M : Int) != (M : Int)) = false := by simp
  ((refine ggb2 hmm hE1 hE2 ?_))
  obtain ⟨ni, rfl⟩ : ∃ n : Nat, k = (n : Int) := ⟨k.toNat, by omega⟩
  have ek : Int.tmod (ni : Int) (s.rs.length : Int) = ((ni % s.rs.length : Nat) : Int) := rfl
  have hjl : ni % s.rs.length < s.rs.length := Nat.mod_lt _ (by omega)
  have hl0 : ¬ (s.rs.length : Int) = 0 := by omega
  have wk := wr64 (ni : Int) (by omega)
  generalize ni % s.rs.length = j at *
  obtain ⟨r, hr⟩ : ∃ y, s.rs[j]? = some y := ⟨_, List.getElem?_eq_getElem hjl⟩
  have hra := rpC_read s.rs j r hr
  have hrm := List.mem_of_getElem? hr
  ((repeat refine AW_seq ?_); (refine gdob_MOR (F := _∧_∧_∧_∧_∧_) ⟨ek, hl0, wk, hdr, hjl, hra⟩ ?_))
  cases hh : r.hl
  rotate_left 1
  · ((refine ggb0 (F := _∧_) ⟨hh, hdr⟩ ?_))
    ((repeat refine AW_seq ?_); (refine wta ?_); simp (disch := omega) only [retQ, resD, oneD, rsv, rs, rsL, rsL_eq_map, List.map_map, bb, bt, zDs, zD, eqCells, simprocAttr, Try.results7])
  by_cases h6 : 6 ≤ s.rs.length
  · have h6' : (6 : Int) ≤ s.rs.length := by omega
    ((refine ggb0 (F := _∧_∧_) ⟨hh, hdr, h6'⟩ ?_))
    ((repeat refine AW_seq ?_); (refine wta ?_); simp (disch := omega) only [retQ, resD, oneD, rsv, rs, rsL, rsL_eq_map, List.map_map, bb, bt, zDs, zD, eqCells, simprocAttr, Try.results7])
  have h6' : ¬ (6 : Int) ≤ s.rs.length := by omega
  ((refine ggb0 (F := _∧_∧_) ⟨hh, hdr, h6'⟩ ?_))
  intro KR hKR
  ((first | refine awOps_nc fun KK hKK => ?_ | refine awOps_gc rfl fun KK hKK => ?_); simp (disch := omega) only [bb, bt, zDs, zD, eqCells, simprocAttr, goC, callO_fn, argsD, and_self]; refine ACall.of_freshX (hC) (by first | (simp only [List.map_cons, List.map_nil, List.append_nil, List.nil_append, List.cons_append, ufa, uf]; done) | rfl) ?_; simp (disch := omega) only [bb, bt, zDs, zD, eqCells, simprocAttr, afterC]; refine hKK _ ?_; clear hKK KK)
  ((refine wra ?_)); ((refine wea ?_); (try clear hKR KR))
  have hls := rpC_len s.rs
  ((refine wqb hh ?_))
  ((refine wqa ?_))
  ((refine wqb (F := _∧_) ⟨hh, hls⟩ ?_))
  have hrc : rpC s.rs ++ [D.v (.string ⟨#[116, 104, 101, 83, 97, 109, 101, 65, 103, 97, 105, 110]⟩), hds r.hs, bool false] = rpC (s.rs ++ [⟨sameN, r.hs, false⟩]) := (rpC_app s.rs ⟨sameN, r.hs, false⟩).symm
  have hl5 := rpC_len (s.rs ++ [⟨sameN, r.hs, false⟩])
  rw [List.length_append, List.length_singleton] at hl5
  have hfin5 : List.take ((s.rs.length + 1) * 3) (rpC (s.rs ++ [⟨sameN, r.hs, false⟩])) = rpC (s.rs ++ [⟨sameN, r.hs, false⟩]) := List.take_of_length_le (by omega)
  ((refine AW.freeze (5) (by first | rfl | (simp only [setH, List.getElem?_cons_zero, List.getElem?_cons_succ, fz_bk, fz_rp, hrc, hl5, hfin5, Nat.le_refl]; done)) ?_); simp (disch := omega) only [fzT, fz, fzL, fzL_ints, fzL_mat, fzH, fzB, eq_self, bb, bt, zDs, zD, eqCells, simprocAttr, fz_bk, fz_rp, hrc, hl5, hfin5, Nat.le_refl])
  have hf3 : Fits ⟨s.bs, s.rs ++ [⟨sameN, r.hs, false⟩]⟩ := ⟨hf.nb, by simp; omega, hf.sb, fun q hq => by
    rcases List.mem_append.1 hq with h | h
    · exact hf.sr q h
    · rw [List.mem_singleton.1 h]
      exact ⟨(by decide : sameN.size ≤ 1000000), (hf.sr r hrm).2⟩⟩
  have hP := valid_prog _ hf3
  have htr := htw r hrm hh sameN
  have hR3 := redundant_prog _ hf3
  have hF3 := freedom_prog _ hf3
  have hrl3 := fun h => redP_len (s := ⟨s.bs, s.rs ++ [⟨sameN, r.hs, false⟩]⟩) h
  generalize (s.rs ++ [⟨sameN, r.hs, false⟩] : List Rp) = rs3 at *
  have hmq : ((M : Int) == (M : Int)) = true := by simp
  cases hv3 : validS ⟨s.bs, rs3⟩
  · rw [hv3] at hP
    ((refine gga1 hP ?_))
    ((repeat refine AW_seq ?_); (refine wta ?_); simp (disch := omega) only [retQ, resD, oneD, rsv, rs, rsL, rsL_eq_map, List.map_map, bb, bt, zDs, zD, eqCells, simprocAttr, Try.results7])
  rw [hv3] at hP
  obtain ⟨w1, w2, w3, w4, w5⟩ := htr hv3
  have hrl4 := hrl3 hv3
  rw [w1, w2] at hF3
  rw [w3] at hR3
  generalize (redP ⟨s.bs, rs3⟩).1 = R3 at *
  have hc1 := containsStrs R3 r.nm (by omega)
  have hc2 : PRet Try.prog 50 [strsD R3, .v (.string ⟨#[116, 104, 101, 83, 97, 109, 101, 65, 103, 97, 105, 110]⟩)] (bool (R3.contains sameN)) := containsStrs R3 sameN (by omega)
  rw [w4] at hc1
  rw [w5] at hc2
  ((refine ggb5 hmq hP hR3 hF3 hc1 hc2 ?_))
  ((repeat refine AW_seq ?_); (refine wta ?_); simp (disch := omega) only [retQ, resD, oneD, rsv, rs, rsL, rsL_eq_map, List.map_map, bb, bt, zDs, zD, eqCells, simprocAttr, Try.results7])
end Go.Proofs.Ytjjpjgnoanfaoaa.T

/- What the arguments of chapter 4's laws stand for. -/
section
namespace Go.Proofs.Ytjjpjgnoanfaoaa.T
open Go Go.RowKit Go.ChangeShapes

theorem slice_one {P : Program} {w : World} {r : Reach} {base : Nat} {t e : TypeId} {v : Value} (ht : P.underlying t = some (.slice e)) (h : Value.okWide P w r base t v) : v.cells = #[v] := by
  simp only [Value.okWide, ht, Cell.okWide] at h
  cases v <;> simp_all [Value.cells, Cell.ok]
theorem ints_of : ∀ {rows : List (List D)}, (∀ r ∈ rows, (∃ n, r = [int n] ∧ (Lit.int .i64 n).wf = true) ∧ r.length = 1) → ∃ l : List Int, rows.flatten = l.map int ∧ ∀ x ∈ l, (Lit.int .i64 x).wf = true
  | [], _ => ⟨[], rfl, by simp⟩
  | r :: rows, h => by
    obtain ⟨⟨n, rfl, hw⟩, _⟩ := h r (by simp)
    obtain ⟨l, e, hl⟩ := ints_of fun x hx => h x (List.mem_cons_of_mem _ hx)
    exact ⟨n :: l, by simp [e], fun x hx => by
      rcases List.mem_cons.1 hx with rfl | hx
      · exact hw
      · exact hl x hx⟩
theorem rows_of : ∀ {rows : List (List D)}, (∀ r ∈ rows, (∃ l : List Int, r = [ints l] ∧ ∀ x ∈ l, (Lit.int .i64 x).wf = true) ∧ r.length = 1) → ∃ m : List (List Int), rows.flatten = m.map ints ∧ ∀ l ∈ m, ∀ x ∈ l, (Lit.int .i64 x).wf = true
  | [], _ => ⟨[], rfl, by simp⟩
  | r :: rows, h => by
    obtain ⟨⟨n, rfl, hw⟩, _⟩ := h r (by simp)
    obtain ⟨l, e, hl⟩ := rows_of fun x hx => h x (List.mem_cons_of_mem _ hx)
    exact ⟨n :: l, by simp [e], fun x hx => by
      rcases List.mem_cons.1 hx with rfl | hx
      · exact hw
      · exact hl x hx⟩

theorem u8_of {x : Int} (h : (Lit.int .u8 x).wf = true) : 0 ≤ x ∧ x < 256 := by
  rw [Lit.wf, Bool.and_eq_true] at h
  have h1 := of_decide_eq_true h.1
  have h2 := of_decide_eq_true h.2
  have e1 : IntKind.u8.min = 0 := rfl
  have e2 : IntKind.u8.max = 255 := rfl
  rw [e1] at h1
  rw [e2] at h2
  exact ⟨h1, by omega⟩
theorem cellsInt : Try.prog.cellsOf 3 = 1 := by kernel_rfl
theorem cellsInts : Try.prog.cellsOf 81 = 1 := by kernel_rfl
section
variable {H : Type} {enc : TypeId × Value → H} {W : World}
theorem opn_ints : Opn enc Try.prog W 81 fun ds => ∃ l : List Int, ds = [ints l] ∧ ∀ x ∈ l, (Lit.int .i64 x).wf = true :=
  (Opn.slice Try.underlying81 cellsInt (by decide) (Opn.int Try.underlying3)).mono fun ds ⟨rows, e, h, _⟩ => by
    obtain ⟨l, e2, hl⟩ := ints_of h
    exact ⟨l, by rw [e, e2], hl⟩
theorem opn_mat : Opn enc Try.prog W 118 fun ds => ∃ m : List (List Int), ds = [mat m] ∧ ∀ l ∈ m, ∀ x ∈ l, (Lit.int .i64 x).wf = true :=
  (Opn.slice Try.underlying118 cellsInts (by decide) opn_ints).mono fun ds ⟨rows, e, h, _⟩ => by
    obtain ⟨l, e2, hl⟩ := rows_of h
    exact ⟨l, by rw [e, e2], hl⟩
end
end Go.Proofs.Ytjjpjgnoanfaoaa.T
end

/- Arguments that are lists of fractions. -/
section
namespace Go.Proofs.Ytjjpjgnoanfaoaa.T
open Go Go.RowKit Go.ChangeShapes

theorem fracs_of : ∀ {rows : List (List D)}, (∀ r ∈ rows, (∃ a b, r = [int a, int b]) ∧ r.length = 2) → ∃ l : List (Int × Int), rows.flatten = frC l
  | [], _ => ⟨[], rfl⟩
  | r :: rows, h => by
    obtain ⟨⟨a, b, rfl⟩, _⟩ := h r (by simp)
    obtain ⟨l, e⟩ := fracs_of fun x hx => h x (List.mem_cons_of_mem _ hx)
    exact ⟨(a, b) :: l, by simp [e, frC]⟩
theorem cellsFrac : Try.prog.cellsOf 37 = 2 := by kernel_rfl
section
variable {H : Type} {enc : TypeId × Value → H} {W : World}
theorem opn_frac : Opn enc Try.prog W 37 fun ds => ∃ a b, ds = [int a, int b] :=
  (Opn.struct Try.underlying37 ⟨_, _, rfl, rfl, Opn.int Try.underlying3, _, _, rfl, by simp only [cellsInt], Opn.int Try.underlying3, rfl⟩ (by kernel_rfl)).mono fun ds h => by
    obtain ⟨d1, r1, rfl, ⟨a, rfl, _⟩, d2, r2, rfl, ⟨b, rfl, _⟩, rfl⟩ := h
    exact ⟨a, b, rfl⟩
theorem opn_fracs : Opn enc Try.prog W 51 fun ds => ∃ l : List (Int × Int), ds = [frs l] ∧ True :=
  (Opn.slice Try.underlying51 cellsFrac (by decide) opn_frac).mono fun ds ⟨rows, e, h, _⟩ => by
    obtain ⟨l, e2⟩ := fracs_of h
    exact ⟨l, by rw [e, e2], trivial⟩
end
end Go.Proofs.Ytjjpjgnoanfaoaa.T
end

/- Arguments that are systems. -/
section
namespace Go.Proofs.Ytjjpjgnoanfaoaa.T
open Go Go.RowKit Go.ChangeShapes

theorem flats_of {α : Type} {f : α → List D} {n : Nat} : ∀ {rows : List (List D)}, (∀ r ∈ rows, (∃ x, r = f x) ∧ r.length = n) → ∃ l : List α, rows.flatten = l.flatMap f
  | [], _ => ⟨[], rfl⟩
  | r :: rows, h => by
    obtain ⟨⟨x, rfl⟩, _⟩ := h r (by simp)
    obtain ⟨l, e⟩ := flats_of fun x hx => h x (List.mem_cons_of_mem _ hx)
    exact ⟨x :: l, by simp [e]⟩
theorem cellsHold : Try.prog.cellsOf 66 = 4 := by kernel_rfl
theorem cellsRope : Try.prog.cellsOf 61 = 3 := by kernel_rfl
theorem cellsBlock : Try.prog.cellsOf 57 = 2 := by kernel_rfl
theorem agg_of {P : Program} {w : World} {r : Reach} {base : Nat} {t : TypeId} {fs : Array Field} {v : Value} (ht : P.underlying t = some (.struct fs)) (h : Value.okWide P w r base t v) : ∃ cs, v = .agg cs := by
  simp only [Value.okWide, ht] at h
  obtain ⟨cs, e, _⟩ := h
  exact ⟨cs, e⟩
section
variable {H : Type} {enc : TypeId × Value → H} {W : World}
theorem opn_hold : Opn enc Try.prog W 66 fun ds => ∃ h : Hd, ds = hd1 h :=
  (Opn.struct Try.underlying66 ⟨_, _, rfl, (by kernel_rfl), Opn.str Try.underlying9, _, _, rfl, (by kernel_rfl), Opn.int Try.underlying3, _, _, rfl, (by kernel_rfl), opn_frac, rfl⟩ (by kernel_rfl)).mono fun ds h => by
    obtain ⟨d1, r1, rfl, ⟨s, rfl, _⟩, d2, r2, rfl, ⟨p, rfl, _⟩, d3, r3, rfl, ⟨a, b, rfl⟩, rfl⟩ := h
    exact ⟨⟨s, p, a, b⟩, rfl⟩
theorem opn_holds : Opn enc Try.prog W 59 fun ds => ∃ l : List Hd, ds = [hds l] :=
  (Opn.slice Try.underlying59 cellsHold (by decide) opn_hold).mono fun ds ⟨rows, e, h, _⟩ => by
    obtain ⟨l, e2⟩ := flats_of h
    exact ⟨l, by rw [e, e2]; rfl⟩
theorem opn_rope : Opn enc Try.prog W 61 fun ds => ∃ r : Rp, ds = rp1 r :=
  (Opn.struct Try.underlying61 ⟨_, _, rfl, (by kernel_rfl), Opn.str Try.underlying9, _, _, rfl, (by kernel_rfl), opn_holds, _, _, rfl, (by kernel_rfl), Opn.bool Try.underlying4, rfl⟩ (by kernel_rfl)).mono fun ds h => by
    obtain ⟨d1, r1, rfl, ⟨s, rfl, _⟩, d2, r2, rfl, ⟨l, rfl⟩, d3, r3, rfl, ⟨b, rfl⟩, rfl⟩ := h
    exact ⟨⟨s, l, b⟩, rfl⟩
theorem opn_ropes : Opn enc Try.prog W 47 fun ds => ∃ l : List Rp, ds = [rps l] :=
  (Opn.slice Try.underlying47 cellsRope (by decide) opn_rope).mono fun ds ⟨rows, e, h, _⟩ => by
    obtain ⟨l, e2⟩ := flats_of h
    exact ⟨l, by rw [e, e2]; rfl⟩
theorem opn_block : Opn enc Try.prog W 57 fun ds => ∃ b : Bk, ds = bk1 b :=
  (Opn.struct Try.underlying57 ⟨_, _, rfl, (by kernel_rfl), Opn.str Try.underlying9, _, _, rfl, (by kernel_rfl), Opn.int Try.underlying3, rfl⟩ (by kernel_rfl)).mono fun ds h => by
    obtain ⟨d1, r1, rfl, ⟨s, rfl, _⟩, d2, r2, rfl, ⟨p, rfl, _⟩, rfl⟩ := h
    exact ⟨⟨s, p⟩, rfl⟩
theorem opn_blocks : Opn enc Try.prog W 46 fun ds => ∃ l : List Bk, ds = [bks l] :=
  (Opn.slice Try.underlying46 cellsBlock (by decide) opn_block).mono fun ds ⟨rows, e, h, _⟩ => by
    obtain ⟨l, e2⟩ := flats_of h
    exact ⟨l, by rw [e, e2]; rfl⟩
theorem opn_sys : Opn enc Try.prog W 49 fun ds => ∃ s : Sy, ds = [bks s.bs, rps s.rs] :=
  (Opn.struct Try.underlying49 ⟨_, _, rfl, (by kernel_rfl), opn_blocks, _, _, rfl, (by kernel_rfl), opn_ropes, rfl⟩ (by kernel_rfl)).mono fun ds h => by
    obtain ⟨d1, r1, rfl, ⟨a, rfl⟩, d2, r2, rfl, ⟨b, rfl⟩, rfl⟩ := h
    exact ⟨⟨a, b⟩, rfl⟩
theorem arg_sys {v : Value} {base : Nat} {r : Reach} {d : DataW H} {p : List MemPlace} (h : DataW.Trod enc Try.prog W 0 (fun _ => true) true 49 v d p) (hv : Value.okWide Try.prog W r base 49 v) : ∃ s : Sy, Rep (memOf W) [] (syD s) v := by
  obtain ⟨cs, rfl⟩ : ∃ cs, v = .agg cs := by
    simp only [Value.okWide, Try.underlying49] at hv
    obtain ⟨cs, e, _⟩ := hv
    exact ⟨cs, e⟩
  obtain ⟨ds, hr, s, rfl⟩ := arg_agg opn_sys h
  exact ⟨s, hr⟩
theorem cellsSys : Try.prog.cellsOf 49 = 2 := by kernel_rfl
theorem opn_syss : Opn enc Try.prog W 89 fun ds => ∃ l : List Sy, ds = [sys l] ∧ True :=
  (Opn.slice Try.underlying89 cellsSys (by decide) opn_sys).mono fun ds ⟨rows, e, h, _⟩ => by
    obtain ⟨l, e2⟩ := flats_of (f := sy1) h
    exact ⟨l, by rw [e, e2], trivial⟩
theorem arg_rope {v : Value} {base : Nat} {r : Reach} {d : DataW H} {p : List MemPlace} (h : DataW.Trod enc Try.prog W 0 (fun _ => true) true 61 v d p) (hv : Value.okWide Try.prog W r base 61 v) : ∃ s : Rp, Rep (memOf W) [] (.agg (rp1 s)) v := by
  obtain ⟨cs, rfl⟩ : ∃ cs, v = .agg cs := by
    simp only [Value.okWide, Try.underlying61] at hv
    obtain ⟨cs, e, _⟩ := hv
    exact ⟨cs, e⟩
  obtain ⟨ds, hr, s, rfl⟩ := arg_agg opn_rope h
  exact ⟨s, hr⟩
theorem arg_frac {v : Value} {base : Nat} {r : Reach} {d : DataW H} {p : List MemPlace} (h : DataW.Trod enc Try.prog W 0 (fun _ => true) true 37 v d p) (hv : Value.okWide Try.prog W r base 37 v) : ∃ s : Int × Int, Rep (memOf W) [] (frD s) v := by
  obtain ⟨cs, rfl⟩ : ∃ cs, v = .agg cs := by
    simp only [Value.okWide, Try.underlying37] at hv
    obtain ⟨cs, e, _⟩ := hv
    exact ⟨cs, e⟩
  obtain ⟨ds, hr, a, b, rfl⟩ := arg_agg opn_frac h
  exact ⟨(a, b), hr⟩
abbrev u16s (l : List Int) : D := .sl 1 (l.map fun n => .v (.int .u16 n)) false
theorem u16_of {x : Int} (h : (Lit.int .u16 x).wf = true) : 0 ≤ x ∧ x < 65536 := by
  rw [Lit.wf, Bool.and_eq_true] at h
  have h1 := of_decide_eq_true h.1
  have h2 := of_decide_eq_true h.2
  have e1 : IntKind.u16.min = 0 := rfl
  have e2 : IntKind.u16.max = 65535 := rfl
  rw [e1] at h1
  rw [e2] at h2
  exact ⟨h1, by omega⟩
theorem u16_rows : ∀ {rows : List (List D)}, (∀ r ∈ rows, (∃ n, r = [.v (.int .u16 n)] ∧ (Lit.int .u16 n).wf = true) ∧ r.length = 1) → ∃ l : List Int, rows.flatten = l.map (fun n => .v (.int .u16 n)) ∧ ∀ x ∈ l, (Lit.int .u16 x).wf = true
  | [], _ => ⟨[], rfl, by simp⟩
  | r :: rows, h => by
    obtain ⟨⟨n, rfl, hw⟩, _⟩ := h r (by simp)
    obtain ⟨l, e, hl⟩ := u16_rows fun x hx => h x (List.mem_cons_of_mem _ hx)
    exact ⟨n :: l, by simp [e], fun x hx => by
      rcases List.mem_cons.1 hx with rfl | hx
      · exact hw
      · exact hl x hx⟩
theorem cellsU16 : Try.prog.cellsOf 69 = 1 := by kernel_rfl
theorem opn_u16s : Opn enc Try.prog W 68 fun ds => ∃ l : List Int, ds = [u16s l] ∧ ∀ x ∈ l, (Lit.int .u16 x).wf = true :=
  (Opn.slice Try.underlying68 cellsU16 (by decide) (Opn.int Try.underlying69)).mono fun ds ⟨rows, e, h, _⟩ => by
    obtain ⟨l, e2, hl⟩ := u16_rows h
    exact ⟨l, by rw [e, e2], hl⟩
theorem opn_span : Opn enc Try.prog W 23 fun ds => ∃ a b, ds = [int a, int b] :=
  (Opn.struct Try.underlying23 ⟨_, _, rfl, rfl, Opn.int Try.underlying3, _, _, rfl, by simp only [cellsInt], Opn.int Try.underlying3, rfl⟩ (by kernel_rfl)).mono fun ds h => by
    obtain ⟨d1, r1, rfl, ⟨a, rfl, _⟩, d2, r2, rfl, ⟨b, rfl, _⟩, rfl⟩ := h
    exact ⟨a, b, rfl⟩
theorem arg_span {v : Value} {base : Nat} {r : Reach} {d : DataW H} {p : List MemPlace} (h : DataW.Trod enc Try.prog W 0 (fun _ => true) true 23 v d p) (hv : Value.okWide Try.prog W r base 23 v) : ∃ s : Int × Int, Rep (memOf W) [] (frD s) v := by
  obtain ⟨cs, rfl⟩ : ∃ cs, v = .agg cs := by
    simp only [Value.okWide, Try.underlying23] at hv
    obtain ⟨cs, e, _⟩ := hv
    exact ⟨cs, e⟩
  obtain ⟨ds, hr, a, b, rfl⟩ := arg_agg opn_span h
  exact ⟨(a, b), hr⟩
theorem u64_of {x : Int} (h : (Lit.int .u64 x).wf = true) : 0 ≤ x ∧ x ≤ 18446744073709551615 := by
  rw [Lit.wf, Bool.and_eq_true] at h
  have h1 := of_decide_eq_true h.1
  have h2 := of_decide_eq_true h.2
  have e1 : IntKind.u64.min = 0 := rfl
  have e2 : IntKind.u64.max = 18446744073709551615 := rfl
  rw [e1] at h1
  rw [e2] at h2
  exact ⟨h1, h2⟩
end
end Go.Proofs.Ytjjpjgnoanfaoaa.T
end

/- The signs of the head's word (printed by mkmake.py): the kernel need not take a long string apart. -/
namespace Go.Proofs.Ytjjpjgnoanfaoaa.T
open Go Go.RowKit Go.Joins
def wordSigns0 : List Char := [104,97,114,110,101,115,115,32,49,97,49,101,98,56,101,56,98,53,99,50,97,51,50,48,50,55,97,48,50,57,50,56,50,52,50,48,51,54,53,50,102,99,100,97,56,49,48,52,99,54,49,55,102,57,51,55,49,101,102,53,98,52,56,56].map Char.ofNat
def wordSigns1 : List Char := [51,100,51,102,57,52,53,98,32,99,117,116,32,97,116,32,108,111,102,116,98,108,111,99,107,47,108,111,102,116,98,108,111,99,107,108,97,119,48,51,46,83,112,97,110,78,97,114,114,111,119,32,108,111,102,116,98,108,111,99,107,47,108,111].map Char.ofNat
def wordSigns2 : List Char := [102,116,98,108,111,99,107,108,97,119,48,51,46,83,112,97,110,70,114,97,99,116,105,111,110,115,32,108,111,102,116,98,108,111,99,107,47,108,111,102,116,98,108,111,99,107,108,97,119,49,49,46,83,116,97,116,105,99,115,84,117,114,110,115].map Char.ofNat
def wordSigns3 : List Char := [32,108,111,102,116,98,108,111,99,107,47,108,111,102,116,98,108,111,99,107,108,97,119,49,49,46,83,116,97,116,105,99,115,65,100,100,115,32,108,111,102,116,98,108,111,99,107,47,108,111,102,116,98,108,111,99,107,108,97,119,49,54,46,77].map Char.ofNat
def wordSigns4 : List Char := [111,98,105,108,105,116,121,79,114,100,101,114,32,108,111,102,116,98,108,111,99,107,47,108,111,102,116,98,108,111,99,107,108,97,119,49,51,46,65,100,118,97,110,116,97,103,101,83,97,109,101,32,108,111,102,116,98,108,111,99,107,47,108,111].map Char.ofNat
def wordSigns5 : List Char := [102,116,98,108,111,99,107,108,97,119,49,51,46,65,100,118,97,110,116,97,103,101,69,113,117,97,108,32,108,111,102,116,98,108,111,99,107,47,108,111,102,116,98,108,111,99,107,108,97,119,49,51,46,65,100,118,97,110,116,97,103,101,79,119].map Char.ofNat
def wordSigns6 : List Char := [110,32,108,111,102,116,98,108,111,99,107,47,108,111,102,116,98,108,111,99,107,108,97,119,49,51,46,65,100,118,97,110,116,97,103,101,72,111,108,100,115,32,108,111,102,116,98,108,111,99,107,47,108,111,102,116,98,108,111,99,107,108,97,119].map Char.ofNat
def wordSigns7 : List Char := [49,52,46,76,111,115,115,101,115,84,119,105,99,101,32,108,111,102,116,98,108,111,99,107,47,108,111,102,116,98,108,111,99,107,108,97,119,49,52,46,76,111,115,115,101,115,65,108,111,110,103].map Char.ofNat
def wordSigns : List Char := wordSigns0 ++ wordSigns1 ++ wordSigns2 ++ wordSigns3 ++ wordSigns4 ++ wordSigns5 ++ wordSigns6 ++ wordSigns7
theorem word_is : Try.prog.initOrder.toList = wordSigns := by
  have h : Try.prog.initOrder = String.ofList wordSigns := by kernel_rfl
  rw [h, String.toList_ofList]
theorem word_cut : behindMainWord (wordsSigns wordSigns) = "cut".toList :: (behindMainWord (wordsSigns wordSigns)).tail := by kernel_rfl
theorem make_of (P : Program) (l : List Char) (h : P.initOrder.toList = l) (r : List (List Char)) (hr : behindMainWord (wordsSigns l) = "cut".toList :: r) : P.make = some .cut := by
  unfold Program.make
  rw [h, hr]
  rfl
theorem enter_of (P : Program) (l : List Char) (h : P.initOrder.toList = l) (r : List (List Char)) (hr : behindMainWord (wordsSigns l) = "cut".toList :: r) (h1 : P.laysLater = false) (h2 : P.bearsReflect = false) (h3 : P.doorFits [] = true) (hs : stripLifts liftWords ("cut".toList :: r) = ([], "cut".toList :: r)) : P.mayEnter = true := by
  unfold Program.mayEnter
  rw [h, hr]
  simp only [hs, h1, h2, h3]
  rfl
theorem word_make : Try.prog.make = some .cut := make_of _ wordSigns word_is _ word_cut
theorem word_enter : Try.prog.mayEnter = true := enter_of _ wordSigns word_is _ word_cut (by kernel_rfl) (by kernel_rfl) (by kernel_rfl) (by kernel_rfl)
theorem word_lifts : Try.prog.liftsFinal = false := by
  unfold Program.liftsFinal Program.headLifts
  rw [word_is]
  kernel_rfl
theorem word_enterP : Try.pinned.checked.prog.mayEnter = true := word_enter
theorem word_liftsP : Try.pinned.checked.prog.liftsFinal = false := word_lifts
theorem word_makeP : Try.pinned.checked.prog.make = some .cut := word_make
end Go.Proofs.Ytjjpjgnoanfaoaa.T

