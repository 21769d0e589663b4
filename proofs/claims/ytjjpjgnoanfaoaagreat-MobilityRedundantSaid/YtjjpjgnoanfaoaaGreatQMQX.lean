import Derived.Test.YtjjpjgnoanfaoaaGreatQMQA
import Derived.Test.YtjjpjgnoanfaoaaGreatWN
import Derived.Test.YtjjpjgnoanfaoaaGreatQLHF
import Derived.Test.YtjjpjgnoanfaoaaGreatQWRS
set_option linter.all false
section
section
namespace Go.Proofs.YtjjpjgnoanfaoaaGreat.T
open Go Go.RowKit Lin
theorem gdza5_MQX {C1 C2 C3 C4 C5 P Q : Prop} (c1 : C1) (c2 : C2) (c3 : C3) (c4 : C4) (c5 : C5) (q : Q) (h : C1 → C2 → C3 → C4 → C5 → Q → P := by
  intro cc1 cc2 cc3 cc4 cc5 hq
  (try with_reducible intro KR hKR)
  (repeat refine AW_seq ?_); (repeat refine AW_seq ?_); (refine AW_drawn_k tab_ok follows_mixed 0 fun KR hKR => ?_); simp only [List.replicate_succ, List.replicate_zero, List.append_nil, List.nil_append, List.cons_append, List.length_cons, List.length_nil, Nat.reduceAdd]; (repeat' ((first | refine awD_n rfl fun KK hKK => ?_ | refine awD_g rfl rfl fun KK hKK => ?_ | refine awD_gc rfl fun KK hKK => ?_ | refine awD_nc fun KK hKK => ?_); simp (disch := omega) only [bb, bt, zDs, zD, eqCells, simprocAttr, bne_self_eq_false, Int.reduceBNe, Int.reduceBEq, Bool.bne_false, Bool.bne_true, Bool.false_bne, Bool.true_bne, goCDS, callDS_fn, argsZ, argsD, ufa, uf]; (try ((first | with_reducible refine PGive.ret (cc1) ?_ | with_reducible refine PGive.ret (cc2) ?_ | with_reducible refine PGive.ret (cc3) ?_ | with_reducible refine PGive.ret (cc4) ?_ | with_reducible refine PGive.ret (cc5) ?_); simp (disch := omega) only [bb, bt, zDs, zD, eqCells, simprocAttr, afterDS, bne_self_eq_false, Int.reduceBNe, Int.reduceBEq, Bool.bne_false, Bool.bne_true, Bool.false_bne, Bool.true_bne])); refine hKK _ _ _ ?_; clear hKK KK)); (refine awD_nil ?_); simp only [List.reverse_cons, List.reverse_nil, List.nil_append, List.cons_append]; (refine hKR _ _ (by first | rfl | kernel_rfl) ?_); (try clear hKR KR); (repeat (with_reducible first | refine q1 ?_ | refine q2 ?_ | refine q3 ?_ | refine q4 ?_ | refine q5 ?_ | refine q6 ?_ | (refine q7 ?_ ?_; (focus (with_unfolding_all rfl)))))
  (first | exact hq | (revert hKR; revert KR; exact hq))) : P := h c1 c2 c3 c4 c5 q
theorem gdzb3_MQX {F C1 C2 C3 P Q : Prop} (f : F) (c1 : C1) (c2 : C2) (c3 : C3) (q : Q) (h : F → C1 → C2 → C3 → Q → P := by
  intro ff cc1 cc2 cc3 hq
  (try with_reducible intro KR hKR)
  (repeat refine AW_seq ?_); (repeat refine AW_seq ?_); (refine AW_drawn_k tab_ok follows_mixed 0 fun KR hKR => ?_); simp only [List.replicate_succ, List.replicate_zero, List.append_nil, List.nil_append, List.cons_append, List.length_cons, List.length_nil, Nat.reduceAdd]; (repeat' ((first | refine awD_n rfl fun KK hKK => ?_ | refine awD_g rfl rfl fun KK hKK => ?_ | refine awD_gc rfl fun KK hKK => ?_ | refine awD_nc fun KK hKK => ?_); simp (disch := omega) only [bb, bt, zDs, zD, eqCells, simprocAttr, ff, bne_self_eq_false, Int.reduceBNe, Int.reduceBEq, Bool.bne_false, Bool.bne_true, Bool.false_bne, Bool.true_bne, goCDS, callDS_fn, argsZ, argsD, ufa, uf]; (try ((first | with_reducible refine PGive.ret (cc1) ?_ | with_reducible refine PGive.ret (cc2) ?_ | with_reducible refine PGive.ret (cc3) ?_); simp (disch := omega) only [bb, bt, zDs, zD, eqCells, simprocAttr, afterDS, ff, bne_self_eq_false, Int.reduceBNe, Int.reduceBEq, Bool.bne_false, Bool.bne_true, Bool.false_bne, Bool.true_bne])); refine hKK _ _ _ ?_; clear hKK KK)); (refine awD_nil ?_); simp only [List.reverse_cons, List.reverse_nil, List.nil_append, List.cons_append]; (refine hKR _ _ (by first | rfl | kernel_rfl) ?_); (try clear hKR KR); (repeat (with_reducible first | refine q1 ?_ | refine q2 ?_ | refine q3 ?_ | refine q4 ?_ | refine q5 ?_ | refine q6 ?_ | (refine q7 ?_ ?_; (focus (with_unfolding_all rfl)))))
  (first | exact hq | (revert hKR; revert KR; exact hq))) : P := h f c1 c2 c3 q
theorem gga6_MQX {C1 C2 C3 C4 C5 C6 P Q : Prop} (c1 : C1) (c2 : C2) (c3 : C3) (c4 : C4) (c5 : C5) (c6 : C6) (q : Q) (h : C1 → C2 → C3 → C4 → C5 → C6 → Q → P := by
  intro cc1 cc2 cc3 cc4 cc5 cc6 hq
  (try with_reducible intro KR hKR)
  (repeat' (first | (with_reducible refine AW_seq ?_) | (with_reducible refine AW_region_k tab_ok fun KR hKR => ?_) | ((first | with_reducible refine AW_skip ?_ | with_reducible refine AW_exit ?_ | ((with_reducible refine awOps_nil ?_); refine hKR _ ?_; (try clear hKR KR))); (repeat (with_reducible first | refine q1 ?_ | refine q2 ?_ | refine q3 ?_ | refine q4 ?_ | refine q5 ?_ | refine q6 ?_ | (refine q7 ?_ ?_; (focus (with_unfolding_all rfl)))))) | ((first | ((with_reducible refine at_ops ?_); (first | refine awOps_n rfl fun KK hKK => ?_ | refine awOps_g rfl rfl fun KK hKK => ?_ | refine awOps_gc rfl fun KK hKK => ?_ | refine awOps_nc fun KK hKK => ?_)) | with_reducible refine AW_cond_k (tab := tab) fun KK hKK => ?_); simp (disch := omega) only [bb, bt, zDs, zD, eqCells, simprocAttr, bne_self_eq_false, Int.reduceBNe, Int.reduceBEq, Bool.bne_false, Bool.bne_true, Bool.false_bne, Bool.true_bne, goC, callO_fn, argsD, and_self]; (try ((first | (with_reducible refine ACall.of_pret (cc1) ?_ ?_; (focus (first | (simp only [um]; done) | rfl))) | (with_reducible refine ACall.of_pret (cc2) ?_ ?_; (focus (first | (simp only [um]; done) | rfl))) | (with_reducible refine ACall.of_pret (cc3) ?_ ?_; (focus (first | (simp only [um]; done) | rfl))) | (with_reducible refine ACall.of_pret (cc4) ?_ ?_; (focus (first | (simp only [um]; done) | rfl))) | (with_reducible refine ACall.of_pret (cc5) ?_ ?_; (focus (first | (simp only [um]; done) | rfl))) | (with_reducible refine ACall.of_pret (cc6) ?_ ?_; (focus (first | (simp only [um]; done) | rfl)))); simp only [afterC, St.put, putTM, ↓reduceIte, Nat.reduceEqDiff])); refine hKK _ ?_; clear hKK KK; (first | with_reducible refine at_ops ?_ | with_reducible refine i1 ?_ | with_reducible refine i0 ?_))))
  (first | exact hq | (revert hKR; revert KR; exact hq))) : P := h c1 c2 c3 c4 c5 c6 q
set_option linter.unusedSimpArgs false

/-! Chapter 16: find, without, modes, freedom, jammed. -/
def findM (s : Sy) (nm : ByteArray) : Int × Int := if validS s = true then (if findR s.rs nm < 0 then (0, 9) else (findR s.rs nm, 0)) else (0, 1)
theorem findM1 (r : Rp) (nm : ByteArray) : PRet Tryz.prog 159 [.agg (rp1 r), .rp [str nm] 0] (bool (decide (r.nm = nm))) := by
  refine PRet.intro 1 fun t => ACall.enter tab_ok Tryz.func159 rfl rfl Tryz.ntmps159 (by simp) ?_
  simp only [enterTM]
  ((refine gga0 ?_))
  ((repeat refine AW_seq ?_); (refine wta ?_); simp (disch := omega) only [retQ, resD, oneD, rsv, rs, rsL, rsL_eq_map, List.map_map, bb, bt, zDs, zD, eqCells, simprocAttr, Tryz.results159])
theorem find_mob (s : Sy) (hf : Fits s) (nm : ByteArray) : PRet Tryz.prog 87 [syD s, str nm] (.tup [int (findM s nm).1, int (findM s nm).2]) := by
  refine PRet.intro 1 fun t => ACall.enter tab_ok Tryz.func87 rfl rfl Tryz.ntmps87 (by simp) ?_
  simp only [enterTM]
  have hV := valid_prog s hf
  have hnr := hf.nr
  have hdr := rpC_div s.rs
  ((refine wqa ?_))
  ((refine AW.freeze (1) (by first | rfl | (simp only [setH, List.getElem?_cons_zero, List.getElem?_cons_succ, fz_bk, fz_rp]; done)) ?_); simp (disch := omega) only [fzT, fz, fzL, fzL_ints, fzL_mat, fzH, fzB, eq_self, bb, bt, zDs, zD, eqCells, simprocAttr, fz_bk, fz_rp])
  have hI := indexFuncRp s.rs 159 [.rp [str nm] 0] (fun b => decide (b.nm = nm)) hnr (fun x _ => findM1 x nm)
  have eI : idx (fun b : Rp => decide (b.nm = nm)) s.rs 0 = findR s.rs nm := rfl
  rw [eI] at hI
  cases hv : validS s
  · rw [hv] at hV
    have e : findM s nm = (0, 1) := by simp [findM, hv]
    ((refine gga1 hV ?_))
    ((repeat refine AW_seq ?_); (refine wta ?_); simp (disch := omega) only [retQ, resD, oneD, rsv, rs, rsL, rsL_eq_map, List.map_map, bb, bt, zDs, zD, eqCells, simprocAttr, Tryz.results87, e])
  rw [hv] at hV
  by_cases hb : findR s.rs nm < 0
  · have e : findM s nm = (0, 9) := by simp [findM, hv, hb]
    ((refine ggb2 hb hV hI ?_))
    ((repeat refine AW_seq ?_); (refine wta ?_); simp (disch := omega) only [retQ, resD, oneD, rsv, rs, rsL, rsL_eq_map, List.map_map, bb, bt, zDs, zD, eqCells, simprocAttr, Tryz.results87, e])
  have e : findM s nm = (findR s.rs nm, 0) := by simp [findM, hv, hb]
  ((refine ggb2 hb hV hI ?_))
  ((repeat refine AW_seq ?_); (refine wta ?_); simp (disch := omega) only [retQ, resD, oneD, rsv, rs, rsL, rsL_eq_map, List.map_map, bb, bt, zDs, zD, eqCells, simprocAttr, Tryz.results87, e])
theorem without_call (l : List Int) (m : List (List Int)) (k : Nat) (hk : k < m.length) (hm : m.length ≤ 1000) (t : Nat) : ACall Tryz.prog 86 [.agg [ints l, mat m], int k] [] t (fun d H' _ => ∃ b g, d = .own 1 b g 0 (m.length - 1) ∧ H'[b]? = some (some ⟨50, g, (m.eraseIdx k).map ints⟩)) := by
  refine ACall.enter tab_ok Tryz.func86 rfl rfl Tryz.ntmps86 (by simp) ?_
  simp only [enterTM]
  have hC := cloneRows m (by omega)
  ((refine wqa ?_))
  ((repeat refine AW_seq ?_); (refine AW_region_k tab_ok fun KR hKR => ?_)); ((refine wra ?_))
  ((first | refine awOps_nc fun KK hKK => ?_ | refine awOps_gc rfl fun KK hKK => ?_); simp (disch := omega) only [bb, bt, zDs, zD, eqCells, simprocAttr, goC, callO_fn, argsD, and_self]; refine ACall.of_fresh (hC) (by first | (simp only [List.map_cons, List.map_nil, List.append_nil, List.nil_append, List.cons_append, ufa, uf]; done) | rfl) ?_; simp (disch := omega) only [bb, bt, zDs, zD, eqCells, simprocAttr, afterC]; refine hKK _ ?_; clear hKK KK)
  ((refine wra ?_))
  ((try with_reducible intro KR hKR); (first | refine awOps_nc fun KK hKK => ?_ | refine awOps_gc rfl fun KK hKK => ?_); simp (disch := omega) only [bb, bt, zDs, zD, eqCells, simprocAttr, goC, callO_fn, argsD, and_self])
  refine delete_mat (bl := ⟨50, t + 1 + 1, m.map ints⟩) (l := m) rfl rfl rfl hk ?_
  (simp (disch := omega) only [bb, bt, zDs, zD, eqCells, simprocAttr, afterC]; refine hKK _ ?_; clear hKK KK)
  ((refine wra ?_)); ((refine wea ?_); (try clear hKR KR))
  ((repeat refine AW_seq ?_); (refine wta ?_); simp (disch := omega) only [retQ, resD, oneD, bb, bt, zDs, zD, eqCells, simprocAttr, Tryz.results86])
  exact ⟨1, t + 1 + 1 + 1, rfl, rfl⟩
theorem without_fresh (l : List Int) (m : List (List Int)) (k : Nat) (hk : k < m.length) (hm : m.length ≤ 1000) : PFresh Tryz.prog 86 [.agg [ints l, mat m], int k] 50 1 (m.length - 1) ((m.eraseIdx k).map ints) :=
  PFresh.intro (plainL_rows _) fun t => (without_call l m k hk hm t).mono fun _ _ _ h => .inr h
theorem without_ret (l : List Int) (m : List (List Int)) (k : Nat) (hk : k < m.length) (hm : m.length ≤ 1000) : PRet Tryz.prog 86 [.agg [ints l, mat m], int k] (mat (m.eraseIdx k)) := by
  refine PRet.intro 2 fun t => (without_call l m k hk hm t).mono ?_
  rintro d H' t' ⟨b, g, rfl, hb⟩
  have hl : (m.eraseIdx k).length = m.length - 1 := List.length_eraseIdx_of_lt hk
  simp only [rsv, rs, hb, if_true]
  have hfin : List.take (m.length - 1) ((m.eraseIdx k).map ints) = (m.eraseIdx k).map ints := List.take_of_length_le (by simp [hl])
  have ht : rsL (fun _ => D.any) H' ((m.eraseIdx k).map ints) = (m.eraseIdx k).map ints := rsL_tidy _ _ _ (tidyL_all fun d hd => by
    obtain ⟨x, _, rfl⟩ := List.mem_map.1 hd
    simp only [tidyD, tidy_ints, Bool.not_false, Bool.and_self])
  rw [rsL_eq_map] at ht
  simp [hfin, hl]
  intro a ha
  exact rs_tidy _ _ _ (by simp only [tidyD, tidy_ints, Bool.not_false, Bool.and_self])
/-! Lists of modes. -/
def unfr : List D → List (Int × Int)
  | .v (.int _ n) :: .v (.int _ d) :: r => (n, d) :: unfr r
  | _ => []
theorem unfr_frC : ∀ l : List (Int × Int), unfr (frC l) = l
  | [] => rfl
  | (n, d) :: l => by
    show (n, d) :: unfr (frC l) = _
    rw [unfr_frC l]
def D.frl : D → List (Int × Int)
  | .sl _ c _ => unfr c
  | _ => []
theorem any_frss (q : List (Int × Int) → Bool) (l : List (List (Int × Int))) : ((l.map frs).any fun d => q d.frl) = l.any q := by
  induction l with
  | nil => rfl
  | cons x r ih => rw [List.map_cons, List.any_cons, List.any_cons, ih]; simp only [D.frl, unfr_frC]
set_option maxHeartbeats 800000 in
theorem indexFuncFrss (l : List D) (g : FuncId) (caps : List D) (p : D → Bool) (hl : l.length ≤ 1000000) (hp : ∀ x ∈ l, PRet Tryz.prog g ((x :: caps).map ufa) (bool (p x))) : PRet Tryz.prog 149 [.sl 1 l false, .fn g caps] (int (idx p l 0)) := by
  refine PRet.intro 1 fun t => ACall.enter tab_ok Tryz.func149 rfl rfl Tryz.ntmps149 (by simp) ?_
  simp only [enterTM]
  ((refine wqa ?_))
  ((refine wqb @Nat.lt_one_iff ?_))
  refine AW_block ?_
  refine AW_loop_w (fun k : Nat => ⟨[(0, .sl 1 l false), (1, .fn g caps), (7, int l.length), (8, int k)], [], t⟩) (fun k => l.length - k) (fun k => k ≤ l.length ∧ idx p l 0 = idx p (l.drop k) k) 0 ⟨Nat.zero_le _, rfl⟩ (by (simp (disch := omega) only [StLe, tmLe, hpLe_refl, hpLe, bl, bb, bt, zDs, zD, eqCells, simprocAttr])) fun k ⟨hk, hi⟩ => ?_
  by_cases hlt : k < l.length
  · obtain ⟨x, hx⟩ : ∃ x, l[k]? = some x := ⟨_, List.getElem?_eq_getElem hlt⟩
    have hm := List.mem_of_getElem? hx
    have hd : l.drop k = x :: l.drop (k + 1) := by
      obtain ⟨h1, h2⟩ := List.getElem?_eq_some_iff.1 hx
      rw [List.drop_eq_getElem_cons h1, h2]
    rw [hd] at hi
    ((refine wqb (F := _∧_) ⟨@Int.ofNat_lt, hlt⟩ ?_))
    ((refine wia ?_))
    ((refine wsa ?_))
    ((repeat refine AW_seq ?_))
    refine AW_block ?_
    ((refine wqa ?_))
    ((repeat refine AW_seq ?_); (refine AW_region_k tab_ok fun KR hKR => ?_)); ((refine wrb (F := _∧_) ⟨hlt, hx⟩ ?_))
    ((refine wka1 (hp x hm) ?_))
    ((refine wea ?_); (try clear hKR KR))
    cases hpx : p x
    · ((refine wib hpx ?_))
      ((refine wsa ?_))
      ((refine wqa ?_))
      refine ⟨k + 1, ⟨hlt, by rw [hi]; simp [idx, hpx]⟩, by omega, ?_⟩
      (simp (disch := omega) only [StLe, tmLe, hpLe_refl, hpLe, bl, bb, bt, zDs, zD, eqCells, simprocAttr])
    · ((refine wib hpx ?_))
      ((refine wqa ?_))
      ((repeat refine AW_seq ?_); (refine wta ?_); simp (disch := omega) only [retQ, resD, oneD, rsv, rs, rsL, rsL_eq_map, List.map_map, bb, bt, zDs, zD, eqCells, simprocAttr, Tryz.results149, hi, idx, hpx])
  · ((refine wqb (F := _∧_) ⟨@Int.ofNat_lt, hlt⟩ ?_))
    ((refine wia ?_))
    ((refine wxa ?_))
    ((refine wqa ?_))
    ((repeat refine AW_seq ?_); (refine wta ?_); simp (disch := omega) only [retQ, resD, oneD, rsv, rs, rsL, rsL_eq_map, List.map_map, bb, bt, zDs, zD, eqCells, simprocAttr, Tryz.results149, hi])
    rw [List.drop_eq_nil_of_le (by omega)]; rfl
theorem containsFuncFrss (l : List D) (g : FuncId) (caps : List D) (p : D → Bool) (hl : l.length ≤ 1000000) (hp : ∀ x ∈ l, PRet Tryz.prog g ((x :: caps).map ufa) (bool (p x))) : PRet Tryz.prog 75 [.sl 1 l false, .fn g caps] (bool (l.any p)) := by
  refine PRet.intro 1 fun t => ACall.enter tab_ok Tryz.func75 rfl rfl Tryz.ntmps75 (by simp) ?_
  simp only [enterTM]
  ((refine wqa ?_))
  ((repeat refine AW_seq ?_); (refine AW_region_k tab_ok fun KR hKR => ?_)); ((refine wra ?_))
  ((refine wka1 (indexFuncFrss l g caps p hl hp) ?_))
  ((refine wra ?_)); ((refine wea ?_); (try clear hKR KR))
  ((repeat refine AW_seq ?_); (refine wta ?_); simp (disch := omega) only [retQ, resD, oneD, rsv, rs, rsL, rsL_eq_map, List.map_map, bb, bt, zDs, zD, eqCells, simprocAttr, Tryz.results75])
  rw [← idx_any p l 0]
theorem frC_get : ∀ (l : List (Int × Int)) (i : Nat) (p : Int × Int), l[i]? = some p → (frC l)[i * 2]? = some (int p.1)
  | [], i, p, h => by simp at h
  | x :: l, 0, p, h => by
    simp at h; subst h; rfl
  | x :: l, i + 1, p, h => by
    have := frC_get l i p (by simpa using h)
    show (int x.1 :: int x.2 :: frC l)[(i + 1) * 2]? = _
    rw [show (i + 1) * 2 = i * 2 + 1 + 1 by omega, List.getElem?_cons_succ, List.getElem?_cons_succ]
    exact this
theorem frC_one {l : List (Int × Int)} {i : Nat} {p : Int × Int} (h : l[i]? = some p) : ((frC l).drop (i * 2)).take 1 = [int p.1] := by
  have := frC_get l i p h
  obtain ⟨h1, h2⟩ := List.getElem?_eq_some_iff.1 this
  rw [List.drop_eq_getElem_cons h1, h2]
  rfl
def movB (k : Nat) (v : List (Int × Int)) : Bool := (v.getD k (0, 0)).1 != 0
theorem jammed1 (v : List (Int × Int)) (k : Nat) (hk : k < v.length) : PRet Tryz.prog 76 [frs v, .rp [int k] 0] (bool (movB k v)) := by
  refine PRet.intro 1 fun t => ACall.enter tab_ok Tryz.func76 rfl rfl Tryz.ntmps76 (by simp) ?_
  simp only [enterTM]
  obtain ⟨f, hf⟩ : ∃ y, v[k]? = some y := ⟨_, List.getElem?_eq_getElem hk⟩
  have hra := frC_get v k f hf
  have hrb := frC_one hf
  have hd := frC_div v
  have e : movB k v = (f.1 != 0) := by unfold movB; rw [List.getD_eq_getElem?_getD, hf]; rfl
  rw [e]
  ((refine ggb0 (F := _∧_∧_∧_) ⟨hk, hd, hra, hrb⟩ ?_))
  ((repeat refine AW_seq ?_); (refine wta ?_); simp (disch := omega) only [retQ, resD, oneD, rsv, rs, rsL, rsL_eq_map, List.map_map, bb, bt, zDs, zD, eqCells, simprocAttr, Tryz.results76])
theorem movesC (L : List (List (Int × Int))) (k : Nat) (hL : L.length ≤ 1000000) (hk : ∀ v ∈ L, k < v.length) : PRet Tryz.prog 75 [frss L, .fn 76 [.rp [int k] 0]] (bool (L.any (movB k))) := by
  have hc := containsFuncFrss (L.map frs) 76 [.rp [int k] 0] (fun d => movB k d.frl) (by simpa using hL) (fun x hx => by
    obtain ⟨v, hv, rfl⟩ := List.mem_map.1 hx
    simp only [D.frl, unfr_frC]
    exact jammed1 v k (hk v hv))
  rwa [any_frss (movB k)] at hc
/-! Modes. -/
def unitR (n i : Nat) : List (Int × Int) := (List.range n).map fun k => (if k = i then 1 else 0, 1)
def unitM (n : Nat) : List (List (Int × Int)) := (List.range n).map (unitR n)
def modesP (s : Sy) : List (List (Int × Int)) × Int := if validS s = true then (if fixA s = [] then (unitM s.bs.length, 0) else nullP (rowsF s (fixA s))) else ([], 1)
theorem fixP_lt {rs : List Rp} {but : Int} {k i : Nat} (h : i ∈ fixP rs but k) : i < k := (fixP_mem.1 h).1
theorem rowsF_valid {s : Sy} (ok : OkS s) {L : List Nat} (h0 : L ≠ []) (h1 : L.length ≤ 6) (h2 : ∀ i ∈ L, i < s.rs.length) : validP (rowsF s L) = true ∧ wid (rowsF s L) = s.bs.length ∧ ∀ r ∈ rowsF s L, r ∈ trS s ∧ r.length = s.bs.length := by
  obtain ⟨tv, tw⟩ := ok.tr_valid
  obtain ⟨m1, m2, m3⟩ := validP_iff.1 tv
  have hm : ∀ r ∈ rowsF s L, r ∈ trS s ∧ r.length = s.bs.length := fun r hr => by
    unfold rowsF at hr
    obtain ⟨i, hi, rfl⟩ := List.mem_map.1 hr
    have hlt : i < (trS s).length := by rw [ok.tr_len]; exact h2 i hi
    have e : (trS s).getD i [] = (trS s)[i] := by rw [List.getD_eq_getElem?_getD, List.getElem?_eq_getElem hlt]; rfl
    rw [e]
    exact ⟨List.getElem_mem _, by rw [(m3 _ (List.getElem_mem _)).1, tw]⟩
  have hw : wid (rowsF s L) = s.bs.length := by
    cases hL : L with
    | nil => exact absurd hL h0
    | cons i L' =>
      have := (hm ((trS s).getD i []) (by rw [hL]; simp [rowsF])).2
      rw [← this]
      rfl
  refine ⟨validP_iff.2 ⟨⟨?_, ?_⟩, ?_, fun r hr => ⟨?_, ?_⟩⟩, hw, hm⟩
  · rw [rowsF_len]
    exact List.length_pos_iff.2 h0
  · rw [rowsF_len]
    exact h1
  · rw [hw, ← tw]
    exact m2
  · rw [hw]
    exact (hm r hr).2
  · exact (m3 r (hm r hr).1).2
end Go.Proofs.YtjjpjgnoanfaoaaGreat.T
end

section
namespace Go.Proofs.YtjjpjgnoanfaoaaGreat.T
open Go Go.RowKit Lin
set_option linter.unusedSimpArgs false

/-! Chapter 16: modes, freedom, jammed. -/
def unitC (k j : Nat) : List (Int × Int) := (List.range j).map fun i => (if i = k then 1 else 0, 1)
theorem unitC_succ (k j : Nat) : unitC k (j + 1) = unitC k j ++ [(if j = k then 1 else 0, 1)] := by simp [unitC, List.range_succ]
theorem unitC_len (k j : Nat) : (unitC k j).length = j := by simp [unitC]
def unitL (n k : Nat) : List (List (Int × Int)) := (List.range k).map (unitR n)
theorem unitL_succ (n k : Nat) : unitL n (k + 1) = unitL n k ++ [unitC k n] := by simp [unitL, List.range_succ, unitR, unitC]
theorem unitL_len (n k : Nat) : (unitL n k).length = k := by simp [unitL]
theorem frC_push (l : List (Int × Int)) (x : Int × Int) : frC (l ++ [x]) = frC l ++ [int x.1, int x.2] := by simp [frC]
theorem fzS_fr (b g : Nat) (cs : List D) : ∀ l : List (Int × Int), fzL b g cs (frC l) = frC l
  | [] => rfl
  | x :: l => by
    show fzL b g cs (int x.1 :: int x.2 :: frC l) = _
    simp only [fzL, fz, fzS_fr b g cs l]
    rfl
theorem fzS_frss (b g : Nat) (cs : List D) : ∀ l : List (List (Int × Int)), fzL b g cs (l.map frs) = l.map frs
  | [] => rfl
  | x :: l => by simp only [List.map_cons, fzL, fz, fzS_fr, fzS_frss b g cs l]
abbrev nilF : D := .sl 2 [] true
theorem nilsF (n : Nat) : (List.replicate n [nilF]).flatten = List.replicate n nilF := by simp
theorem colF_push {cells : List D} {n k : Nat} (hc : cells.length = k) (hk : k < n) (c d : D) : (cells ++ c :: List.replicate (n - (k + 1)) nilF).set k d = cells ++ d :: List.replicate (n - (k + 1)) nilF := by
  rw [List.set_append_right _ _ (by omega), hc, Nat.sub_self, List.set_cons_zero]
theorem colF_get {cells : List D} {n k : Nat} (hc : cells.length = k) (c : D) : (cells ++ c :: List.replicate (n - (k + 1)) nilF)[k]? = some c := by
  rw [List.getElem?_append_right (by omega), hc, Nat.sub_self, List.getElem?_cons_zero]
theorem colF_nil {cells : List D} {n k : Nat} (hk : k < n) : cells ++ List.replicate (n - k) nilF = cells ++ nilF :: List.replicate (n - (k + 1)) nilF := by
  rw [show n - k = (n - (k + 1)) + 1 by omega, List.replicate_succ]
theorem fz_nilsF (b g : Nat) (cs : List D) : ∀ k, fzL b g cs (List.replicate k nilF) = List.replicate k nilF
  | 0 => rfl
  | k + 1 => by simp only [List.replicate_succ, fzL, fz, fz_nilsF b g cs k]
set_option maxHeartbeats 4000000 in
theorem modes_prog (s : Sy) (hf : Fits s) : PRet Tryz.prog 17 [syD s] (.tup [frss (modesP s).1, int (modesP s).2]) := by
  refine PRet.intro 1 fun t => ACall.enter tab_ok Tryz.func17 rfl rfl Tryz.ntmps17 (by simp) ?_
  simp only [enterTM]
  have hO := of_prog s hf
  have hdb := bkC_div s.bs
  cases hv : validS s
  · rw [hv] at hO
    simp only [Bool.false_eq_true, if_false] at hO
    have e : modesP s = ([], 1) := by simp [modesP, hv]
    ((refine gga1 hO ?_))
    ((repeat refine AW_seq ?_); (refine wta ?_); simp (disch := omega) only [retQ, resD, oneD, rsv, rs, rsL, rsL_eq_map, List.map_map, bb, bt, zDs, zD, eqCells, simprocAttr, Tryz.results17, e])
    rfl
  rw [hv] at hO
  simp only [if_true] at hO
  have ok := validS_ok hv
  have hb6 := ok.b6
  have hr6 := ok.r6
  by_cases h0 : fixA s = []
  rotate_left 1
  · have hfl := fixP_len s.rs (-1) s.rs.length
    obtain ⟨rv, rw', rm⟩ := rowsF_valid ok h0 (by unfold fixA; omega) (fun i hi => fixP_lt hi)
    have hN := null (rowsF s (fixA s)) (by rw [rowsF_len]; unfold fixA; omega) (fun r hr => by rw [(rm r hr).2]; omega)
    have e : modesP s = nullP (rowsF s (fixA s)) := by simp [modesP, hv, h0]
    have hp : (0 : Int) < ((rowsF s (fixA s)).length : Int) := by
      rw [rowsF_len]
      have := List.length_pos_iff.2 h0
      omega
    rw [e]
    generalize nullP (rowsF s (fixA s)) = Y at *
    ((refine ggb2 hp hO hN ?_))
    ((repeat refine AW_seq ?_); (refine wta ?_); simp (disch := omega) only [retQ, resD, oneD, bb, bt, zDs, zD, eqCells, simprocAttr, Tryz.results17])
    exact rsv_tidy _ _ (by simp only [tidyD, tidyL, tidy_frss, Bool.not_false, Bool.and_self])
  have e : modesP s = (unitM s.bs.length, 0) := by simp [modesP, hv, h0]
  rw [h0] at hO
  have e1 : nums [] = [] := rfl
  have e2 : rowsF s [] = [] := rfl
  rw [e1, e2] at hO
  rw [e]
  have eM : unitM s.bs.length = unitL s.bs.length s.bs.length := rfl
  simp only [eM]
  generalize hn : s.bs.length = n at *
  ((refine ggb1 hdb hO ?_))
  rw [nilsF]
  ((repeat refine AW_seq ?_))
  refine AW_mid (fun x : Nat => ⟨[(6, .own 1 2 (t + 1 + 1 + 1) 0 n)], [none, none, some ⟨40, t + 1 + 1 + 1, (unitL n n).map frs⟩], x⟩) (fun _ => True) ?_ ?_
  · refine AW_block ?_
    refine AW_loop_w (fun x : Nat × Nat => ⟨[(1, .ptr 0 (t + 1) 0), (6, .own 1 2 (t + 1 + 1 + 1) 0 n), (32, int n), (33, int x.1)], [some ⟨25, t + 1, [bks s.bs, rps s.rs]⟩, none, some ⟨40, t + 1 + 1 + 1, (unitL n x.1).map frs ++ List.replicate (n - x.1) nilF⟩], x.2⟩) (fun x => n - x.1) (fun x => x.1 ≤ n) (0, t + 1 + 1 + 1) (Nat.zero_le _) (by (simp (disch := omega) only [StLe, tmLe, hpLe_refl, hpLe, bl, bb, bt, zDs, zD, eqCells, simprocAttr, unitL, List.range_zero, List.map_nil, Nat.sub_zero])) ?_
    rintro ⟨k, tt⟩ hk
    simp only at hk
    have htl : ((unitL n k).map frs).length = k := by rw [List.length_map, unitL_len]
    by_cases hlt : k < n
    · rw [colF_nil hlt]
      ((refine ggb0 (F := _∧_) ⟨@Int.ofNat_lt, hlt⟩ ?_))
      ((repeat refine AW_seq ?_))
      refine AW_block ?_
      ((refine ggb0 hdb ?_))
      have hg1 := colF_get (n := n) htl nilF
      have hs1 := fun c d => colF_push (n := n) htl hlt c d
      refine AW.begin_cell 2 k 2 43 rfl hg1 (by decide) ?_
      simp only [List.set_cons_succ, List.set_cons_zero, List.length_cons, List.length_nil, List.cons_append, List.nil_append, Nat.zero_add, Nat.reduceAdd, hs1]
      have htl2 : (unitL n k).length = k := unitL_len n k
      have hrl : (List.replicate (n - (k + 1)) nilF).length = n - (k + 1) := by simp
      have hkn : k < k + (n - (k + 1) + 1) := by omega
      refine AW_block ?_
      refine AW_loop_w (fun x : Nat × Nat × Nat => ⟨[(1, .ptr 0 (t + 1) 0), (6, .own 1 2 (t + 1 + 1 + 1) 0 n), (7, int k), (32, int n), (33, int k), (38, int n), (39, int x.1)], [some ⟨25, t + 1, [bks s.bs, rps s.rs]⟩, none, some ⟨40, t + 1 + 1 + 1, (unitL n k).map frs ++ .own 2 3 x.2.1 0 x.1 :: List.replicate (n - (k + 1)) nilF⟩, some ⟨43, x.2.1, frC (unitC k x.1)⟩], x.2.2⟩) (fun x => n - x.1) (fun x => x.1 ≤ n) (0, tt + 1, tt + 1) (Nat.zero_le _) (by (simp (disch := omega) only [StLe, tmLe, hpLe_refl, hpLe, bl, bb, bt, zDs, zD, eqCells, simprocAttr, unitC, List.range_zero, List.map_nil, frC, List.flatMap_nil])) ?_
      rintro ⟨j, g, t2⟩ hj
      simp only at hj
      by_cases hlj : j < n
      · have hct := unitC_succ k j
        have hcl := unitC_len k j
        have hfl : (frC (unitC k j)).length = j * 2 := by rw [frC_len, hcl]
        have hg2 := fun c => colF_get (n := n) htl c
        ((refine ggb0 (F := _∧_) ⟨@Int.ofNat_lt, hlj⟩ ?_))
        ((repeat refine AW_seq ?_))
        refine AW_block ?_
        by_cases hjk : j = k
        · have ejk : ((j : Int) == (k : Int)) = true := by simp [hjk]
          rw [if_pos hjk] at hct
          ((refine ggb0 ejk ?_))
          ((repeat refine AW_seq ?_); (refine gdzb (F := _∧_∧_∧_∧_∧_∧_) ⟨hg2, hs1, hcl, hfl, hkn, htl2, hrl⟩ ?_))
          ((refine gga0 ?_))
          refine ⟨(j + 1, t2 + 1 + 1, t2 + 1 + 1), hlj, by show n - (j + 1) < n - j; omega, ?_⟩
          simp only [hct, frC_push]
          (simp (disch := omega) only [StLe, tmLe, hpLe_refl, hpLe, bl, bb, bt, zDs, zD, eqCells, simprocAttr])
        · have ejk : ((j : Int) == (k : Int)) = false := by simp; omega
          rw [if_neg hjk] at hct
          ((refine ggb0 ejk ?_))
          ((repeat refine AW_seq ?_); (refine gdzb (F := _∧_∧_∧_∧_∧_∧_) ⟨hg2, hs1, hcl, hfl, hkn, htl2, hrl⟩ ?_))
          ((refine gga0 ?_))
          refine ⟨(j + 1, t2 + 1 + 1, t2 + 1 + 1), hlj, by show n - (j + 1) < n - j; omega, ?_⟩
          simp only [hct, frC_push]
          (simp (disch := omega) only [StLe, tmLe, hpLe_refl, hpLe, bl, bb, bt, zDs, zD, eqCells, simprocAttr])
      · have hje : j = n := by omega
        subst hje
        have hcl := unitC_len k j
        have hfl : (frC (unitC k j)).length = j * 2 := by rw [frC_len, hcl]
        have hfin : List.take (j * 2) (frC (unitC k j)) = frC (unitC k j) := List.take_of_length_le (by omega)
        ((refine wqb @Int.lt_irrefl ?_))
        ((refine wia ?_))
        ((refine wxa ?_))
        ((refine AW.freeze (3) (by first | rfl | (simp only [setH, List.getElem?_cons_zero, List.getElem?_cons_succ, fzL_app, fz_nilsF, fzS_frss, fz_bk, fz_rp, hcl, hfl, hfin, List.length_map, Nat.le_refl]; done)) ?_); simp (disch := omega) only [fzT, fz, fzL, fzL_ints, fzL_mat, fzH, fzB, eq_self, bb, bt, zDs, zD, eqCells, simprocAttr, fzL_app, fz_nilsF, fzS_frss, fz_bk, fz_rp, hcl, hfl, hfin, List.length_map, Nat.le_refl])
        ((refine gga0 ?_))
        refine ⟨(k + 1, t2), hlt, by show j - (k + 1) < j - k; omega, ?_⟩
        simp only [unitL_succ, List.map_append, List.map_cons, List.map_nil, List.append_assoc, List.cons_append, List.nil_append]
        (simp (disch := omega) only [StLe, tmLe, hpLe_refl, hpLe, bl, bb, bt, zDs, zD, eqCells, simprocAttr])
    · have hke : k = n := by omega
      subst hke
      ((refine ggb0 @Int.lt_irrefl ?_))
      exact ⟨tt, trivial, by (simp (disch := omega) only [StLe, tmLe, hpLe_refl, hpLe, bl, bb, bt, zDs, zD, eqCells, simprocAttr, Nat.sub_self, List.replicate_zero, List.append_nil])⟩
  rintro tt -
  have hfin : List.take n ((unitL n n).map frs) = (unitL n n).map frs := List.take_of_length_le (by simp [unitL_len])
  have htl := unitL_len n n
  ((refine AW.freeze (2) (by first | rfl | (simp only [setH, List.getElem?_cons_zero, List.getElem?_cons_succ, hfin, htl, fzS_frss, List.length_map, Nat.le_refl]; done)) ?_); simp (disch := omega) only [fzT, fz, fzL, fzL_ints, fzL_mat, fzH, fzB, eq_self, bb, bt, zDs, zD, eqCells, simprocAttr, hfin, htl, fzS_frss, List.length_map, Nat.le_refl])
  ((refine gga0 ?_))
  ((repeat refine AW_seq ?_); (refine wta ?_); simp (disch := omega) only [retQ, resD, oneD, bb, bt, zDs, zD, eqCells, simprocAttr, Tryz.results17])
  refine rsv_tidy _ _ ?_
  have := tidy_frss (unitL n n)
  simp only [tidyD, tidyL, Bool.not_false, Bool.and_true, Bool.true_and] at this ⊢
  exact this
theorem freedom_prog (s : Sy) (hf : Fits s) : PRet Tryz.prog 16 [syD s] (.tup [int (modesP s).1.length, int (modesP s).2]) := by
  refine PRet.intro 1 fun t => ACall.enter tab_ok Tryz.func16 rfl rfl Tryz.ntmps16 (by simp) ?_
  simp only [enterTM]
  have hM := modes_prog s hf
  generalize modesP s = Y at *
  ((refine gga1 hM ?_))
  ((repeat refine AW_seq ?_); (refine wta ?_); simp (disch := omega) only [retQ, resD, oneD, rsv, rs, rsL, rsL_eq_map, List.map_map, bb, bt, zDs, zD, eqCells, simprocAttr, Tryz.results16])
/-- Modes are as long as the blocks are many. -/
theorem modesP_facts (s : Sy) : (∀ v ∈ (modesP s).1, v.length = s.bs.length) ∧ (modesP s).1.length ≤ 12 ∧ ((modesP s).2 = 0 ↔ validS s = true) := by
  unfold modesP
  cases hv : validS s
  · simp
  have ok := validS_ok hv
  have hr6 := ok.r6
  have hb6 := ok.b6
  simp only [if_true]
  by_cases h0 : fixA s = []
  · rw [if_pos h0]
    refine ⟨fun v hv => ?_, by simp [unitM]; omega, by simp⟩
    obtain ⟨i, _, rfl⟩ := List.mem_map.1 hv
    simp [unitR]
  · rw [if_neg h0]
    have hfl := fixP_len s.rs (-1) s.rs.length
    obtain ⟨rv, rw', rm⟩ := rowsF_valid ok h0 (by unfold fixA; omega) (fun i hi => fixP_lt hi)
    unfold nullP
    rw [if_pos rv]
    refine ⟨fun v hv => ?_, ?_, by simp⟩
    · obtain ⟨c, _, _, rfl⟩ := nulls_mem _ _ _ v hv
      rw [nvec_len, rw']
    · have := nulls_len (elim (rowsF s (fixA s)) (wid (rowsF s (fixA s)))) (wid (rowsF s (fixA s))) (wid (rowsF s (fixA s)))
      simp only
      omega
abbrev strsD (l : List ByteArray) : D := .sl 1 (l.map str) false
def jamN (bs : List Bk) (L : List (List (Int × Int))) (k : Nat) : List ByteArray := ((List.range k).filter fun i => !L.any (movB i)).map fun i => (bs.getD i ⟨ByteArray.empty, 0⟩).nm
theorem jamN_step {bs : List Bk} {L : List (List (Int × Int))} {k : Nat} {b : Bk} (hb : bs[k]? = some b) : jamN bs L (k + 1) = if L.any (movB k) = true then jamN bs L k else jamN bs L k ++ [b.nm] := by
  unfold jamN
  rw [List.range_succ, List.filter_append, List.map_append]
  have e : (bs.getD k ⟨ByteArray.empty, 0⟩).nm = b.nm := by rw [List.getD_eq_getElem?_getD, hb]; rfl
  cases h : L.any (movB k)
  · rw [List.filter_cons_of_pos (by simp [h]), List.filter_nil, List.map_cons, List.map_nil, e]
    simp
  · rw [List.filter_cons_of_neg (by simp [h])]
    simp
theorem jamN_len (bs : List Bk) (L : List (List (Int × Int))) (k : Nat) : (jamN bs L k).length ≤ k := by
  have := List.length_filter_le (fun i => !L.any (movB i)) (List.range k)
  simpa [jamN] using this
def jamP (s : Sy) : List ByteArray × Int := if (modesP s).2 = 0 then (jamN s.bs (modesP s).1 s.bs.length, 0) else ([], (modesP s).2)
theorem fzS_str (b g : Nat) (cs : List D) : ∀ l : List ByteArray, fzL b g cs (l.map str) = l.map str
  | [] => rfl
  | x :: l => by simp only [List.map_cons, fzL, fz, fzS_str b g cs l]
theorem tidy_strs (l : List ByteArray) : tidyL (l.map str) = true := tidyL_all fun d hd => by obtain ⟨x, _, rfl⟩ := List.mem_map.1 hd; rfl
set_option maxHeartbeats 4000000 in
theorem jammed_prog (s : Sy) (hf : Fits s) : PRet Tryz.prog 18 [syD s] (.tup [strsD (jamP s).1, int (jamP s).2]) := by
  refine PRet.intro 1 fun t => ACall.enter tab_ok Tryz.func18 rfl rfl Tryz.ntmps18 (by simp) ?_
  simp only [enterTM]
  have hM := modes_prog s hf
  have hdb := bkC_div s.bs
  obtain ⟨ml, mn, mv⟩ := modesP_facts s
  unfold jamP
  generalize modesP s = Y at *
  obtain ⟨L, ey⟩ := Y
  simp only at *
  cases hy : (ey == 0)
  · have hy' : (ey != 0) = true := by simpa using hy
    rw [if_neg (by simpa using hy)]
    ((refine ggb1 hy' hM ?_))
    ((repeat refine AW_seq ?_); (refine wta ?_); simp (disch := omega) only [retQ, resD, oneD, rsv, rs, rsL, rsL_eq_map, List.map_map, bb, bt, zDs, zD, eqCells, simprocAttr, Tryz.results18])
    rfl
  have hy' : (ey != 0) = false := by simpa using hy
  rw [if_pos (by simpa using hy)]
  ((refine ggb1 (F := _∧_) ⟨hy', hdb⟩ hM ?_))
  refine AW.begin 6 1 9 rfl (by decide) ?_
  simp only [putTM, List.length_cons, List.length_nil, Nat.reduceEqDiff, ↓reduceIte, List.cons_append, List.nil_append]
  refine AW_mid (fun x : Nat × Nat => ⟨[(6, .own 1 1 x.1 0 (jamN s.bs L s.bs.length).length)], [none, some ⟨9, x.1, (jamN s.bs L s.bs.length).map str⟩], x.2⟩) (fun _ => True) ?_ ?_
  · refine AW_block ?_
    refine AW_loop_w (fun x : Nat × Nat × Nat => ⟨[(1, .ptr 0 (t + 1) 0), (4, frss L), (6, .own 1 1 x.2.1 0 (jamN s.bs L x.1).length), (18, bks s.bs), (19, int s.bs.length), (20, int x.1)], [some ⟨25, t + 1, [bks s.bs, rps s.rs]⟩, some ⟨9, x.2.1, (jamN s.bs L x.1).map str⟩], x.2.2⟩) (fun x => s.bs.length - x.1) (fun x => x.1 ≤ s.bs.length) (0, t + 1 + 1, t + 1 + 1) (Nat.zero_le _) (by (simp (disch := omega) only [StLe, tmLe, hpLe_refl, hpLe, bl, bb, bt, zDs, zD, eqCells, simprocAttr, jamN, List.range_zero, List.filter_nil, List.map_nil, List.length_nil])) ?_
    rintro ⟨k, g, tt⟩ hk
    simp only at hk
    by_cases hlt : k < s.bs.length
    · obtain ⟨b, hb⟩ : ∃ y, s.bs[k]? = some y := ⟨_, List.getElem?_eq_getElem hlt⟩
      have hra := bkC_read s.bs k b hb
      have hst := jamN_step (L := L) hb
      have hjl := jamN_len s.bs L k
      have hC := movesC L k (by omega) (fun v hv => by rw [ml v hv]; exact hlt)
      have hnl := hf.nb
      generalize jamN s.bs L k = J at *
      ((refine ggb0 (F := _∧_∧_) ⟨@Int.ofNat_lt, hlt, hdb⟩ ?_))
      ((repeat refine AW_seq ?_))
      refine AW_block ?_
      ((refine wqb (F := _∧_∧_) ⟨hlt, hdb, hra⟩ ?_))
      ((refine AW.freeze (2) (by first | rfl | (simp only [setH, List.getElem?_cons_zero, List.getElem?_cons_succ, fz_bk, fz_rp, fzS_str, fzS_frss]; done)) ?_); simp (disch := omega) only [fzT, fz, fzL, fzL_ints, fzL_mat, fzH, fzB, eq_self, bb, bt, zDs, zD, eqCells, simprocAttr, fz_bk, fz_rp, fzS_str, fzS_frss])
      cases hj : L.any (movB k)
      · rw [hj] at hC hst
        ((refine gga1 hC ?_))
        refine ⟨(k + 1, tt + 1 + 1 + 1, tt + 1 + 1 + 1), hlt, by show s.bs.length - (k + 1) < s.bs.length - k; omega, ?_⟩
        simp only [hst, Bool.false_eq_true, if_false, List.length_append, List.length_cons, List.length_nil, List.map_append, List.map_cons, List.map_nil]
        (simp (disch := omega) only [StLe, tmLe, hpLe_refl, hpLe, bl, bb, bt, zDs, zD, eqCells, simprocAttr])
      · rw [hj] at hC hst
        ((refine gga1 hC ?_))
        refine ⟨(k + 1, g, tt + 1 + 1), hlt, by show s.bs.length - (k + 1) < s.bs.length - k; omega, ?_⟩
        simp only [hst, if_true]
        (simp (disch := omega) only [StLe, tmLe, hpLe_refl, hpLe, bl, bb, bt, zDs, zD, eqCells, simprocAttr])
    · have hke : k = s.bs.length := by omega
      subst hke
      ((refine wqb (F := _∧_) ⟨@Int.lt_irrefl, hdb⟩ ?_))
      ((refine wia ?_))
      ((refine wxa ?_))
      exact ⟨(g, tt), trivial, by (simp (disch := omega) only [StLe, tmLe, hpLe_refl, hpLe, bl, bb, bt, zDs, zD, eqCells, simprocAttr])⟩
  rintro ⟨g, tt⟩ -
  generalize jamN s.bs L s.bs.length = J at *
  have hfin : List.take J.length (J.map str) = J.map str := List.take_of_length_le (by simp)
  ((refine AW.freeze (1) (by first | rfl | (simp only [setH, List.getElem?_cons_zero, List.getElem?_cons_succ, hfin, fzS_str, List.length_map, Nat.le_refl]; done)) ?_); simp (disch := omega) only [fzT, fz, fzL, fzL_ints, fzL_mat, fzH, fzB, eq_self, bb, bt, zDs, zD, eqCells, simprocAttr, hfin, fzS_str, List.length_map, Nat.le_refl])
  ((refine gga0 ?_))
  ((repeat refine AW_seq ?_); (refine wta ?_); simp (disch := omega) only [retQ, resD, oneD, bb, bt, zDs, zD, eqCells, simprocAttr, Tryz.results18])
  exact rsv_tidy _ _ (by simp only [tidyD, tidyL, tidy_strs, Bool.not_false, Bool.and_self])
end Go.Proofs.YtjjpjgnoanfaoaaGreat.T
end

section
namespace Go.Proofs.YtjjpjgnoanfaoaaGreat.T
open Go Go.RowKit Lin
set_option linter.unusedSimpArgs false

/-! Chapter 16: witnesses. -/
theorem idxN_hit (x : Int) : ∀ (l : List Int) (n : Nat), ¬ idxN x l n < 0 → ∃ k : Nat, idxN x l n = (n + k : Nat) ∧ l[k]? = some x
  | [], n, h => by simp [idxN] at h
  | y :: r, n, h => by
    by_cases e : x = y
    · subst e
      exact ⟨0, by simp [idxN], by simp⟩
    · simp only [idxN, if_neg e] at h ⊢
      obtain ⟨k, h1, h2⟩ := idxN_hit x r (n + 1) h
      exact ⟨k + 1, by rw [h1]; omega, by simpa using h2⟩
theorem findM_ok {s : Sy} {nm : ByteArray} (h : (findM s nm).2 = 0) : validS s = true ∧ ∃ (i : Nat) (r : Rp), findM s nm = ((i : Int), 0) ∧ s.rs[i]? = some r ∧ r.nm = nm := by
  unfold findM at h ⊢
  cases hv : validS s
  · rw [hv] at h; simp at h
  rw [hv] at h
  simp only [if_true] at h ⊢
  by_cases hb : findR s.rs nm < 0
  · rw [if_pos hb] at h; simp at h
  rw [if_neg hb]
  refine ⟨trivial, ?_⟩
  obtain ⟨h1, h2⟩ := idx_lt (fun r : Rp => decide (r.nm = nm)) s.rs 0
  cases ha : s.rs.any fun r : Rp => decide (r.nm = nm)
  · exact absurd (h2 ha) (by unfold findR at hb; omega)
  · obtain ⟨k, x, e1, e2, e3⟩ := h1 ha
    refine ⟨k, x, ?_, e2, by simpa using e3⟩
    unfold findR
    rw [e1]
    simp
theorem turn_valid {C : List (List Int)} (hv : validP C = true) (h6 : wid C ≤ 6) : validP (turnP C (wid C)) = true ∧ wid (turnP C (wid C)) = C.length := by
  obtain ⟨m1, m2, m3⟩ := validP_iff.1 hv
  have hrow : ∀ r ∈ turnP C (wid C), r.length = C.length ∧ ∀ x ∈ r, -32 ≤ x ∧ x ≤ 32 := fun r hr => by
    obtain ⟨j, hj, rfl⟩ := List.mem_map.1 hr
    refine ⟨by simp [colP], fun x hx => ?_⟩
    obtain ⟨q, hq, rfl⟩ := List.mem_map.1 hx
    exact at_bound (by decide) (m3 q hq).2 j
  have hl := turnP_len C (wid C)
  have hw : wid (turnP C (wid C)) = C.length := by
    obtain ⟨r, rs, e⟩ : ∃ r rs, turnP C (wid C) = r :: rs := by
      cases hr : turnP C (wid C) with
      | nil => rw [hr] at hl; simp at hl; omega
      | cons a b => exact ⟨a, b, rfl⟩
    unfold wid
    unfold wid at e hrow
    rw [e, List.headD_cons]
    exact (hrow r (by rw [e]; simp)).1
  exact ⟨validP_iff.2 ⟨by omega, by omega, fun r hr => ⟨by rw [hw]; exact (hrow r hr).1, (hrow r hr).2⟩⟩, hw⟩
def rkF (s : Sy) (L : List Nat) : Nat := rankP (rowsF s L) (wid (rowsF s L))
def colsW (s : Sy) (L : List Nat) (k i : Nat) : List (List Int) := turnP (rowsF s (L.eraseIdx k ++ [i])) s.bs.length
def putW (v : List (Int × Int)) (os : List Nat) (n : Nat) : Nat → List (Int × Int)
  | 0 => List.replicate n (0, 1)
  | j + 1 => (putW v os n j).set (os.getD j 0) (v.getD j (0, 0))
theorem putW_len (v : List (Int × Int)) (os : List Nat) (n : Nat) : ∀ j, (putW v os n j).length = n
  | 0 => by simp [putW]
  | j + 1 => by simp [putW, putW_len v os n j]
def witV (s : Sy) (L : List Nat) (k i : Nat) (v : List (Int × Int)) : List (Int × Int) := (putW v (L.eraseIdx k) s.rs.length (L.eraseIdx k).length).set i (v.getD (v.length - 1) (0, 0))
def witK (s : Sy) (L : List Nat) (k i : Nat) : List (Int × Int) × Int :=
  if rkF s (L.eraseIdx k) < rkF s L then ([], 12)
  else if (nullP (colsW s L k i)).1 = [] then ([], 12)
  else (witV s L k i ((nullP (colsW s L k i)).1.getD ((nullP (colsW s L k i)).1.length - 1) []), 0)
def witP (s : Sy) (nm : ByteArray) : List (Int × Int) × Int :=
  if (findM s nm).2 ≠ 0 then ([], (findM s nm).2)
  else if idxN (findM s nm).1 (nums (fixA s)) 0 < 0 then ([], 12)
  else witK s (fixA s) (idxN (findM s nm).1 (nums (fixA s)) 0).toNat (findM s nm).1.toNat
theorem rowsF_erase (s : Sy) (L : List Nat) (k : Nat) : (rowsF s L).eraseIdx k = rowsF s (L.eraseIdx k) := erase_map _ _ _
theorem nums_erase (L : List Nat) (k : Nat) : (nums L).eraseIdx k = nums (L.eraseIdx k) := erase_map _ _ _
theorem rank_rows {s : Sy} (ok : OkS s) {L : List Nat} (h1 : L.length ≤ 6) (h2 : ∀ i ∈ L, i < s.rs.length) : PRet Tryz.prog 85 [mat (rowsF s L)] (int (rkF s L)) := by
  have hb6 := ok.b6
  refine rank_mob _ (by rw [rowsF_len]; omega) (fun r hr => ?_) (fun h => ?_)
  · have h0 : L ≠ [] := fun e => by subst e; simp [rowsF] at hr
    rw [((rowsF_valid ok h0 h1 h2).2.2 r hr).2]
    omega
  · exact (rowsF_valid ok (fun e => h (by subst e; rfl)) h1 h2).1
set_option maxHeartbeats 8000000 in
theorem witness_prog (s : Sy) (hf : Fits s) (nm : ByteArray) : PRet Tryz.prog 26 [syD s, str nm] (.tup [frs (witP s nm).1, int (witP s nm).2]) := by
  refine PRet.intro 1 fun t => ACall.enter tab_ok Tryz.func26 rfl rfl Tryz.ntmps26 (by simp) ?_
  simp only [enterTM]
  have hF := find_mob s hf nm
  have hO := of_prog s hf
  have hdb := bkC_div s.bs
  have hdr := rpC_div s.rs
  by_cases h0 : (findM s nm).2 = 0
  rotate_left 1
  · have h0' : ((findM s nm).2 != 0) = true := by simpa using h0
    have e : witP s nm = ([], (findM s nm).2) := by simp [witP, h0]
    generalize findM s nm = Z at *
    ((refine ggb1 h0' hF ?_))
    ((repeat refine AW_seq ?_); (refine wta ?_); simp (disch := omega) only [retQ, resD, oneD, rsv, rs, rsL, rsL_eq_map, List.map_map, bb, bt, zDs, zD, eqCells, simprocAttr, Tryz.results26, e])
    rfl
  obtain ⟨hv, i, r, hZ, hri, hrn⟩ := findM_ok h0
  rw [hv] at hO
  simp only [if_true] at hO
  rw [hZ] at hF
  have ok := validS_ok hv
  have hb6 := ok.b6
  have hr6 := ok.r6
  have hfl := fixP_len s.rs (-1) s.rs.length
  have hlt : ∀ j ∈ fixA s, j < s.rs.length := fun j hj => fixP_lt hj
  have hil := (List.getElem?_eq_some_iff.1 hri).1
  have e : witP s nm = if idxN (i : Int) (nums (fixA s)) 0 < 0 then ([], 12) else witK s (fixA s) (idxN (i : Int) (nums (fixA s)) 0).toNat i := by
    unfold witP
    rw [hZ]
    simp
  rw [e]
  clear e
  replace hfl : (fixA s).length ≤ 6 := Nat.le_trans hfl hr6
  generalize fixA s = L at *
  have hnl := nums_len L
  have hX := indexInts (nums L) (i : Int) (by omega)
  by_cases hk : idxN (i : Int) (nums L) 0 < 0
  · rw [if_pos hk]
    generalize idxN (i : Int) (nums L) 0 = K at *
    ((refine gga3 hF hO hX ?_))
    ((repeat refine AW_seq ?_); (refine gdzb hk ?_))
    ((refine gga0 ?_))
    ((repeat refine AW_seq ?_); (refine wta ?_); simp (disch := omega) only [retQ, resD, oneD, rsv, rs, rsL, rsL_eq_map, List.map_map, bb, bt, zDs, zD, eqCells, simprocAttr, Tryz.results26])
    rfl
  rw [if_neg hk]
  obtain ⟨k, hk1, hk2⟩ := idxN_hit (i : Int) (nums L) 0 hk
  rw [Nat.zero_add] at hk1
  rw [hk1, Int.toNat_natCast]
  rw [hk1] at hX
  have hkn : k < (nums L).length := (List.getElem?_eq_some_iff.1 hk2).1
  have hkl : k < L.length := by omega
  have hLk : L[k]? = some i := by
    unfold nums at hk2
    rw [List.getElem?_map] at hk2
    cases hq : L[k]? with
    | none => rw [hq] at hk2; simp at hk2
    | some y => rw [hq] at hk2; simp at hk2; exact congrArg some (by omega)
  have hrl := rowsF_len s L
  have hMk : (rowsF s L)[k]? = some ((trS s).getD i []) := by unfold rowsF; rw [List.getElem?_map, hLk]; rfl
  have hel : (L.eraseIdx k).length = L.length - 1 := List.length_eraseIdx_of_lt hkl
  have helt : ∀ j ∈ L.eraseIdx k, j < s.rs.length := fun j hj => hlt j (List.mem_of_mem_eraseIdx hj)
  have hW := without_ret (nums L) (rowsF s L) k (by omega) (by omega)
  have hWf := without_fresh (nums L) (rowsF s L) k (by omega) (by omega)
  rw [rowsF_erase] at hW hWf
  have hR1 := rank_rows ok (by omega) helt
  have hR2 := rank_rows ok hfl hlt
  have hk0 : ¬ ((k : Int) < 0) := by omega
  unfold witK
  generalize rkF s (L.eraseIdx k) = A at *
  generalize rkF s L = B at *
  by_cases hab : A < B
  · have hab' : (A : Int) < B := by omega
    rw [if_pos hab]
    ((refine gga3 hF hO hX ?_))
    ((repeat refine AW_seq ?_); (refine gdzb3_MQX (F := _∧_) ⟨hk0, hab'⟩ hW hR1 hR2 ?_))
    ((refine gga0 ?_))
    ((repeat refine AW_seq ?_); (refine wta ?_); simp (disch := omega) only [retQ, resD, oneD, rsv, rs, rsL, rsL_eq_map, List.map_map, bb, bt, zDs, zD, eqCells, simprocAttr, Tryz.results26])
    rfl
  have hab' : ¬ (A : Int) < B := by omega
  rw [if_neg hab]
  have hkM : k < (rowsF s L).length := by omega
  have hro : (rowsF s (L.eraseIdx k)).map ints ++ [ints ((trS s).getD i [])] = (rowsF s (L.eraseIdx k ++ [i])).map ints := by simp [rowsF]
  have hrel := rowsF_len s (L.eraseIdx k)
  ((refine gga3 hF hO hX ?_))
  ((repeat refine AW_seq ?_); (refine gdzb3_MQX (F := _∧_) ⟨hk0, hab'⟩ hW hR1 hR2 ?_))
  ((refine gga0 ?_))
  ((repeat refine AW_seq ?_); (refine AW_drawn_i tab_ok follows_mixed 1 fun KR hKR => ?_); simp only [List.replicate_succ, List.replicate_zero, List.append_nil, List.nil_append, List.cons_append, List.length_cons, List.length_nil, Nat.reduceAdd])
  ((refine wda ?_))
  ((first | refine awD_nc fun KK hKK => ?_ | refine awD_gc rfl fun KK hKK => ?_); simp (disch := omega) only [bb, bt, zDs, zD, eqCells, simprocAttr, goCDS, callDS_fn, argsZ, argsD, ufa, uf]; refine PGive.fresh (2) (hWf) ?_ ?_; (focus (first | omega | (simp (disch := omega) only [List.length_cons, List.length_nil, List.length_append]; done) | (simp (disch := omega) only [List.length_cons, List.length_nil, List.length_append]; omega))); simp (disch := omega) only [bb, bt, zDs, zD, eqCells, simprocAttr, afterDS]; refine hKK _ _ _ ?_; clear hKK KK)
  ((refine wdb (F := _∧_∧_∧_∧_) ⟨hkM, hMk, hrel, hel, hrl⟩ ?_))
  ((refine awD_nil ?_); simp only [List.reverse_cons, List.reverse_nil, List.nil_append, List.cons_append]; (refine hKR _ _ (by exact anyB_map (clamp 2) (by kernel_rfl)) ?_); (try clear hKR KR); (repeat (with_reducible first | refine q1 ?_ | refine q2 ?_ | refine q3 ?_ | refine q4 ?_ | refine q5 ?_ | refine q6 ?_ | (refine q7 ?_ ?_; (focus (with_unfolding_all rfl))))))
  obtain ⟨cv, cw, cm⟩ := rowsF_valid ok (L := L.eraseIdx k ++ [i]) (by simp) (by simp; omega) (fun j hj => by
    rcases List.mem_append.1 hj with h | h
    · exact helt j h
    · rw [List.mem_singleton.1 h]; exact hil)
  obtain ⟨uv, uw⟩ := turn_valid cv (by omega)
  have hcl : (rowsF s (L.eraseIdx k ++ [i])).length = L.length := by rw [rowsF_len]; simp; omega
  have hN := null (turnP (rowsF s (L.eraseIdx k ++ [i])) (wid (rowsF s (L.eraseIdx k ++ [i])))) (by rw [turnP_len]; omega) (fun r hr => by
    rw [((validP_iff.1 uv).2.2 r hr).1, uw]
    omega)
  rw [cw] at hN uw uv
  have ec : colsW s L k i = turnP (rowsF s (L.eraseIdx k ++ [i])) s.bs.length := rfl
  rw [ec]
  generalize rowsF s (L.eraseIdx k ++ [i]) = C at *
  have hlm : L.length - 1 + 1 = L.length := by omega
  have hfin : List.take (C.map ints).length (C.map ints) = C.map ints := List.take_length
  rw [List.length_map, hcl] at hfin
  ((refine AW.freeze (2) (by first | rfl | (simp only [setH, List.getElem?_cons_zero, List.getElem?_cons_succ, fzL_ints, fzL_mat, fz_bk, fz_rp, hro, hfin, hcl, hlm, hrl, List.length_map, Nat.le_refl]; done)) ?_); simp (disch := omega) only [fzT, fz, fzL, fzL_ints, fzL_mat, fzH, fzB, eq_self, bb, bt, zDs, zD, eqCells, simprocAttr, fzL_ints, fzL_mat, fz_bk, fz_rp, hro, hfin, hcl, hlm, hrl, List.length_map, Nat.le_refl])
  ((refine ggb0 hdb ?_))
  rw [nilsI]
  generalize t + 1 + 1 + 1 + 1 + 11 + 1 = gm
  generalize hn : s.bs.length = n at *
  have hcr : ∀ q ∈ C, q.length = n := fun q hq => (cm q hq).2
  have hC1 : 1 ≤ C.length := by omega
  ((repeat refine AW_seq ?_))
  refine AW_mid (fun x : Nat => ⟨[(2, .ptr 0 (t + 1) 0), (6, int i), (8, .ptr 1 (t + 1 + 1) 0), (9, int k), (11, .own 1 3 gm 0 n)], [some ⟨25, t + 1, [bks s.bs, rps s.rs]⟩, some ⟨101, t + 1 + 1, [ints (nums L), mat (rowsF s L)]⟩, none, some ⟨50, gm, (turnP C n).map ints⟩], x⟩) (fun _ => True) ?_ ?_
  · refine AW_block ?_
    refine AW_loop_w (fun x : Nat × Nat => ⟨[(2, .ptr 0 (t + 1) 0), (6, int i), (8, .ptr 1 (t + 1 + 1) 0), (9, int k), (10, mat C), (11, .own 1 3 gm 0 n), (70, int n), (71, int x.1)], [some ⟨25, t + 1, [bks s.bs, rps s.rs]⟩, some ⟨101, t + 1 + 1, [ints (nums L), mat (rowsF s L)]⟩, none, some ⟨50, gm, (turnP C x.1).map ints ++ List.replicate (n - x.1) nilI⟩], x.2⟩) (fun x => n - x.1) (fun x => x.1 ≤ n) (0, gm) (Nat.zero_le _) (by (simp (disch := omega) only [StLe, tmLe, hpLe_refl, hpLe, bl, bb, bt, zDs, zD, eqCells, simprocAttr, turnP, List.range_zero, Nat.sub_zero])) ?_
    rintro ⟨p, tt⟩ hp
    simp only at hp
    have htl : ((turnP C p).map ints).length = p := by rw [List.length_map, turnP_len]
    by_cases hlt : p < n
    · rw [col_nil hlt]
      ((refine ggb0 (F := _∧_) ⟨@Int.ofNat_lt, hlt⟩ ?_))
      ((repeat refine AW_seq ?_))
      refine AW_block ?_
      ((refine gga0 ?_))
      have hg1 := col_get (n := n) htl nilI
      have hs1 := fun c d => col_push (n := n) htl hlt c d
      refine AW.begin_cell 3 p 1 3 rfl hg1 (by decide) ?_
      simp only [List.set_cons_succ, List.set_cons_zero, List.length_cons, List.length_nil, List.cons_append, List.nil_append, Nat.zero_add, Nat.reduceAdd, hs1]
      have htl2 : (turnP C p).length = p := turnP_len C p
      have hrl : (List.replicate (n - (p + 1)) nilI).length = n - (p + 1) := by simp
      have hkn : p < p + (n - (p + 1) + 1) := by omega
      refine AW_block ?_
      refine AW_loop_w (fun x : Nat × Nat × Nat => ⟨[(2, .ptr 0 (t + 1) 0), (6, int i), (8, .ptr 1 (t + 1 + 1) 0), (9, int k), (10, mat C), (11, .own 1 3 gm 0 n), (12, int p), (70, int n), (71, int p), (74, mat C), (75, int C.length), (76, int x.1)], [some ⟨25, t + 1, [bks s.bs, rps s.rs]⟩, some ⟨101, t + 1 + 1, [ints (nums L), mat (rowsF s L)]⟩, none, some ⟨50, gm, (turnP C p).map ints ++ .own 1 4 x.2.1 0 x.1 :: List.replicate (n - (p + 1)) nilI⟩, some ⟨3, x.2.1, (colP (C.take x.1) p).map int⟩], x.2.2⟩) (fun x => C.length - x.1) (fun x => x.1 ≤ C.length) (0, tt + 1, tt + 1) (Nat.zero_le _) (by (simp (disch := omega) only [StLe, tmLe, hpLe_refl, hpLe, bl, bb, bt, zDs, zD, eqCells, simprocAttr, colP])) ?_
      rintro ⟨j, g, t2⟩ hj
      simp only at hj
      by_cases hlj : j < C.length
      · obtain ⟨q, hq⟩ : ∃ y, C[j]? = some y := ⟨_, List.getElem?_eq_getElem hlj⟩
        have hql := hcr q (List.mem_of_getElem? hq)
        have hkr : p < q.length := by omega
        obtain ⟨v, hv⟩ : ∃ y, q[p]? = some y := ⟨_, List.getElem?_eq_getElem hkr⟩
        have hct := colP_take hq hv
        have hcl2 : (colP (C.take j) p).length = j := by simp [colP]; omega
        have hg2 := fun c => col_get (n := n) htl c
        ((refine ggb0 (F := _∧_) ⟨@Int.ofNat_lt, hlj⟩ ?_))
        ((repeat refine AW_seq ?_))
        refine AW_block ?_
        ((refine ggb0 (F := _∧_) ⟨hlj, hq⟩ ?_))
        ((repeat refine AW_seq ?_); (refine gdzb (F := _∧_∧_∧_∧_∧_∧_∧_) ⟨hg2, hs1, hkr, hv, hcl2, hkn, htl2, hrl⟩ ?_))
        ((refine gga0 ?_))
        refine ⟨(j + 1, t2 + 1, t2 + 1), hlj, by show C.length - (j + 1) < C.length - j; omega, ?_⟩
        simp only [hct, List.map_append, List.map_cons, List.map_nil]
        (simp (disch := omega) only [StLe, tmLe, hpLe_refl, hpLe, bl, bb, bt, zDs, zD, eqCells, simprocAttr])
      · have hje : j = C.length := by omega
        subst hje
        rw [List.take_length]
        have hcl2 : (colP C p).length = C.length := by simp [colP]
        have hfin2 : List.take C.length ((colP C p).map int) = (colP C p).map int := List.take_of_length_le (by simp [hcl2])
        ((refine wqb @Int.lt_irrefl ?_))
        ((refine wia ?_))
        ((refine wxa ?_))
        ((refine AW.freeze (4) (by first | rfl | (simp only [setH, List.getElem?_cons_zero, List.getElem?_cons_succ, fzL_app, fz_nils, fzL_ints, fzL_mat, fz_bk, fz_rp, hcl2, hfin2, List.length_map, Nat.le_refl]; done)) ?_); simp (disch := omega) only [fzT, fz, fzL, fzL_ints, fzL_mat, fzH, fzB, eq_self, bb, bt, zDs, zD, eqCells, simprocAttr, fzL_app, fz_nils, fzL_ints, fzL_mat, fz_bk, fz_rp, hcl2, hfin2, List.length_map, Nat.le_refl])
        ((refine gga0 ?_))
        refine ⟨(p + 1, t2), hlt, by show n - (p + 1) < n - p; omega, ?_⟩
        simp only [turnP_succ, List.map_append, List.map_cons, List.map_nil, List.append_assoc, List.cons_append, List.nil_append]
        (simp (disch := omega) only [StLe, tmLe, hpLe_refl, hpLe, bl, bb, bt, zDs, zD, eqCells, simprocAttr])
    · have hke : p = n := by omega
      subst hke
      ((refine ggb0 @Int.lt_irrefl ?_))
      exact ⟨tt, trivial, by (simp (disch := omega) only [StLe, tmLe, hpLe_refl, hpLe, bl, bb, bt, zDs, zD, eqCells, simprocAttr, Nat.sub_self, List.replicate_zero, List.append_nil])⟩
  rintro tt -
  have hfin3 : List.take n ((turnP C n).map ints) = (turnP C n).map ints := List.take_of_length_le (by simp [turnP_len])
  have htl := turnP_len C n
  have hY2 : (nullP (turnP C n)).2 = 0 := by unfold nullP; rw [if_pos uv]
  have hYl : ∀ v ∈ (nullP (turnP C n)).1, v.length = C.length := fun v hv => by
    unfold nullP at hv
    rw [if_pos uv] at hv
    obtain ⟨c, _, _, rfl⟩ := nulls_mem _ _ _ v hv
    rw [nvec_len, uw]
  have hYn : (nullP (turnP C n)).1.length ≤ 12 := by
    unfold nullP
    rw [if_pos uv]
    have := nulls_len (elim (turnP C n) (wid (turnP C n))) (wid (turnP C n)) (wid (turnP C n))
    simp only
    omega
  ((refine AW.freeze (3) (by first | rfl | (simp only [setH, List.getElem?_cons_zero, List.getElem?_cons_succ, hfin3, htl, fzL_mat, fzL_ints, fz_bk, fz_rp, List.length_map, Nat.le_refl]; done)) ?_); simp (disch := omega) only [fzT, fz, fzL, fzL_ints, fzL_mat, fzH, fzB, eq_self, bb, bt, zDs, zD, eqCells, simprocAttr, hfin3, htl, fzL_mat, fzL_ints, fz_bk, fz_rp, List.length_map, Nat.le_refl])
  generalize nullP (turnP C n) = Y at *
  obtain ⟨N, ye⟩ := Y
  simp only at hY2 hYl hYn hN ⊢
  subst hY2
  by_cases hY : N = []
  · rw [if_pos hY]
    subst hY
    ((refine gga1 hN ?_))
    ((repeat refine AW_seq ?_); (refine wta ?_); simp (disch := omega) only [retQ, resD, oneD, rsv, rs, rsL, rsL_eq_map, List.map_map, bb, bt, zDs, zD, eqCells, simprocAttr, Tryz.results26])
    rfl
  rw [if_neg hY]
  have hNp := List.length_pos_iff.2 hY
  have hl0 : ((N.length : Int) == 0) = false := by simp; omega
  obtain ⟨v, hv1⟩ : ∃ y, N[N.length - 1]? = some y := ⟨_, List.getElem?_eq_getElem (by omega)⟩
  have hvl := hYl v (List.mem_of_getElem? hv1)
  have hsub : (N.length : Int) - 1 = ((N.length - 1 : Nat) : Int) := by omega
  have hlt1 : N.length - 1 < N.length := by omega
  rw [List.getD_eq_getElem?_getD, hv1, Option.getD_some]
  ((refine ggb1 (F := _∧_∧_∧_∧_) ⟨hl0, hsub, hlt1, hv1, hdr⟩ hN ?_))
  generalize hnr : s.rs.length = nr at *
  have hfz : (List.replicate nr [int 0, int 0]).flatten = frC (fillF nr 0) := by
    rw [fillF_zero]; exact pairC_frC 0 0 nr
  rw [hfz]
  ((repeat refine AW_seq ?_))
  refine AW_mid (fun x : Nat => ⟨[(6, int i), (8, .ptr 1 (t + 1 + 1) 0), (9, int k), (16, frs v), (17, .own 2 4 (tt + 1) 0 nr)], [none, some ⟨101, t + 1 + 1, [ints (nums L), mat (rowsF s L)]⟩, none, none, some ⟨43, tt + 1, frC (fillF nr nr)⟩], x⟩) (fun _ => True) ?_ ?_
  · refine AW_block ?_
    refine AW_loop_w (fun x : Nat × Nat => ⟨[(6, int i), (8, .ptr 1 (t + 1 + 1) 0), (9, int k), (16, frs v), (17, .own 2 4 (tt + 1) 0 nr), (118, int nr), (119, int x.1)], [none, some ⟨101, t + 1 + 1, [ints (nums L), mat (rowsF s L)]⟩, none, none, some ⟨43, tt + 1, frC (fillF nr x.1)⟩], x.2⟩) (fun x => nr - x.1) (fun x => x.1 ≤ nr) (0, tt + 1) (Nat.zero_le _) (by (simp (disch := omega) only [StLe, tmLe, hpLe_refl, hpLe, bl, bb, bt, zDs, zD, eqCells, simprocAttr])) ?_
    rintro ⟨p, t3⟩ hp
    simp only at hp
    by_cases hpn : p < nr
    · have hl0 := frC_len (fillF nr p)
      rw [fillF_len hp] at hl0
      have hle0 : p * 2 + 2 ≤ nr * 2 := by omega
      have hset0 := frC_set (fillF nr p) p 0 1 (by rw [fillF_len hp]; exact hpn)
      rw [fillF_set hpn] at hset0
      simp only [List.append_assoc, List.cons_append, List.nil_append] at hset0
      ((refine ggb0 (F := _∧_) ⟨@Int.ofNat_lt, hpn⟩ ?_))
      ((repeat refine AW_seq ?_))
      refine AW_block ?_
      ((refine ggb0 (F := _∧_∧_∧_) ⟨hl0, hpn, hle0, hset0⟩ ?_))
      refine ⟨(p + 1, t3), hpn, by show nr - (p + 1) < nr - p; omega, ?_⟩
      (simp (disch := omega) only [StLe, tmLe, hpLe_refl, hpLe, bl, bb, bt, zDs, zD, eqCells, simprocAttr])
    · have hpe : p = nr := by omega
      subst hpe
      ((refine ggb0 @Int.lt_irrefl ?_))
      exact ⟨t3, trivial, by (simp (disch := omega) only [StLe, tmLe, hpLe_refl, hpLe, bl, bb, bt, zDs, zD, eqCells, simprocAttr])⟩
  rintro t3 -
  rw [fillF_end, show List.replicate nr ((0 : Int), (1 : Int)) = putW v (L.eraseIdx k) nr 0 from rfl]
  ((repeat refine AW_seq ?_); (refine AW_region_k tab_ok fun KR hKR => ?_)); ((refine wra ?_))
  ((first | refine awOps_nc fun KK hKK => ?_ | refine awOps_gc rfl fun KK hKK => ?_); simp (disch := omega) only [bb, bt, zDs, zD, eqCells, simprocAttr, goC, callO_fn, argsD, and_self]; refine ACall.of_fresh (cloneInts (nums L) (by omega)) (by first | (simp only [List.map_cons, List.map_nil, List.append_nil, List.nil_append, List.cons_append, ufa, uf]; done) | rfl) ?_; simp (disch := omega) only [bb, bt, zDs, zD, eqCells, simprocAttr, afterC]; refine hKK _ ?_; clear hKK KK)
  ((refine wra ?_))
  ((try with_reducible intro KR hKR); (first | refine awOps_nc fun KK hKK => ?_ | refine awOps_gc rfl fun KK hKK => ?_); simp (disch := omega) only [bb, bt, zDs, zD, eqCells, simprocAttr, goC, callO_fn, argsD, and_self])
  refine delete_row (bl := ⟨3, t3 + 1, (nums L).map int⟩) (l := nums L) rfl rfl rfl hkn ?_
  (simp (disch := omega) only [bb, bt, zDs, zD, eqCells, simprocAttr, afterC]; refine hKK _ ?_; clear hKK KK)
  ((refine wra ?_)); ((refine wea ?_); (try clear hKR KR))
  have hfin5 : List.take ((nums L).length - 1) (((nums L).eraseIdx k).map int) = ((nums L).eraseIdx k).map int := List.take_of_length_le (by rw [List.length_map, List.length_eraseIdx_of_lt hkn]; omega)
  have hle5 : (nums L).length - 1 ≤ ((nums L).eraseIdx k).length := by rw [List.length_eraseIdx_of_lt hkn]; omega
  ((refine AW.freeze (5) (by first | rfl | (simp only [setH, List.getElem?_cons_zero, List.getElem?_cons_succ, fzL_ints, fzL_mat, fzS_fr, hfin5, hle5, List.length_map, Nat.le_refl]; done)) ?_); simp (disch := omega) only [fzT, fz, fzL, fzL_ints, fzL_mat, fzH, fzB, eq_self, bb, bt, zDs, zD, eqCells, simprocAttr, fzL_ints, fzL_mat, fzS_fr, hfin5, hle5, List.length_map, Nat.le_refl])
  rw [nums_erase]
  unfold witV
  rw [hnr]
  generalize hO' : L.eraseIdx k = O at *
  have hol := nums_len O
  have hvn : v.length = O.length + 1 := by omega
  have hO6 : O.length ≤ 6 := by omega
  ((refine ggb0 hol ?_))
  ((repeat refine AW_seq ?_))
  refine AW_mid (fun x : Nat => ⟨[(6, int i), (16, frs v), (17, .own 2 4 (tt + 1) 0 nr)], [none, none, none, none, some ⟨43, tt + 1, frC (putW v O nr O.length)⟩], x⟩) (fun _ => True) ?_ ?_
  · refine AW_block ?_
    refine AW_loop_w (fun x : Nat × Nat => ⟨[(6, int i), (16, frs v), (17, .own 2 4 (tt + 1) 0 nr), (134, ints (nums O)), (135, int O.length), (136, int x.1)], [none, none, none, none, some ⟨43, tt + 1, frC (putW v O nr x.1)⟩], x.2⟩) (fun x => O.length - x.1) (fun x => x.1 ≤ O.length) (0, t3 + 1 + 1) (Nat.zero_le _) (by (simp (disch := omega) only [StLe, tmLe, hpLe_refl, hpLe, bl, bb, bt, zDs, zD, eqCells, simprocAttr])) ?_
    rintro ⟨j, t4⟩ hj
    simp only at hj
    by_cases hjn : j < O.length
    · obtain ⟨o, ho⟩ : ∃ y, O[j]? = some y := ⟨_, List.getElem?_eq_getElem hjn⟩
      obtain ⟨f, hfj⟩ : ∃ y, v[j]? = some y := ⟨_, List.getElem?_eq_getElem (by omega)⟩
      have hon := helt o (List.mem_of_getElem? ho)
      have hno : (nums O)[j]? = some (o : Int) := by unfold nums; rw [List.getElem?_map, ho]; rfl
      have hjn2 : j < (nums O).length := by omega
      have hjv : j < v.length := by omega
      have hra := frC_read v j f hfj
      have hvd := frC_div v
      have hl0 := frC_len (putW v O nr j)
      rw [putW_len] at hl0
      have hle0 : o * 2 + 2 ≤ nr * 2 := by omega
      have hset0 := frC_set (putW v O nr j) o f.1 f.2 (by rw [putW_len]; exact hon)
      have hpu : putW v O nr (j + 1) = (putW v O nr j).set o (f.1, f.2) := by simp only [putW]; rw [List.getD_eq_getElem?_getD, ho, List.getD_eq_getElem?_getD, hfj]; rfl
      rw [← hpu] at hset0
      simp only [List.append_assoc, List.cons_append, List.nil_append] at hset0
      ((refine ggb0 (F := _∧_) ⟨@Int.ofNat_lt, hjn⟩ ?_))
      ((repeat refine AW_seq ?_))
      refine AW_block ?_
      ((refine ggb0 (F := _∧_∧_∧_∧_∧_∧_∧_∧_∧_∧_) ⟨hl0, hon, hle0, hset0, hno, hjn, hjn2, hjv, hra, hvd, hol⟩ ?_))
      refine ⟨(j + 1, t4), hjn, by show O.length - (j + 1) < O.length - j; omega, ?_⟩
      (simp (disch := omega) only [StLe, tmLe, hpLe_refl, hpLe, bl, bb, bt, zDs, zD, eqCells, simprocAttr])
    · have hje : j = O.length := by omega
      subst hje
      ((refine ggb0 @Int.lt_irrefl ?_))
      exact ⟨t4, trivial, by (simp (disch := omega) only [StLe, tmLe, hpLe_refl, hpLe, bl, bb, bt, zDs, zD, eqCells, simprocAttr])⟩
  rintro t4 -
  obtain ⟨f, hfj⟩ : ∃ y, v[v.length - 1]? = some y := ⟨_, List.getElem?_eq_getElem (by omega)⟩
  have hsub2 : (v.length : Int) - 1 = ((v.length - 1 : Nat) : Int) := by omega
  have hjv : v.length - 1 < v.length := by omega
  have hra := frC_read v (v.length - 1) f hfj
  have hvd := frC_div v
  have hl0 := frC_len (putW v O nr O.length)
  rw [putW_len] at hl0
  have hle0 : i * 2 + 2 ≤ nr * 2 := by omega
  have hset0 := frC_set (putW v O nr O.length) i f.1 f.2 (by rw [putW_len]; exact hil)
  have hpu : (putW v O nr O.length).set i (v.getD (v.length - 1) (0, 0)) = (putW v O nr O.length).set i (f.1, f.2) := by rw [List.getD_eq_getElem?_getD, hfj]; rfl
  rw [hpu]
  have hwl : ((putW v O nr O.length).set i (f.1, f.2)).length = nr := by rw [List.length_set, putW_len]
  simp only [List.append_assoc, List.cons_append, List.nil_append] at hset0
  have hvl12 : v.length ≤ 12 := by omega
  generalize (putW v O nr O.length).set i (f.1, f.2) = W at *
  ((refine wqb (F := _∧_∧_∧_∧_∧_∧_∧_) ⟨hl0, hil, hle0, hset0, hsub2, hjv, hra, hvd⟩ ?_))
  have hwl2 := frC_len W
  rw [hwl] at hwl2
  have hfin6 : List.take (nr * 2) (frC W) = frC W := List.take_of_length_le (by omega)
  ((refine AW.freeze (4) (by first | rfl | (simp only [setH, List.getElem?_cons_zero, List.getElem?_cons_succ, fzS_fr, hfin6, hwl2, Nat.le_refl]; done)) ?_); simp (disch := omega) only [fzT, fz, fzL, fzL_ints, fzL_mat, fzH, fzB, eq_self, bb, bt, zDs, zD, eqCells, simprocAttr, fzS_fr, hfin6, hwl2, Nat.le_refl])
  ((refine gga0 ?_))
  ((repeat refine AW_seq ?_); (refine wta ?_); simp (disch := omega) only [retQ, resD, oneD, bb, bt, zDs, zD, eqCells, simprocAttr, Tryz.results26])
  exact rsv_tidy _ _ (by simp only [tidyD, tidyL, tidy_fr, Bool.not_false, Bool.and_self])
end Go.Proofs.YtjjpjgnoanfaoaaGreat.T
end
end

section
section
namespace Go.Proofs.YtjjpjgnoanfaoaaGreat.T
open Go Go.RowKit Lin
set_option linter.unusedSimpArgs false

/-! Chapter 16: the examples. -/
theorem equalStrs (a b : List ByteArray) (ha : a.length ≤ 1000000) (hb : b.length ≤ 1000000) : PRet Tryz.prog 23 [strsD a, strsD b] (bool (a == b)) := by
  refine PRet.intro 1 fun t => ACall.enter tab_ok Tryz.func23 rfl rfl Tryz.ntmps23 (by simp) ?_
  simp only [enterTM]
  ((refine wqa ?_))
  by_cases hl : a.length = b.length
  rotate_left 1
  · have e1 : ((a.length : Int) != (b.length : Int)) = true := by simpa using fun h => hl (by omega)
    ((refine wqb e1 ?_))
    ((refine wia ?_))
    ((refine wqa ?_))
    ((repeat refine AW_seq ?_); (refine wta ?_); simp (disch := omega) only [retQ, resD, oneD, rsv, rs, rsL, rsL_eq_map, List.map_map, bb, bt, zDs, zD, eqCells, simprocAttr, Tryz.results23])
    have : (a == b) = false := by rw [beq_eq_false_iff_ne]; intro h; exact hl (by rw [h])
    rw [this]
  have e1 : ((a.length : Int) != (b.length : Int)) = false := by simp [hl]
  ((refine wqb e1 ?_))
  ((refine wia ?_))
  ((refine wsa ?_))
  ((refine wqa ?_))
  ((repeat refine AW_seq ?_))
  refine AW_mid (fun x : Nat => ⟨[], [], x⟩) (fun _ => (a == b) = true) ?_ ?_
  · refine AW_block ?_
    refine AW_loop_w (fun x : Nat × Nat => ⟨[(0, strsD a), (1, strsD b), (12, int a.length), (13, int x.1)], [], x.2⟩) (fun x => a.length - x.1) (fun x => x.1 ≤ a.length ∧ (a == b) = (a.drop x.1 == b.drop x.1)) (0, t) ⟨Nat.zero_le _, rfl⟩ (by (simp (disch := omega) only [StLe, tmLe, hpLe_refl, hpLe, bl, bb, bt, zDs, zD, eqCells, simprocAttr])) ?_
    rintro ⟨k, t2⟩ ⟨hk, he⟩
    simp only at hk he
    by_cases hlt : k < a.length
    · have hltb : k < b.length := by omega
      obtain ⟨x, hx⟩ : ∃ y, a[k]? = some y := ⟨_, List.getElem?_eq_getElem hlt⟩
      obtain ⟨y, hy⟩ : ∃ y, b[k]? = some y := ⟨_, List.getElem?_eq_getElem hltb⟩
      have hda : a.drop k = x :: a.drop (k + 1) := by
        obtain ⟨h1, h2⟩ := List.getElem?_eq_some_iff.1 hx
        rw [List.drop_eq_getElem_cons h1, h2]
      have hdb : b.drop k = y :: b.drop (k + 1) := by
        obtain ⟨h1, h2⟩ := List.getElem?_eq_some_iff.1 hy
        rw [List.drop_eq_getElem_cons h1, h2]
      rw [hda, hdb, List.cons_beq_cons] at he
      ((refine wqb (F := _∧_) ⟨@Int.ofNat_lt, hlt⟩ ?_))
      ((refine wia ?_))
      ((refine wsa ?_))
      ((repeat refine AW_seq ?_))
      refine AW_block ?_
      ((refine wqa ?_))
      ((repeat refine AW_seq ?_); (refine AW_drawn_k tab_ok follows_mixed 0 fun KR hKR => ?_); simp only [List.replicate_succ, List.replicate_zero, List.append_nil, List.nil_append, List.cons_append, List.length_cons, List.length_nil, Nat.reduceAdd])
      ((refine wdb (F := _∧_∧_∧_) ⟨hlt, hltb, hx, hy⟩ ?_))
      ((refine awD_nil ?_); simp only [List.reverse_cons, List.reverse_nil, List.nil_append, List.cons_append]; (refine hKR _ _ (by first | rfl | kernel_rfl) ?_); (try clear hKR KR); (repeat (with_reducible first | refine q1 ?_ | refine q2 ?_ | refine q3 ?_ | refine q4 ?_ | refine q5 ?_ | refine q6 ?_ | (refine q7 ?_ ?_; (focus (with_unfolding_all rfl))))))
      by_cases hxy : x = y
      · have e2 : (x != y) = false := by simp [hxy]
        have e3 : decide (x = y) = true := by simp [hxy]
        ((refine wib e3 ?_))
        ((refine wsa ?_))
        ((refine wqa ?_))
        refine ⟨(k + 1, t2 + 1), ⟨hlt, by rw [he, hxy, beq_self_eq_true, Bool.true_and]⟩, by show a.length - (k + 1) < a.length - k; omega, ?_⟩
        (simp (disch := omega) only [StLe, tmLe, hpLe_refl, hpLe, bl, bb, bt, zDs, zD, eqCells, simprocAttr])
      · have e2 : (x != y) = true := by simpa using hxy
        have e3 : decide (x = y) = false := by simpa using hxy
        ((refine wib e3 ?_))
        ((refine wqa ?_))
        ((repeat refine AW_seq ?_); (refine wta ?_); simp (disch := omega) only [retQ, resD, oneD, rsv, rs, rsL, rsL_eq_map, List.map_map, bb, bt, zDs, zD, eqCells, simprocAttr, Tryz.results23])
        rw [he, beq_eq_false_iff_ne.2 hxy]; rfl
    · ((refine wqb (F := _∧_) ⟨@Int.ofNat_lt, hlt⟩ ?_))
      ((refine wia ?_))
      ((refine wxa ?_))
      refine ⟨t2, ?_, by (simp (disch := omega) only [StLe, tmLe, hpLe_refl, hpLe, bl, bb, bt, zDs, zD, eqCells, simprocAttr])⟩
      rw [he, List.drop_eq_nil_of_le (by omega), List.drop_eq_nil_of_le (by omega)]; rfl
  · rintro t2 he
    ((refine wqa ?_))
    ((repeat refine AW_seq ?_); (refine wta ?_); simp (disch := omega) only [retQ, resD, oneD, rsv, rs, rsL, rsL_eq_map, List.map_map, bb, bt, zDs, zD, eqCells, simprocAttr, Tryz.results23])
    rw [he]
def hA16 : ByteArray := ⟨#[97]⟩
def hP16 : ByteArray := ⟨#[112]⟩
def hQ16 : ByteArray := ⟨#[113]⟩
theorem of16 (n : Int) : PRet Tryz.prog 72 [int n] (frD (n, 1)) := by
  refine PRet.intro 1 fun t => ACall.enter tab_ok Tryz.func72 rfl rfl Tryz.ntmps72 (by simp) ?_
  simp only [enterTM]
  ((refine gga0 ?_))
  ((repeat refine AW_seq ?_); (refine wta ?_); simp (disch := omega) only [retQ, resD, oneD, rsv, rs, rsL, rsL_eq_map, List.map_map, bb, bt, zDs, zD, eqCells, simprocAttr, Tryz.results72])
theorem end16 (b : ByteArray) (n : Int) : PRet Tryz.prog 143 [str b, int n] (.agg [str b, int n, int 1, int 1]) := by
  refine PRet.intro 1 fun t => ACall.enter tab_ok Tryz.func143 rfl rfl Tryz.ntmps143 (by simp) ?_
  simp only [enterTM]
  have hw := of16 1
  ((refine gga1 hw ?_))
  ((repeat refine AW_seq ?_); (refine wta ?_); simp (disch := omega) only [retQ, resD, oneD, rsv, rs, rsL, rsL_eq_map, List.map_map, bb, bt, zDs, zD, eqCells, simprocAttr, Tryz.results143])
def ex16 : Nat → Sy
  | 0 => ⟨[⟨hA16, 5⟩, ⟨hB, 5⟩], [⟨hP16, [⟨hA16, 1, 1, 1⟩, ⟨hE, 0, 1, 1⟩], false⟩, ⟨hQ16, [⟨hB, 1, 1, 1⟩, ⟨hE, 0, 1, 1⟩], false⟩, ⟨hR, [⟨hA16, 1, 1, 1⟩, ⟨hE, 0, 1, 1⟩, ⟨hB, 1, 1, 1⟩], false⟩]⟩
  | _ => ⟨[⟨hA16, 5⟩, ⟨hB, 5⟩], [⟨hR, [⟨hA16, 1, 1, 1⟩, ⟨hE, 0, 1, 1⟩, ⟨hB, 1, 1, 1⟩], false⟩]⟩
theorem example16_0 : PRet Tryz.prog 71 [int 0] (syD (ex16 0)) := by
  refine PRet.intro 3 fun t => ACall.enter tab_ok Tryz.func71 rfl rfl Tryz.ntmps71 (by simp) ?_
  simp only [enterTM]
  have w1 := end16 ⟨#[97]⟩ 1
  have w2 := end16 ⟨#[]⟩ 0
  have w3 := end16 ⟨#[98]⟩ 1
  ((refine gga3 w1 w2 w3 ?_))
  ((repeat refine AW_seq ?_); (refine wta ?_); simp (disch := omega) only [retQ, resD, oneD, rsv, rs, rsL, rsL_eq_map, List.map_map, bb, bt, zDs, zD, eqCells, simprocAttr, Tryz.results71])
  rfl
theorem example16_2 : PRet Tryz.prog 71 [int 2] (syD (ex16 2)) := by
  refine PRet.intro 3 fun t => ACall.enter tab_ok Tryz.func71 rfl rfl Tryz.ntmps71 (by simp) ?_
  simp only [enterTM]
  have w1 := end16 ⟨#[97]⟩ 1
  have w2 := end16 ⟨#[]⟩ 0
  have w3 := end16 ⟨#[98]⟩ 1
  ((refine gga3 w1 w2 w3 ?_))
  ((repeat refine AW_seq ?_); (refine wta ?_); simp (disch := omega) only [retQ, resD, oneD, rsv, rs, rsL, rsL_eq_map, List.map_map, bb, bt, zDs, zD, eqCells, simprocAttr, Tryz.results71])
  rfl
theorem ex16_fits (k : Nat) : Fits (ex16 k) := by
  cases k with
  | zero => exact small_fits (by decide +kernel)
  | succ k => exact small_fits (by show smallS (ex16 1) = true; decide +kernel)
theorem ex16_jam : jamP (ex16 0) = ([hA16, hB], 0) := by decide +kernel
theorem ex16_wit : witP (ex16 0) hR = ([(-1, 1), (-1, 1), (1, 1)], 0) := by decide +kernel
theorem ex16_modes : modesP (ex16 2) = ([[(-1, 1), (1, 1)]], 0) := by decide +kernel
set_option maxHeartbeats 2000000 in
theorem awake16 : PRet Tryz.prog 14 [] (bool true) := by
  refine PRet.intro 1 fun t => ACall.enter tab_ok Tryz.func14 rfl rfl Tryz.ntmps14 (by simp) ?_
  simp only [enterTM]
  have hJ : PRet Tryz.prog 18 [syD (ex16 0)] (.tup [.sl 1 [str hA16, str hB] false, int 0]) := by
    have := jammed_prog (ex16 0) (ex16_fits 0)
    rw [ex16_jam] at this
    exact this
  have hW : PRet Tryz.prog 26 [syD (ex16 0), .v (.string ⟨#[114]⟩)] (.tup [frs [(-1, 1), (-1, 1), (1, 1)], int 0]) := by
    have := witness_prog (ex16 0) (ex16_fits 0) hR
    rw [ex16_wit] at this
    exact this
  have hF : PRet Tryz.prog 16 [syD (ex16 2)] (.tup [int 1, int 0]) := by
    have := freedom_prog (ex16 2) (ex16_fits 2)
    rw [ex16_modes] at this
    exact this
  have hM : PRet Tryz.prog 17 [syD (ex16 2)] (.tup [.sl 1 [frs [(-1, 1), (1, 1)]] false, int 0]) := by
    have := modes_prog (ex16 2) (ex16_fits 2)
    rw [ex16_modes] at this
    exact this
  have w1 := of16 (-1)
  have w2 := of16 1
  have hS : PRet Tryz.prog 23 [.sl 1 [str hA16, str hB] false, .sl 1 [.v (.string ⟨#[97]⟩), .v (.string ⟨#[98]⟩)] false] (bool true) := equalStrs [hA16, hB] [hA16, hB] (by simp) (by simp)
  have hE3 : PRet Tryz.prog 22 [frs [(-1, 1), (-1, 1), (1, 1)], .sl 2 [int (-1), int 1, int (-1), int 1, int 1, int 1] false] (bool true) := equalFr [(-1, 1), (-1, 1), (1, 1)] [(-1, 1), (-1, 1), (1, 1)] (by simp) (by simp)
  have hE2 : PRet Tryz.prog 22 [frs [(-1, 1), (1, 1)], .sl 2 [int (-1), int 1, int 1, int 1] false] (bool true) := equalFr [(-1, 1), (1, 1)] [(-1, 1), (1, 1)] (by simp) (by simp)
  ((refine gga6_MQX example16_0 example16_2 hJ hW hF hM ?_))
  ((repeat refine AW_seq ?_); (refine gdza5_MQX w1 w2 hS hE3 hE2 ?_))
  ((repeat refine AW_seq ?_); (refine wta ?_); simp (disch := omega) only [retQ, resD, oneD, rsv, rs, rsL, rsL_eq_map, List.map_map, bb, bt, zDs, zD, eqCells, simprocAttr, Tryz.results14])
def longM (s : Sy) (nm : ByteArray) : Bool := !smallS s || decide ((60 : Int) < nm.size)
theorem long16 (s : Sy) (nm : ByteArray) : PRet Tryz.prog 15 [syD s, str nm] (bool (longM s nm)) := by
  refine PRet.intro 1 fun t => ACall.enter tab_ok Tryz.func15 rfl rfl Tryz.ntmps15 (by simp) ?_
  simp only [enterTM]
  have hS := small_ref s
  cases hs : smallS s
  · rw [hs] at hS
    have e : longM s nm = true := by simp [longM, hs]
    ((refine gga1 hS ?_))
    ((repeat refine AW_seq ?_); (refine wta ?_); simp (disch := omega) only [retQ, resD, oneD, rsv, rs, rsL, rsL_eq_map, List.map_map, bb, bt, zDs, zD, eqCells, simprocAttr, Tryz.results15, e])
  · rw [hs] at hS
    have e : longM s nm = decide ((60 : Int) < nm.size) := by simp [longM, hs]
    ((refine gga1 hS ?_))
    ((repeat refine AW_seq ?_); (refine wta ?_); simp (disch := omega) only [retQ, resD, oneD, rsv, rs, rsL, rsL_eq_map, List.map_map, bb, bt, zDs, zD, eqCells, simprocAttr, Tryz.results15, e])
end Go.Proofs.YtjjpjgnoanfaoaaGreat.T
end

section
namespace Go.Proofs.YtjjpjgnoanfaoaaGreat.T
open Go Go.RowKit Lin
set_option linter.unusedSimpArgs false

/-! Chapter 16: what its laws' own functions return. -/
end Go.Proofs.YtjjpjgnoanfaoaaGreat.T
end

section
namespace Go.Proofs.YtjjpjgnoanfaoaaGreat.T
open Go Go.RowKit Lin
set_option linter.unusedSimpArgs false

/-! Chapter 16: sums of numbers times fractions. -/
/-! What the modes are (plain). -/
theorem modes_val {m : List (List Int)} (hv : validP m = true) {v : List (Int × Int)} (hmem : v ∈ (nullP m).1) : (v.any fun x => x.1 != 0) = true ∧ ∃ Z D, D ≠ 0 ∧ Ker m Z ∧ ∀ (k : Nat) (f : Int × Int), v[k]? = some f → Val f (Z k) D := by
  unfold nullP at hmem
  rw [if_pos hv] at hmem
  simp only at hmem
  obtain ⟨h1, h2, h3⟩ := validP_iff.1 hv
  have hs := valid_small hv
  have iv := elim_inv (ups_mover m (wid m)) hs.lens (wid m) (Nat.le_refl _)
  rw [← elim_by] at iv
  have in2 := iv.small2 hs (Nat.le_refl _)
  have hd2 := iv.den_small2 hs (Nat.le_refl _)
  generalize elim m (wid m) = f at *
  obtain ⟨c, hcn, hc, rfl⟩ := nulls_mem f (wid m) (wid m) v hmem
  have ok : ∀ k c, k < f.pivots.length → c < wid m → (makeP (-(Lin.at_ (Lin.row f.rows k) c)) f.den).2 = 0 := fun k c hk hc => by
    have := in2 k c hk hc
    exact makeP_ok (by omega) hd2 iv.den0
  obtain ⟨q1', q2'⟩ := nvec_q iv ok hcn f.pivots.length (Nat.le_refl _)
  have ho := nvec_one iv hcn hc f.pivots.length (Nat.le_refl _)
  refine ⟨List.any_eq_true.2 ⟨_, List.mem_of_getElem? ho, by decide⟩, nX f c f.pivots.length, f.den, iv.den0, fun r hr => ?_, fun k p hp => ⟨allV_at q1' hp, iv.den0, q2' k p hp⟩⟩
  rw [nX_sum iv hcn hc (Lin.at_ r) f.pivots.length (Nat.le_refl _), van_sum iv hcn (iv.van_lt hcn) hr]
  omega
end Go.Proofs.YtjjpjgnoanfaoaaGreat.T
end
end

section
namespace Go.Proofs.YtjjpjgnoanfaoaaGreat.T
open Go Go.RowKit Lin
set_option linter.unusedSimpArgs false

/-! Chapter 16: redundant ropes. -/
def redB (s : Sy) (L : List Nat) (k : Nat) : Bool := rkF s (L.eraseIdx k) == rkF s L
def redN (s : Sy) (L : List Nat) (k : Nat) : List ByteArray := ((List.range k).filter (redB s L)).map fun i => (s.rs.getD (L.getD i 0) ⟨ByteArray.empty, [], false⟩).nm
theorem redN_step {s : Sy} {L : List Nat} {k i : Nat} {r : Rp} (hL : L[k]? = some i) (hr : s.rs[i]? = some r) : redN s L (k + 1) = if redB s L k = true then redN s L k ++ [r.nm] else redN s L k := by
  unfold redN
  rw [List.range_succ, List.filter_append, List.map_append]
  have e : (s.rs.getD (L.getD k 0) ⟨ByteArray.empty, [], false⟩).nm = r.nm := by
    rw [List.getD_eq_getElem?_getD (l := L), hL, Option.getD_some, List.getD_eq_getElem?_getD, hr]; rfl
  cases h : redB s L k
  · rw [List.filter_cons_of_neg (by simp [h])]
    simp
  · rw [List.filter_cons_of_pos (by simp [h]), List.filter_nil, List.map_cons, List.map_nil, e]
    simp
theorem redN_len (s : Sy) (L : List Nat) (k : Nat) : (redN s L k).length ≤ k := by
  have := List.length_filter_le (redB s L) (List.range k)
  simpa [redN] using this
def redP (s : Sy) : List ByteArray × Int := if validS s = true then (redN s (fixA s) (fixA s).length, 0) else ([], 1)
theorem rpC_get : ∀ (l : List Rp) (i : Nat) (r : Rp), l[i]? = some r → (rpC l)[i * 3]? = some (str r.nm)
  | [], i, r, h => by simp at h
  | x :: l, 0, r, h => by
    simp at h; subst h; rfl
  | x :: l, i + 1, r, h => by
    have := rpC_get l i r (by simpa using h)
    show (str x.nm :: hds x.hs :: bool x.hl :: rpC l)[(i + 1) * 3]? = _
    rw [show (i + 1) * 3 = i * 3 + 1 + 1 + 1 by omega, List.getElem?_cons_succ, List.getElem?_cons_succ, List.getElem?_cons_succ]
    exact this
theorem rpC_one {l : List Rp} {i : Nat} {r : Rp} (h : l[i]? = some r) : ((rpC l).drop (i * 3)).take 1 = [str r.nm] := by
  have := rpC_get l i r h
  obtain ⟨h1, h2⟩ := List.getElem?_eq_some_iff.1 this
  rw [List.drop_eq_getElem_cons h1, h2]
  rfl
set_option maxHeartbeats 4000000 in
theorem redundant_call (s : Sy) (hf : Fits s) (hv : validS s = true) (t : Nat) : ACall Tryz.prog 25 [syD s] [] t (fun d H' _ => ∃ b g, d = .tup [.own 1 b g 0 (redP s).1.length, int 0] ∧ H'[b]? = some (some ⟨9, g, (redP s).1.map str⟩)) := by
  refine ACall.enter tab_ok Tryz.func25 rfl rfl Tryz.ntmps25 (by simp) ?_
  simp only [enterTM]
  have hO := of_prog s hf
  have hdr := rpC_div s.rs
  rw [hv] at hO
  simp only [if_true] at hO
  have e : redP s = (redN s (fixA s) (fixA s).length, 0) := by simp [redP, hv]
  have ok := validS_ok hv
  have hr6 := ok.r6
  have hfl := fixP_len s.rs (-1) s.rs.length
  have hlt : ∀ j ∈ fixA s, j < s.rs.length := fun j hj => fixP_lt hj
  replace hfl : (fixA s).length ≤ 6 := Nat.le_trans hfl hr6
  rw [e]
  clear e
  generalize fixA s = L at *
  have hnl := nums_len L
  have hrl := rowsF_len s L
  have hR2 := rank_rows ok hfl hlt
  ((refine ggb1 hnl hO ?_))
  refine AW.begin 6 1 9 rfl (by decide) ?_
  simp only [putTM, List.length_cons, List.length_nil, Nat.reduceEqDiff, ↓reduceIte, List.cons_append, List.nil_append]
  refine AW_mid (fun x : Nat × Nat => ⟨[(6, .own 1 2 x.1 0 (redN s L L.length).length)], [none, none, some ⟨9, x.1, (redN s L L.length).map str⟩], x.2⟩) (fun _ => True) ?_ ?_
  · refine AW_block ?_
    refine AW_loop_w (fun x : Nat × Nat × Nat => ⟨[(1, .ptr 0 (t + 1) 0), (4, .ptr 1 (t + 1 + 1) 0), (6, .own 1 2 x.2.1 0 (redN s L x.1).length), (18, ints (nums L)), (19, int L.length), (20, int x.1)], [some ⟨25, t + 1, [bks s.bs, rps s.rs]⟩, some ⟨101, t + 1 + 1, [ints (nums L), mat (rowsF s L)]⟩, some ⟨9, x.2.1, (redN s L x.1).map str⟩], x.2.2⟩) (fun x => L.length - x.1) (fun x => x.1 ≤ L.length) (0, t + 1 + 1 + 1, t + 1 + 1 + 1) (Nat.zero_le _) (by (simp (disch := omega) only [StLe, tmLe, hpLe_refl, hpLe, bl, bb, bt, zDs, zD, eqCells, simprocAttr, redN, List.range_zero, List.filter_nil, List.map_nil, List.length_nil])) ?_
    rintro ⟨k, g, tt⟩ hk
    simp only at hk
    by_cases hkl : k < L.length
    · obtain ⟨i, hLk⟩ : ∃ y, L[k]? = some y := ⟨_, List.getElem?_eq_getElem hkl⟩
      have hil := hlt i (List.mem_of_getElem? hLk)
      obtain ⟨r, hr⟩ : ∃ y, s.rs[i]? = some y := ⟨_, List.getElem?_eq_getElem hil⟩
      have hra := rpC_get s.rs i r hr
      have hrb := rpC_one hr
      have hnk : (nums L)[k]? = some (i : Int) := by unfold nums; rw [List.getElem?_map, hLk]; rfl
      have hkn : k < (nums L).length := by omega
      have hst := redN_step hLk hr
      have hjl := redN_len s L k
      have hel : (L.eraseIdx k).length = L.length - 1 := List.length_eraseIdx_of_lt hkl
      have hW := without_ret (nums L) (rowsF s L) k (by omega) (by omega)
      rw [rowsF_erase] at hW
      have hR1 := rank_rows ok (L := L.eraseIdx k) (by omega) (fun j hj => hlt j (List.mem_of_mem_eraseIdx hj))
      unfold redB at hst
      generalize rkF s (L.eraseIdx k) = A at *
      generalize rkF s L = B at *
      generalize redN s L k = J at *
      have hcast : ((A : Int) == (B : Int)) = (A == B) := by rw [Bool.eq_iff_iff]; simp; omega
      cases hab : (A == B)
      · rw [hab] at hst hcast
        ((refine ggb0 (F := _∧_) ⟨@Int.ofNat_lt, hkl⟩ ?_))
        ((repeat refine AW_seq ?_))
        refine AW_block ?_
        ((refine ggb0 (F := _∧_) ⟨hkn, hnk⟩ ?_))
        ((repeat refine AW_seq ?_); (refine gdzb3_MQX hcast hW hR1 hR2 ?_))
        ((refine gga0 ?_))
        refine ⟨(k + 1, g, tt + 1), hkl, by show L.length - (k + 1) < L.length - k; omega, ?_⟩
        simp only [hst, Bool.false_eq_true, if_false]
        (simp (disch := omega) only [StLe, tmLe, hpLe_refl, hpLe, bl, bb, bt, zDs, zD, eqCells, simprocAttr])
      · rw [hab] at hst hcast
        ((refine ggb0 (F := _∧_) ⟨@Int.ofNat_lt, hkl⟩ ?_))
        ((repeat refine AW_seq ?_))
        refine AW_block ?_
        ((refine ggb0 (F := _∧_) ⟨hkn, hnk⟩ ?_))
        ((repeat refine AW_seq ?_); (refine gdzb3_MQX hcast hW hR1 hR2 ?_))
        ((refine ggb0 (F := _∧_∧_∧_) ⟨hdr, hil, hra, hrb⟩ ?_))
        refine ⟨(k + 1, tt + 1 + 1, tt + 1 + 1), hkl, by show L.length - (k + 1) < L.length - k; omega, ?_⟩
        simp only [hst, if_true, List.length_append, List.length_cons, List.length_nil, List.map_append, List.map_cons, List.map_nil]
        (simp (disch := omega) only [StLe, tmLe, hpLe_refl, hpLe, bl, bb, bt, zDs, zD, eqCells, simprocAttr])
    · have hke : k = L.length := by omega
      subst hke
      ((refine wqb @Int.lt_irrefl ?_))
      ((refine wia ?_))
      ((refine wxa ?_))
      exact ⟨(g, tt), trivial, by (simp (disch := omega) only [StLe, tmLe, hpLe_refl, hpLe, bl, bb, bt, zDs, zD, eqCells, simprocAttr])⟩
  rintro ⟨g, tt⟩ -
  generalize redN s L L.length = J at *
  ((refine gga0 ?_))
  ((repeat refine AW_seq ?_); (refine wta ?_); simp (disch := omega) only [retQ, resD, oneD, bb, bt, zDs, zD, eqCells, simprocAttr, Tryz.results25])
  exact ⟨2, g, rfl, rfl⟩
theorem redundant_prog (s : Sy) (hf : Fits s) : PRet Tryz.prog 25 [syD s] (.tup [strsD (redP s).1, int (redP s).2]) := by
  cases hv : validS s
  · refine PRet.intro 1 fun t => ACall.enter tab_ok Tryz.func25 rfl rfl Tryz.ntmps25 (by simp) ?_
    simp only [enterTM]
    have hO := of_prog s hf
    rw [hv] at hO
    simp only [Bool.false_eq_true, if_false] at hO
    have e : redP s = ([], 1) := by simp [redP, hv]
    ((refine gga1 hO ?_))
    ((repeat refine AW_seq ?_); (refine wta ?_); simp (disch := omega) only [retQ, resD, oneD, rsv, rs, rsL, rsL_eq_map, List.map_map, bb, bt, zDs, zD, eqCells, simprocAttr, Tryz.results25, e])
    rfl
  · have e2 : (redP s).2 = 0 := by simp [redP, hv]
    rw [e2]
    refine PRet.intro 2 fun t => (redundant_call s hf hv t).mono ?_
    rintro d H' t' ⟨b, g, rfl, hb⟩
    generalize (redP s).1 = J at *
    simp only [rsv, rs, hb, if_true, rsL]
    have hfin : List.take J.length (J.map str) = J.map str := List.take_of_length_le (by simp)
    have ht : rsL (fun _ => D.any) H' (J.map str) = J.map str := rsL_tidy _ _ _ (tidy_strs _)
    rw [rsL_eq_map] at ht
    simp [hfin]
    intro a ha
    exact rs_tidy _ _ _ rfl
/-! Chapter 16: a witness proves that a rope is redundant (plain). -/
theorem ups_piv (k : Nat) : ∀ (d : Nat) (f : Frm), (ups k d f).pivots = f.pivots
  | 0, f => rfl
  | d + 1, f => by
    simp only [ups]
    rw [ups_piv k d]
theorem elim_pivots (m : List (List Int)) (c : Nat) : (elim m (c + 1)).pivots = (elim m c).pivots ∨ (elim m (c + 1)).pivots = (elim m c).pivots ++ [c] := by
  rw [elim_by, elim_by]
  show (colBy ups (elimBy ups m c) c).pivots = _ ∨ (colBy ups (elimBy ups m c) c).pivots = _
  unfold colBy
  split
  · exact .inl rfl
  · right
    simp only [piv]
    rw [ups_piv]
/-- Minors of the first rows, in the turned matrix. -/
theorem minor_front {E : List (List Int)} {x : List Int} {n : Nat} {S : List Row} {C : List Nat} (hS : ∀ s ∈ S, s ∈ E.map at_) (hC : ∀ c ∈ C, c < n) (h : w S C ≠ 0) :
    ∃ (S' : List Row) (C' : List Nat), (∀ s ∈ S', s ∈ (turnP (E ++ [x]) n).map at_) ∧ (∀ c ∈ C', c < E.length) ∧ w S' C' ≠ 0 ∧ S'.length = C.length := by
  obtain ⟨is, h1, rfl⟩ := pick hS
  have e : (is.map fun i j => at_ (row E i) j) = is.map fun i j => at_ (row (E ++ [x]) i) j := List.map_congr_left fun i hi => by
    have : row (E ++ [x]) i = row E i := by simp [row, List.getElem?_append_left (h1 i hi)]
    rw [this]
  rw [e, w_turn (fun i j => at_ (row (E ++ [x]) i) j) is C] at h
  refine ⟨_, is, fun s hs => ?_, h1, h, by simp⟩
  obtain ⟨c, hc, rfl⟩ := List.mem_map.1 hs
  refine List.mem_map.2 ⟨colP (E ++ [x]) c, List.mem_map.2 ⟨c, by simpa using hC c hc, rfl⟩, ?_⟩
  funext i
  exact at_colP (E ++ [x]) c i
/-- If a row adds nothing to the rank, the turned matrix' last column is free. -/
theorem last_free {E : List (List Int)} {x : List Int} {n : Nat} (hv : validP (turnP (E ++ [x]) n) = true) (hw : wid (turnP (E ++ [x]) n) = E.length + 1) (hl : ∀ r ∈ E ++ [x], r.length = n) {r : Nat}
    (h1 : r = 0 ∨ IsRank (E.map at_) n r) (h2 : IsRank ((E ++ [x]).map at_) n r) : (elim (turnP (E ++ [x]) n) (E.length + 1)).pivots.contains E.length = false ∧ (elim (turnP (E ++ [x]) n) (E.length + 1)).pivots.length = r := by
  have hs := valid_small hv
  rw [hw] at hs
  have ivn := elim_inv (ups_mover (turnP (E ++ [x]) n) (E.length + 1)) hs.lens (E.length + 1) (Nat.le_refl _)
  have ivm := elim_inv (ups_mover (turnP (E ++ [x]) n) (E.length + 1)) hs.lens E.length (Nat.le_succ _)
  rw [← elim_by] at ivn ivm
  have rn := ivn.isRank
  have rm := ivm.isRank
  have hrn : (elim (turnP (E ++ [x]) n) (E.length + 1)).pivots.length = r := by
    have : (E ++ [x]).length = E.length + 1 := by simp
    rw [← this] at rn
    have := rank_turn hl h2 rn
    simpa using this
  have hrm : r ≤ (elim (turnP (E ++ [x]) n) E.length).pivots.length := by
    rcases h1 with h | h
    · omega
    obtain ⟨S, C, k1, k2, k3, k4, k5, _⟩ := h
    obtain ⟨S', C', l1, l2, l3, l4⟩ := minor_front (x := x) k1 k4 k5
    have := rm.max l1 l2 l3
    omega
  refine ⟨?_, hrn⟩
  rcases elim_pivots (turnP (E ++ [x]) n) E.length with e | e
  · rw [e]
    cases hc : (elim (turnP (E ++ [x]) n) E.length).pivots.contains E.length
    · rfl
    · have := ivm.lt _ (List.contains_iff_mem.1 hc)
      omega
  · rw [e, List.length_append, List.length_singleton] at hrn
    omega
/-- The fractions that are put. -/
def ZP (P : List Nat) (Z : Nat → Int) (k : Nat) (i : Nat) : Int := sumN (fun j => if P[j]? = some i then Z j else 0) k
theorem sumN_pickW (g : Nat → Int) (c : Nat) (d : Int) : ∀ n, c < n → sumN (fun j => g j * (if c = j then d else 0)) n = g c * d
  | 0, h => by omega
  | n + 1, h => by
    simp only [sumN]
    by_cases e : c = n
    · subst e
      rw [if_pos rfl]
      have : sumN (fun j => g j * (if c = j then d else 0)) c = sumN (fun _ => 0) c := sumN_congr c fun k hk => by rw [if_neg (by omega), Int.mul_zero]
      rw [this, sumN_zero]
      omega
    · rw [if_neg e, sumN_pickW g c d n (by omega)]
      omega
theorem ZP_sum (a : Nat → Int) (P : List Nat) (Z : Nat → Int) (n : Nat) : ∀ k, k ≤ P.length → (∀ p ∈ P, p < n) → sumN (fun i => a i * ZP P Z k i) n = sumN (fun j => a (P.getD j 0) * Z j) k
  | 0, _, _ => by
    simp only [ZP, sumN, Int.mul_zero]
    exact sumN_zero n
  | k + 1, hk, hP => by
    obtain ⟨p, hp⟩ : ∃ y, P[k]? = some y := ⟨_, List.getElem?_eq_getElem (by omega)⟩
    have ih := ZP_sum a P Z n k (by omega) hP
    have e : ∀ i, a i * ZP P Z (k + 1) i = a i * ZP P Z k i + a i * (if p = i then Z k else 0) := fun i => by
      simp only [ZP, sumN, hp, Option.some.injEq]
      rw [Int.mul_add]
      exact Int.add_comm _ _
    rw [sumN_congr n fun i _ => e i, sumN_add, ih, sumN_pickW a p (Z k) n (hP p (List.mem_of_getElem? hp))]
    simp only [sumN]
    have : P.getD k 0 = p := by rw [List.getD_eq_getElem?_getD, hp]; rfl
    rw [this]
    exact Int.add_comm _ _
theorem ZP_new {P : List Nat} {Z : Nat → Int} {k p : Nat} (hn : P.Nodup) (hp : P[k]? = some p) : ∀ j, j ≤ k → ZP P Z j p = 0
  | 0, _ => rfl
  | j + 1, hj => by
    have ih := ZP_new (Z := Z) hn hp j (by omega)
    unfold ZP at ih ⊢
    simp only [sumN, ih]
    have hk := (List.getElem?_eq_some_iff.1 hp).1
    have : P[j]? ≠ some p := fun h => by
      have hj' := (List.getElem?_eq_some_iff.1 h).1
      have := (List.getElem?_inj hj' hn).1 (h.trans hp.symm)
      omega
    rw [if_neg this]
    rfl
theorem putW_val {v : List (Int × Int)} {P : List Nat} {n : Nat} {Z : Nat → Int} {D : Int} (hD : D ≠ 0) (hn : P.Nodup) (hX : ∀ (k : Nat) (f : Int × Int), v[k]? = some f → Val f (Z k) D) (hv : v.length = P.length) : ∀ k, k ≤ P.length → ∀ (i : Nat) (f : Int × Int), (putW v P n k)[i]? = some f → Val f (ZP P Z k i) D
  | 0, _, i, f, h => by
    simp only [putW, List.getElem?_replicate] at h
    split at h
    · cases h
      exact ⟨by decide, hD, by simp [ZP, sumN]⟩
    · cases h
  | k + 1, hk, i, f, h => by
    obtain ⟨p, hp⟩ : ∃ y, P[k]? = some y := ⟨_, List.getElem?_eq_getElem (by omega)⟩
    obtain ⟨y, hy⟩ : ∃ y, v[k]? = some y := ⟨_, List.getElem?_eq_getElem (by omega)⟩
    have e1 : P.getD k 0 = p := by rw [List.getD_eq_getElem?_getD, hp]; rfl
    have e2 : v.getD k (0, 0) = y := by rw [List.getD_eq_getElem?_getD, hy]; rfl
    simp only [putW, e1, e2] at h
    have ez : ZP P Z (k + 1) i = ZP P Z k i + if p = i then Z k else 0 := by simp only [ZP, sumN, hp, Option.some.injEq]; exact Int.add_comm _ _
    rw [ez]
    by_cases e : p = i
    · subst e
      rw [if_pos rfl, ZP_new hn hp k (Nat.le_refl _), Int.zero_add]
      rw [List.getElem?_set] at h
      rw [if_pos rfl] at h
      split at h
      · cases h
        exact hX k _ hy
      · cases h
    · rw [if_neg e, Int.add_zero]
      rw [List.getElem?_set_ne e] at h
      exact putW_val hD hn hX hv k (by omega) i f h
theorem putW_app (v : List (Int × Int)) (O : List Nat) (i n : Nat) : ∀ k, k ≤ O.length → putW v (O ++ [i]) n k = putW v O n k
  | 0, _ => rfl
  | k + 1, hk => by
    simp only [putW]
    rw [putW_app v O i n k (by omega)]
    have : (O ++ [i]).getD k 0 = O.getD k 0 := by rw [List.getD_eq_getElem?_getD, List.getD_eq_getElem?_getD, List.getElem?_append_left (by omega)]
    rw [this]
theorem putW_free {v : List (Int × Int)} {P : List Nat} {n i : Nat} (hi : i ∉ P) (hin : i < n) : ∀ k, k ≤ P.length → (putW v P n k)[i]? = some (0, 1)
  | 0, _ => by simp [putW, hin]
  | k + 1, hk => by
    obtain ⟨p, hp⟩ : ∃ y, P[k]? = some y := ⟨_, List.getElem?_eq_getElem (by omega)⟩
    have e1 : P.getD k 0 = p := by rw [List.getD_eq_getElem?_getD, hp]; rfl
    have hne : p ≠ i := fun h => hi (by rw [← h]; exact List.mem_of_getElem? hp)
    simp only [putW, e1]
    rw [List.getElem?_set_ne hne]
    exact putW_free hi hin k (by omega)
theorem isRank_mem {A B : List Row} {n r : Nat} (h : IsRank A n r) (e : ∀ x, x ∈ A ↔ x ∈ B) : IsRank B n r := by
  obtain ⟨S, C, k1, k2, k3, k4, k5, k6⟩ := h
  exact ⟨S, C, fun s hs => (e s).1 (k1 s hs), k2, k3, k4, k5, fun j hj y hy => k6 j hj y ((e y).2 hy)⟩
theorem erase_back {L : List Nat} {k i : Nat} (hk : L[k]? = some i) : ∀ j, j ∈ L.eraseIdx k ++ [i] ↔ j ∈ L := fun j => by
  obtain ⟨h1, h2⟩ := List.getElem?_eq_some_iff.1 hk
  have e : L = L.take k ++ i :: L.drop (k + 1) := by
    conv => lhs; rw [← List.take_append_drop k L, List.drop_eq_getElem_cons h1, h2]
  rw [List.eraseIdx_eq_take_drop_succ]
  constructor
  · intro h
    rw [e]
    simp only [List.mem_append, List.mem_cons, List.mem_singleton, List.not_mem_nil, or_false] at h ⊢
    rcases h with (h | h) | h
    · exact .inl h
    · exact .inr (.inr h)
    · exact .inr (.inl h)
  · intro h
    rw [e] at h
    simp only [List.mem_append, List.mem_cons, List.mem_singleton, List.not_mem_nil, or_false] at h ⊢
    rcases h with h | h | h
    · exact .inl (.inl h)
    · exact .inr h
    · exact .inl (.inr h)
theorem erase_nodup {L : List Nat} {k i : Nat} (hn : L.Nodup) (hk : L[k]? = some i) : (L.eraseIdx k ++ [i]).Nodup := by
  obtain ⟨h1, h2⟩ := List.getElem?_eq_some_iff.1 hk
  have e : L = L.take k ++ i :: L.drop (k + 1) := by
    conv => lhs; rw [← List.take_append_drop k L, List.drop_eq_getElem_cons h1, h2]
  rw [List.eraseIdx_eq_take_drop_succ]
  rw [e] at hn
  have := List.perm_middle (a := i) (l₁ := L.take k) (l₂ := L.drop (k + 1))
  exact (List.perm_append_singleton i _).symm.nodup (this.nodup hn)
theorem rowsF_rank {s : Sy} (ok : OkS s) {L : List Nat} (h0 : L ≠ []) (h1 : L.length ≤ 6) (h2 : ∀ i ∈ L, i < s.rs.length) : IsRank ((rowsF s L).map at_) s.bs.length (rkF s L) := by
  obtain ⟨rv, rw', rm⟩ := rowsF_valid ok h0 h1 h2
  have := rk_isRank (valid_small rv)
  unfold rkF
  rw [rw'] at this ⊢
  exact this
theorem rkF_nil (s : Sy) : rkF s [] = 0 := by
  have : rowsF s [] = [] := rfl
  unfold rkF
  rw [this]
  rfl
/-- A witness: its last entry is 1, and the pulls times it add up to 0. -/
theorem wit_val {s : Sy} (ok : OkS s) {L : List Nat} {k i : Nat} (hn : L.Nodup) (hL : ∀ j ∈ L, j < s.rs.length) (hl6 : L.length ≤ 6) (hLk : L[k]? = some i) (hr : ¬ rkF s (L.eraseIdx k) < rkF s L) :
    ∃ v, witK s L k i = (v, 0) ∧ v.length = s.rs.length ∧ v[i]? = some (1, 1) ∧ (∀ j, j < s.rs.length → j ∉ L → v[j]? = some (0, 1)) ∧ ∃ (Z : Nat → Int) (D : Int), D ≠ 0 ∧ (∀ (j : Nat) (f : Int × Int), v[j]? = some f → Val f (Z j) D) ∧ ∀ r ∈ matS s, sumN (fun j => at_ r j * Z j) s.rs.length = 0 := by
  have hb6 := ok.b6
  have hkl := (List.getElem?_eq_some_iff.1 hLk).1
  have hil := hL i (List.mem_of_getElem? hLk)
  have hback := erase_back hLk
  have hnd := erase_nodup hn hLk
  have hel : (L.eraseIdx k).length = L.length - 1 := List.length_eraseIdx_of_lt hkl
  have hP : ∀ j ∈ L.eraseIdx k ++ [i], j < s.rs.length := fun j hj => hL j ((hback j).1 hj)
  have hO : ∀ j ∈ L.eraseIdx k, j < s.rs.length := fun j hj => hP j (List.mem_append_left _ hj)
  have h0 : L ≠ [] := fun e => by subst e; simp at hLk
  obtain ⟨cv, cw, cm⟩ := rowsF_valid ok (L := L.eraseIdx k ++ [i]) (by simp) (by simp; omega) hP
  obtain ⟨uv, uw⟩ := turn_valid cv (by omega)
  rw [cw] at uv uw
  have hCe : rowsF s (L.eraseIdx k ++ [i]) = rowsF s (L.eraseIdx k) ++ [(trS s).getD i []] := by simp [rowsF]
  have hCl : (rowsF s (L.eraseIdx k ++ [i])).length = (rowsF s (L.eraseIdx k)).length + 1 := by rw [hCe]; simp
  have hEl := rowsF_len s (L.eraseIdx k)
  have hR := rowsF_rank ok h0 hl6 hL
  have hle : rkF s (L.eraseIdx k) = rkF s L ∨ L.eraseIdx k = [] ∧ rkF s L = 0 := by
    by_cases hO0 : L.eraseIdx k = []
    · rw [hO0, rkF_nil] at hr
      exact .inr ⟨hO0, by omega⟩
    · have := (rowsF_rank ok hO0 (by omega) hO).le hR fun x hx => by
        obtain ⟨q, hq, rfl⟩ := List.mem_map.1 hx
        obtain ⟨j, hj, rfl⟩ := List.mem_map.1 hq
        exact List.mem_map.2 ⟨_, List.mem_map.2 ⟨j, (hback j).1 (List.mem_append_left _ hj), rfl⟩, rfl⟩
      exact .inl (by omega)
  have h1 : rkF s L = 0 ∨ IsRank ((rowsF s (L.eraseIdx k)).map at_) s.bs.length (rkF s L) := by
    rcases hle with h | h
    · by_cases hO0 : L.eraseIdx k = []
      · rw [hO0, rkF_nil] at h
        exact .inl h.symm
      · rw [← h]
        exact .inr (rowsF_rank ok hO0 (by omega) hO)
    · exact .inl h.2
  have h2 : IsRank ((rowsF s (L.eraseIdx k) ++ [(trS s).getD i []]).map at_) s.bs.length (rkF s L) := by
    rw [← hCe]
    refine isRank_mem hR fun x => ?_
    constructor
    · intro hx
      obtain ⟨q, hq, rfl⟩ := List.mem_map.1 hx
      obtain ⟨j, hj, rfl⟩ := List.mem_map.1 hq
      exact List.mem_map.2 ⟨_, List.mem_map.2 ⟨j, (hback j).2 hj, rfl⟩, rfl⟩
    · intro hx
      obtain ⟨q, hq, rfl⟩ := List.mem_map.1 hx
      obtain ⟨j, hj, rfl⟩ := List.mem_map.1 hq
      exact List.mem_map.2 ⟨_, List.mem_map.2 ⟨j, (hback j).1 hj, rfl⟩, rfl⟩
  have hF := last_free (by rw [← hCe]; exact uv) (by rw [← hCe, uw, hCl]) (fun r hr' => (cm r (by rw [hCe]; exact hr')).2) h1 h2
  rw [← hCe, ← hCl, hCl, Nat.add_comm, Nat.add_comm 1] at hF
  have hs := valid_small uv
  have iv := elim_inv (ups_mover (turnP (rowsF s (L.eraseIdx k ++ [i])) s.bs.length) (wid (turnP (rowsF s (L.eraseIdx k ++ [i])) s.bs.length))) hs.lens _ (Nat.le_refl _)
  rw [← elim_by, uw, hCl] at iv
  have ho := nvec_one iv (Nat.lt_succ_self _) hF.1 _ (Nat.le_refl _)
  have hX := fun v hv => (modes_val uv (v := v) hv).2
  have hnl : (nullP (turnP (rowsF s (L.eraseIdx k ++ [i])) s.bs.length)).1 = nulls (elim (turnP (rowsF s (L.eraseIdx k ++ [i])) s.bs.length) ((rowsF s (L.eraseIdx k)).length + 1)) ((rowsF s (L.eraseIdx k)).length + 1) (rowsF s (L.eraseIdx k)).length ++ [nvec (elim (turnP (rowsF s (L.eraseIdx k ++ [i])) s.bs.length) ((rowsF s (L.eraseIdx k)).length + 1)) ((rowsF s (L.eraseIdx k)).length + 1) (rowsF s (L.eraseIdx k)).length (elim (turnP (rowsF s (L.eraseIdx k ++ [i])) s.bs.length) ((rowsF s (L.eraseIdx k)).length + 1)).pivots.length] := by
    unfold nullP
    rw [if_pos uv]
    simp only [uw, hCl]
    simp only [nulls, hF.1]
    rfl
  have hvl := nvec_len (elim (turnP (rowsF s (L.eraseIdx k ++ [i])) s.bs.length) ((rowsF s (L.eraseIdx k)).length + 1)) ((rowsF s (L.eraseIdx k)).length + 1) (rowsF s (L.eraseIdx k)).length (elim (turnP (rowsF s (L.eraseIdx k ++ [i])) s.bs.length) ((rowsF s (L.eraseIdx k)).length + 1)).pivots.length
  generalize nvec (elim (turnP (rowsF s (L.eraseIdx k ++ [i])) s.bs.length) ((rowsF s (L.eraseIdx k)).length + 1)) ((rowsF s (L.eraseIdx k)).length + 1) (rowsF s (L.eraseIdx k)).length (elim (turnP (rowsF s (L.eraseIdx k ++ [i])) s.bs.length) ((rowsF s (L.eraseIdx k)).length + 1)).pivots.length = v at *
  generalize nulls (elim (turnP (rowsF s (L.eraseIdx k ++ [i])) s.bs.length) ((rowsF s (L.eraseIdx k)).length + 1)) ((rowsF s (L.eraseIdx k)).length + 1) (rowsF s (L.eraseIdx k)).length = Y at *
  have hw : witK s L k i = (witV s L k i v, 0) := by
    unfold witK
    rw [if_neg hr]
    unfold colsW
    rw [hnl, if_neg (by simp)]
    simp
  have hlast : v.getD (v.length - 1) (0, 0) = (1, 1) := by
    rw [hvl, Nat.add_sub_cancel, List.getD_eq_getElem?_getD, ho]
    rfl
  have hPl : (L.eraseIdx k ++ [i]).length = (L.eraseIdx k).length + 1 := by simp
  have hwp : witV s L k i v = putW v (L.eraseIdx k ++ [i]) s.rs.length (L.eraseIdx k ++ [i]).length := by
    unfold witV
    rw [hPl]
    simp only [putW]
    rw [putW_app _ _ _ _ _ (Nat.le_refl _)]
    have e1 : (L.eraseIdx k ++ [i]).getD (L.eraseIdx k).length 0 = i := by rw [List.getD_eq_getElem?_getD, List.getElem?_append_right (Nat.le_refl _), Nat.sub_self]; rfl
    have e2 : v.length - 1 = (L.eraseIdx k).length := by omega
    rw [e1, e2]
  obtain ⟨Z, D, hD, hK, hXv⟩ := hX v (by rw [hnl]; simp)
  refine ⟨_, hw, ?_, ?_, fun j hj hjL => ?_, ZP (L.eraseIdx k ++ [i]) Z (L.eraseIdx k ++ [i]).length, D, hD, fun j f hf => ?_, fun r hr' => ?_⟩
  · rw [hwp, putW_len]
  · unfold witV
    rw [hlast, List.getElem?_set_self (by rw [putW_len]; exact hil)]
  · rw [hwp]
    exact putW_free (fun h => hjL ((hback j).1 h)) hj _ (Nat.le_refl _)
  · rw [hwp] at hf
    exact putW_val hD hnd hXv (by omega) _ (Nat.le_refl _) j f hf
  · rw [ZP_sum (at_ r) _ Z s.rs.length _ (Nat.le_refl _) hP]
    obtain ⟨b, hb⟩ := List.mem_iff_getElem?.1 hr'
    have hbl := (List.getElem?_eq_some_iff.1 hb).1
    rw [ok.mat_len] at hbl
    have hk0 := hK (colP (rowsF s (L.eraseIdx k ++ [i])) b) (List.mem_map.2 ⟨b, by simpa using hbl, rfl⟩)
    rw [uw, rowsF_len] at hk0
    rw [← hk0]
    refine sumN_congr _ fun j hj => ?_
    rw [at_colP]
    obtain ⟨p, hp⟩ : ∃ y, (L.eraseIdx k ++ [i])[j]? = some y := ⟨_, List.getElem?_eq_getElem hj⟩
    have e1 : (L.eraseIdx k ++ [i]).getD j 0 = p := by rw [List.getD_eq_getElem?_getD, hp]; rfl
    have e2 : Lin.row (rowsF s (L.eraseIdx k ++ [i])) j = colP (matS s) p := by
      unfold Lin.row rowsF
      rw [List.getElem?_map, hp]
      exact trS_getD s (hP p (List.mem_of_getElem? hp))
    have e3 : Lin.row (matS s) b = r := by unfold Lin.row; rw [hb]; rfl
    rw [e1, e2, at_colP, e3]
/-! MobilityProves. -/
theorem redN_mem {s : Sy} (ok : OkS s) {L : List Nat} (hL : ∀ j ∈ L, j < s.rs.length) {j : Nat} {r : Rp} (hr : s.rs[j]? = some r) : (redN s L L.length).contains r.nm = true ↔ ∃ k, L[k]? = some j ∧ redB s L k = true := by
  rw [List.contains_iff_mem]
  unfold redN
  rw [List.mem_map]
  constructor
  · rintro ⟨k, hk, e⟩
    rw [List.mem_filter, List.mem_range] at hk
    obtain ⟨i, hi⟩ : ∃ y, L[k]? = some y := ⟨_, List.getElem?_eq_getElem hk.1⟩
    have hil := hL i (List.mem_of_getElem? hi)
    obtain ⟨q, hq⟩ : ∃ y, s.rs[i]? = some y := ⟨_, List.getElem?_eq_getElem hil⟩
    have e1 : s.rs.getD (L.getD k 0) ⟨ByteArray.empty, [], false⟩ = q := by
      rw [List.getD_eq_getElem?_getD (l := L), hi, Option.getD_some, List.getD_eq_getElem?_getD, hq]; rfl
    rw [e1] at e
    have := ok.rinj i j q r hq hr e
    subst this
    exact ⟨k, hi, hk.2⟩
  · rintro ⟨k, hi, hb⟩
    have hkl := (List.getElem?_eq_some_iff.1 hi).1
    refine ⟨k, List.mem_filter.2 ⟨List.mem_range.2 hkl, hb⟩, ?_⟩
    rw [List.getD_eq_getElem?_getD (l := L), hi, Option.getD_some, List.getD_eq_getElem?_getD, hr]; rfl
theorem findM_own {s : Sy} (hv : validS s = true) (ok : OkS s) {j : Nat} {r : Rp} (hr : s.rs[j]? = some r) : findM s r.nm = ((j : Int), 0) := by
  have h0 : (findM s r.nm).2 = 0 := by
    unfold findM
    rw [if_pos hv]
    have ha : (s.rs.any fun q : Rp => decide (q.nm = r.nm)) = true := List.any_eq_true.2 ⟨r, List.mem_of_getElem? hr, by simp⟩
    obtain ⟨h1, h2⟩ := idx_lt (fun q : Rp => decide (q.nm = r.nm)) s.rs 0
    obtain ⟨k, x, e1, _, _⟩ := h1 ha
    unfold findR
    rw [e1, if_neg (by omega)]
  obtain ⟨_, i, q, e, hq, hn⟩ := findM_ok h0
  rw [e, ok.rinj i j q r hq hr hn]
theorem fixA_nodup (s : Sy) : (fixA s).Nodup := List.nodup_range.filter _
theorem fixA_mem {s : Sy} {j : Nat} {r : Rp} (hr : s.rs[j]? = some r) : j ∈ fixA s ↔ r.hl = false := by
  have hj := (List.getElem?_eq_some_iff.1 hr).1
  unfold fixA
  rw [fixP_mem]
  unfold fixB
  rw [hr]
  have : ((j : Int) == -1) = false := by simp
  simp only [this, Bool.not_false, Bool.and_true, hj, true_and]
  cases r.hl <;> simp
theorem idxN_miss (x : Int) : ∀ (l : List Int) (n : Nat), x ∉ l → idxN x l n = -1
  | [], n, _ => rfl
  | y :: r, n, h => by
    simp only [idxN]
    rw [if_neg (fun e => h (by rw [e]; simp)), idxN_miss x r (n + 1) fun hm => h (List.mem_cons_of_mem _ hm)]
theorem nums_mem {L : List Nat} {i : Nat} : (i : Int) ∈ nums L ↔ i ∈ L := by
  unfold nums
  rw [List.mem_map]
  constructor
  · rintro ⟨k, hk, e⟩
    have : k = i := by omega
    subst this; exact hk
  · intro h; exact ⟨i, h, rfl⟩
theorem fixA_le {s : Sy} (ok : OkS s) : (fixA s).length ≤ 6 := by
  have hr6 := ok.r6
  have hfl := fixP_len s.rs (-1) s.rs.length
  unfold fixA
  omega
/-- What a witness is, rope by rope. -/
theorem wit_own {s : Sy} (hv : validS s = true) {j : Nat} {r : Rp} (hr : s.rs[j]? = some r) : (r.hl = true ∧ witP s r.nm = ([], 12)) ∨ ∃ k, (fixA s)[k]? = some j ∧ r.hl = false ∧ witP s r.nm = witK s (fixA s) k j := by
  have ok := validS_ok hv
  have hF := findM_own hv ok hr
  have e : witP s r.nm = if idxN (j : Int) (nums (fixA s)) 0 < 0 then ([], 12) else witK s (fixA s) (idxN (j : Int) (nums (fixA s)) 0).toNat j := by
    unfold witP
    rw [hF]
    simp
  rw [e]
  by_cases hm : j ∈ fixA s
  · right
    have hne : ¬ idxN (j : Int) (nums (fixA s)) 0 < 0 := by
      have := idxN_mem (j : Int) (nums (fixA s)) 0
      rw [List.contains_iff_mem.2 (nums_mem.2 hm)] at this
      have := of_decide_eq_true this
      omega
    obtain ⟨k, hk1, hk2⟩ := idxN_hit (j : Int) (nums (fixA s)) 0 hne
    rw [Nat.zero_add] at hk1
    rw [if_neg hne, hk1, Int.toNat_natCast]
    refine ⟨k, ?_, (fixA_mem hr).1 hm, rfl⟩
    unfold nums at hk2
    rw [List.getElem?_map] at hk2
    cases hq : (fixA s)[k]? with
    | none => rw [hq] at hk2; simp at hk2
    | some y => rw [hq] at hk2; simp at hk2; exact congrArg some (by omega)
  · left
    rw [idxN_miss _ _ _ (fun h => hm (nums_mem.1 h)), if_pos (by decide)]
    refine ⟨?_, rfl⟩
    cases hh : r.hl
    · exact absurd ((fixA_mem hr).2 hh) hm
    · rfl
theorem rkF_le {s : Sy} (ok : OkS s) {L M : List Nat} (hM : M.length ≤ 6) (hL : L.length ≤ 6) (hm : ∀ j ∈ M, j < s.rs.length) (h : ∀ j ∈ L, j ∈ M) : rkF s L ≤ rkF s M := by
  by_cases h0 : L = []
  · subst h0
    rw [rkF_nil]
    exact Nat.zero_le _
  · have h1 : M ≠ [] := fun e => by
      subst e
      cases L with
      | nil => exact h0 rfl
      | cons a l => exact absurd (h a (by simp)) (by simp)
    exact (rowsF_rank ok h0 hL fun j hj => hm j (h j hj)).le (rowsF_rank ok h1 hM hm) fun x hx => by
      obtain ⟨q, hq, rfl⟩ := List.mem_map.1 hx
      obtain ⟨j, hj, rfl⟩ := List.mem_map.1 hq
      exact List.mem_map.2 ⟨_, List.mem_map.2 ⟨j, h j hj, rfl⟩, rfl⟩
theorem proves_case {s : Sy} (hv : validS s = true) {j : Nat} {r : Rp} (hr : s.rs[j]? = some r) :
    (witP s r.nm = ([], 12) ∧ (redP s).1.contains r.nm = false) ∨ ((redP s).1.contains r.nm = true ∧ r.hl = false ∧ ∃ v, witP s r.nm = (v, 0) ∧ v.length = s.rs.length ∧ v[j]? = some (1, 1) ∧ (∀ (i : Nat) (q : Rp), s.rs[i]? = some q → q.hl = true → v[i]? = some (0, 1)) ∧ ∃ (Z : Nat → Int) (D : Int), D ≠ 0 ∧ (∀ (i : Nat) (f : Int × Int), v[i]? = some f → Val f (Z i) D) ∧ ∀ row ∈ matS s, sumN (fun i => at_ row i * Z i) s.rs.length = 0) := by
  have ok := validS_ok hv
  have eR : (redP s).1 = redN s (fixA s) (fixA s).length := by simp [redP, hv]
  have hL : ∀ i ∈ fixA s, i < s.rs.length := fun i hi => fixP_lt hi
  have hl6 := fixA_le ok
  have hM := redN_mem ok hL hr
  rw [eR]
  rcases wit_own hv hr with ⟨h1, h2⟩ | ⟨k, h1, h2, h3⟩
  · refine .inl ⟨h2, Bool.eq_false_iff.2 fun h => ?_⟩
    obtain ⟨k, hk, _⟩ := hM.1 h
    have := (fixA_mem hr).1 (List.mem_of_getElem? hk)
    rw [h1] at this
    cases this
  · have hkl := (List.getElem?_eq_some_iff.1 h1).1
    have hel : ((fixA s).eraseIdx k).length = (fixA s).length - 1 := List.length_eraseIdx_of_lt hkl
    have hle : rkF s ((fixA s).eraseIdx k) ≤ rkF s (fixA s) := rkF_le ok hl6 (by omega) hL fun i hi => List.mem_of_mem_eraseIdx hi
    by_cases hlt : rkF s ((fixA s).eraseIdx k) < rkF s (fixA s)
    · refine .inl ⟨by rw [h3]; unfold witK; rw [if_pos hlt], Bool.eq_false_iff.2 fun h => ?_⟩
      obtain ⟨k', hk', hb⟩ := hM.1 h
      have hk'l := (List.getElem?_eq_some_iff.1 hk').1
      have e := (List.getElem?_inj hk'l (fixA_nodup s)).1 (hk'.trans h1.symm)
      subst e
      unfold redB at hb
      have : rkF s ((fixA s).eraseIdx k') = rkF s (fixA s) := by simpa using hb
      omega
    · obtain ⟨v, w1, w2, w3, w4, w5⟩ := wit_val ok (fixA_nodup s) hL hl6 h1 hlt
      refine .inr ⟨hM.2 ⟨k, h1, ?_⟩, h2, v, by rw [h3, w1], w2, w3, fun i q hq hh => ?_, w5⟩
      · unfold redB
        simp only [beq_iff_eq]
        omega
      · refine w4 i (List.getElem?_eq_some_iff.1 hq).1 fun hm => ?_
        have := (fixA_mem hq).1 hm
        rw [hh] at this
        cases this
theorem redP_len {s : Sy} (hv : validS s = true) : (redP s).1.length ≤ 6 := by
  have := fixA_le (validS_ok hv)
  have h2 := redN_len s (fixA s) (fixA s).length
  have eR : (redP s).1 = redN s (fixA s) (fixA s).length := by simp [redP, hv]
  rw [eR]
  omega
end Go.Proofs.YtjjpjgnoanfaoaaGreat.T
end

