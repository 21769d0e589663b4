import Derived.Test.YtpcakodemleoiaaGreatSALXACR
import Derived.Test.YtpcakodemleoiaaGreatSCPYALN
import Derived.Test.YtpcakodemleoiaaGreatSARHMake
set_option linter.all false
namespace Go.Proofs.YtpcakodemleoiaaGreat.T
open Go Go.RowKit Lin
theorem gdtb_ALK {F P Q : Prop} (f : F) (q : Q) (h : F → Q → P := by
  intro ff  hq
  (try with_reducible intro KR hKR)
  (repeat refine AW_seq ?_); (repeat refine AW_seq ?_); (refine AW_drawn_k tab_ok follows_mixed 2 fun KR hKR => ?_); simp only [List.replicate_succ, List.replicate_zero, List.append_nil, List.nil_append, List.cons_append, List.length_cons, List.length_nil, Nat.reduceAdd]; (repeat' ((first | refine awD_n rfl fun KK hKK => ?_ | refine awD_g rfl rfl fun KK hKK => ?_ | refine awD_gc rfl fun KK hKK => ?_ | refine awD_nc fun KK hKK => ?_); simp (disch := omega) only [bb, bt, zDs, zD, eqCells, simprocAttr, ff, bne_self_eq_false, Int.reduceBNe, Int.reduceBEq, Bool.bne_false, Bool.bne_true, Bool.false_bne, Bool.true_bne]; refine hKK _ _ _ ?_; clear hKK KK)); (refine awD_nil ?_); simp only [List.reverse_cons, List.reverse_nil, List.nil_append, List.cons_append]; (refine hKR _ _ (by first | rfl | kernel_rfl) ?_); (try clear hKR KR); (repeat (with_reducible first | refine q1 ?_ | refine q2 ?_ | refine q3 ?_ | refine q4 ?_ | refine q5 ?_ | refine q6 ?_ | (refine q7 ?_ ?_; (focus (with_unfolding_all rfl)))))
  (first | exact hq | (revert hKR; revert KR; exact hq))) : P := h f  q
theorem gga4_ALK {C1 C2 C3 C4 P Q : Prop} (c1 : C1) (c2 : C2) (c3 : C3) (c4 : C4) (q : Q) (h : C1 → C2 → C3 → C4 → Q → P := by
  intro cc1 cc2 cc3 cc4 hq
  (try with_reducible intro KR hKR)
  (repeat' (first | (with_reducible refine AW_seq ?_) | (with_reducible refine AW_region_k tab_ok fun KR hKR => ?_) | ((first | with_reducible refine AW_skip ?_ | with_reducible refine AW_exit ?_ | ((with_reducible refine awOps_nil ?_); refine hKR _ ?_; (try clear hKR KR))); (repeat (with_reducible first | refine q1 ?_ | refine q2 ?_ | refine q3 ?_ | refine q4 ?_ | refine q5 ?_ | refine q6 ?_ | (refine q7 ?_ ?_; (focus (with_unfolding_all rfl)))))) | ((first | ((with_reducible refine at_ops ?_); (first | refine awOps_n rfl fun KK hKK => ?_ | refine awOps_g rfl rfl fun KK hKK => ?_ | refine awOps_gc rfl fun KK hKK => ?_ | refine awOps_nc fun KK hKK => ?_)) | with_reducible refine AW_cond_k (tab := tab) fun KK hKK => ?_); simp (disch := omega) only [bb, bt, zDs, zD, eqCells, simprocAttr, bne_self_eq_false, Int.reduceBNe, Int.reduceBEq, Bool.bne_false, Bool.bne_true, Bool.false_bne, Bool.true_bne, goC, callO_fn, argsD, and_self]; (try ((first | (with_reducible refine ACall.of_pret (cc1) ?_ ?_; (focus (first | (simp only [um]; done) | rfl))) | (with_reducible refine ACall.of_pret (cc2) ?_ ?_; (focus (first | (simp only [um]; done) | rfl))) | (with_reducible refine ACall.of_pret (cc3) ?_ ?_; (focus (first | (simp only [um]; done) | rfl))) | (with_reducible refine ACall.of_pret (cc4) ?_ ?_; (focus (first | (simp only [um]; done) | rfl)))); simp only [afterC, St.put, putTM, ↓reduceIte, Nat.reduceEqDiff])); refine hKK _ ?_; clear hKK KK; (first | with_reducible refine at_ops ?_ | with_reducible refine i1 ?_ | with_reducible refine i0 ?_))))
  (first | exact hq | (revert hKR; revert KR; exact hq))) : P := h c1 c2 c3 c4 q
theorem seg_next {r : Rp} {up : Bool} {i : Nat} {h : Hd} {t : Int × Int} (hr : rightR r = true) (h1 : 1 ≤ i) (h2 : i + 1 < r.hs.length) (hx : r.hs[i]? = some h) (ha : (mulP t (facK r.hs up (i - 1))).2 = 0) (hb : (mulP t (facK r.hs up i)).2 = 0) :
    (up = true → (mulP (mulP t (facK r.hs up (i - 1))).1 (h.n, h.d)).2 = 0 → (mulP (mulP t (facK r.hs up (i - 1))).1 (h.n, h.d)).1 = (mulP t (facK r.hs up i)).1) ∧
    (up = false → (mulP (mulP t (facK r.hs up i)).1 (h.n, h.d)).2 = 0 → (mulP (mulP t (facK r.hs up i)).1 (h.n, h.d)).1 = (mulP t (facK r.hs up (i - 1))).1) := by
  obtain ⟨j, rfl⟩ : ∃ j, i = j + 1 := ⟨i - 1, by omega⟩
  rw [Nat.add_sub_cancel] at ha ⊢
  obtain ⟨n2, n10⟩ := rightR_len hr
  have hlo := okLoss_lossy (rightR_at hr hx)
  have hls : ∀ i h, 1 ≤ i → i ≤ j → r.hs[i]? = some h → lossy h.n h.d = true := fun i h _ hi hh => okLoss_lossy (rightR_at hr hh)
  obtain ⟨n1, n3, n4⟩ := facK_next (hs := r.hs) (up := up) (k := j) (by omega) hls hx hlo
  have hlf := lossy_fb hlo
  have vl := Val.self hlf.v
  have hl0 : h.n ≠ 0 := by have := hlf.n1; simp only at this; omega
  have vt := Val.self (mul0 ha).1
  have vf := Val.self (mul0 ha).2.1
  have va := vt.mulP vf ha
  simp only at vl
  constructor
  · intro hu h0
    rw [hu] at n4 hb ha va vf n1 h0 ⊢
    rw [if_pos rfl] at n4
    have vF : Val (facK r.hs true (j + 1)) ((facK r.hs true j).1 * h.n) ((facK r.hs true j).2 * h.d) := by
      rw [n4]
      exact vf.mul vl (by rw [n1])
    refine (va.mulP vl h0).eq (vt.mulP vF hb) ?_
    ac_rfl
  · intro hu h0
    rw [hu] at n4 hb ha va vf n3 h0 ⊢
    rw [if_neg (by decide)] at n4
    have vF : Val (facK r.hs false (j + 1)) ((facK r.hs false j).1 * h.d) ((facK r.hs false j).2 * h.n) := by
      rw [n4]
      exact vf.div vl hl0 (by rw [n3])
    refine ((vt.mulP vF hb).mulP vl h0).eq va ?_
    ac_rfl
theorem alone_11 (h : Hd) (nm : ByteArray) : PRet Tryz.prog 51 [.agg (hd1 h), .rp [str nm] 0] (bool (decide (h.b = nm))) := by
  refine PRet.intro 1 fun t => ACall.enter tab_ok Tryz.func51 rfl rfl Tryz.ntmps51 (by simp) ?_
  simp only [enterTM]
  by_cases e : h.b = nm
  · have e1 : (h.b == nm) = true := by simpa using e
    rw [decide_eq_true e]
    ((refine ggb0 (F := _∧_) ⟨e1, e⟩ ?_))
    ((repeat refine AW_seq ?_); (refine wta ?_); simp (disch := omega) only [retQ, resD, oneD, rsv, rs, rsL, rsL_eq_map, List.map_map, bb, bt, zDs, zD, eqCells, simprocAttr, Tryz.results51])
  · have e1 : (h.b == nm) = false := by simpa using e
    rw [decide_eq_false e]
    ((refine ggb0 (F := _∧_) ⟨e1, e⟩ ?_))
    ((repeat refine AW_seq ?_); (refine wta ?_); simp (disch := omega) only [retQ, resD, oneD, rsv, rs, rsL, rsL_eq_map, List.map_map, bb, bt, zDs, zD, eqCells, simprocAttr, Tryz.results51])
theorem alone_1 (r : Rp) (nm : ByteArray) (hl : r.hs.length ≤ 1000000) : PRet Tryz.prog 49 [.agg (rp1 r), .rp [str nm] 0] (bool (!r.hl && r.hs.any fun h => decide (h.b = nm))) := by
  refine PRet.intro 1 fun t => ACall.enter tab_ok Tryz.func49 rfl rfl Tryz.ntmps49 (by simp) ?_
  simp only [enterTM]
  have hC := containsFuncHd r.hs 51 [.rp [str nm] 0] (fun h => decide (h.b = nm)) hl (fun x _ => alone_11 x nm)
  generalize (r.hs.any fun h => decide (h.b = nm)) = z at *
  obtain ⟨rn, rhs, rhl⟩ := r
  cases rhl
  all_goals
    simp only at hC ⊢
    ((refine gga1 hC ?_))
    ((repeat refine AW_seq ?_); (refine wta ?_); simp (disch := omega) only [retQ, resD, oneD, rsv, rs, rsL, rsL_eq_map, List.map_map, bb, bt, zDs, zD, eqCells, simprocAttr, Tryz.results49])
theorem containsFuncRpC (l : List Rp) (g : FuncId) (caps : List D) (p : Rp → Bool) (hl : l.length ≤ 1000000) (hp : ∀ x ∈ l, PRet Tryz.prog g ((.agg (rp1 x) :: caps).map ufa) (bool (p x))) : PRet Tryz.prog 48 [rps l, .fn g caps] (bool (l.any p)) := by
  refine PRet.intro 1 fun t => ACall.enter tab_ok Tryz.func48 rfl rfl Tryz.ntmps48 (by simp) ?_
  simp only [enterTM]
  have hI := indexFuncRp l g caps p hl hp
  have hA := idx_any p l 0
  generalize idx p l 0 = z at *
  ((refine gga1 hI ?_))
  ((repeat refine AW_seq ?_); (refine wta ?_); simp (disch := omega) only [retQ, resD, oneD, rsv, rs, rsL, rsL_eq_map, List.map_map, bb, bt, zDs, zD, eqCells, simprocAttr, Tryz.results48, hA])
theorem alone14 (s : Sy) (hf : Fits s) (nm : ByteArray) : PRet Tryz.prog 17 [syD s, str nm] (bool (aloneB s nm)) := by
  refine PRet.intro 1 fun t => ACall.enter tab_ok Tryz.func17 rfl rfl Tryz.ntmps17 (by simp) ?_
  simp only [enterTM]
  have hC := containsFuncRpC s.rs 49 [.rp [str nm] 0] (fun r => !r.hl && r.hs.any fun h => decide (h.b = nm)) hf.nr (fun x hx => alone_1 x nm (hf.sr x hx).2)
  unfold aloneB
  generalize (s.rs.any fun r => !r.hl && r.hs.any fun h => decide (h.b = nm)) = z at *
  ((refine wqa ?_))
  ((refine AW.freeze (1) (by first | rfl | (simp only [setH, List.getElem?_cons_zero, List.getElem?_cons_succ, fz_bk, fz_rp]; done)) ?_); simp (disch := omega) only [fzT, fz, fzL, fzL_ints, fzL_mat, fzH, fzB, eq_self, bb, bt, zDs, zD, eqCells, simprocAttr, fz_bk, fz_rp])
  ((refine gga1 hC ?_))
  ((repeat refine AW_seq ?_); (refine wta ?_); simp (disch := omega) only [retQ, resD, oneD, rsv, rs, rsL, rsL_eq_map, List.map_map, bb, bt, zDs, zD, eqCells, simprocAttr, Tryz.results17])
theorem carry1 (r : Rp) : PRet Tryz.prog 15 [.agg (rp1 r)] (bool r.hl) := by
  refine PRet.intro 1 fun t => ACall.enter tab_ok Tryz.func15 rfl rfl Tryz.ntmps15 (by simp) ?_
  simp only [enterTM]
  ((refine gga0 ?_))
  ((repeat refine AW_seq ?_); (refine wta ?_); simp (disch := omega) only [retQ, resD, oneD, rsv, rs, rsL, rsL_eq_map, List.map_map, bb, bt, zDs, zD, eqCells, simprocAttr, Tryz.results15])
theorem gripW_step {P : Nat → Int} {n : Nat} {nm : ByteArray} {hs : List Hd} {i : Nat} {h : Hd} (hx : hs[i]? = some h) : gripW P n nm (hs.drop i) i = (if h.b = nm then (if i = 0 then h.p * P 0 else if i + 1 = n then h.p * P (n - 2) else h.p.tdiv 2 * (P (i - 1) + P i)) else 0) + gripW P n nm (hs.drop (i + 1)) (i + 1) := by
  rw [List.drop_eq_getElem_cons (List.getElem?_eq_some_iff.1 hx).1, (List.getElem?_eq_some_iff.1 hx).2]
  rfl
theorem half_p {p : Int} (hp : -2 ≤ p ∧ p ≤ 2) : -2 ≤ p.tdiv 2 ∧ p.tdiv 2 ≤ 2 := by
  have h1 : p = -2 ∨ p = -1 ∨ p = 0 ∨ p = 1 ∨ p = 2 := by omega
  rcases h1 with e | e | e | e | e <;> rw [e] <;> decide
structure Seg (s : Sy) (up : Bool) (i : Nat) (r : Rp) (t : Int × Int) (L : List (Int × Int)) : Prop where
  hix : hix s = (i : Int)
  hr : s.rs[i]? = some r
  right : rightR r = true
  vt : vfrac t.1 t.2 = true
  len : L.length = r.hs.length - 1
  at_ : ∀ j, j + 1 < r.hs.length → (mulP t (facK r.hs up j)).2 = 0 ∧ L[j]? = some (mulP t (facK r.hs up j)).1
  vf : ∀ j, j + 1 < r.hs.length → vfrac (facK r.hs up j).1 (facK r.hs up j).2 = true
  force : forceP s up = ((mulP t (facK r.hs up (r.hs.length - 2))).1, 0)
  first : (firstP s up).2.2 = 0 ∧ (firstP s up).1 = t ∧ hauR s = r
theorem seg_facts {s : Sy} {up : Bool} (h : (segP s up).2 = 0) : ∃ i r t, Seg s up i r t (segP s up).1 := by
  have h0 : (firstP s up).2.2 = 0 := by
    unfold segP at h
    by_cases h0 : (firstP s up).2.2 = 0
    · exact h0
    · rw [if_neg h0] at h
      exact absurd h h0
  obtain ⟨vt, el, hright, hv, hx0, hall⟩ := firstP_v h0
  obtain ⟨i, r, hi, hrr, _⟩ := hix_hit hx0
  have ehr : hauR s = r := by unfold hauR; rw [hi, Int.toNat_natCast, List.getD_eq_getElem?_getD, hrr]; rfl
  rw [ehr] at hright el
  obtain ⟨n2, n10⟩ := rightR_len hright
  have e : segP s up = segA (firstP s up).1 (firstP s up).2.1 [] := by unfold segP; rw [if_pos h0]
  rw [e] at h ⊢
  obtain ⟨e1, e2⟩ := (segA_inv _ _).1 h
  rw [e1, List.nil_append, el]
  rw [el] at e2 hall
  have hm : ∀ j, j + 1 < r.hs.length → facK r.hs up j ∈ facL r up (r.hs.length - 1) := fun j hj => List.mem_map.2 ⟨j, List.mem_range.2 (by omega), rfl⟩
  refine ⟨i, r, (firstP s up).1, hi, hrr, hright, vt, by rw [List.length_map, facL_len], fun j hj => ⟨e2 _ (hm j hj), ?_⟩, fun j hj => hall _ (hm j hj), ?_, h0, rfl, ehr⟩
  · rw [List.getElem?_map, facL_at r up (by omega)]
    rfl
  · unfold forceP
    rw [if_pos h0, el, facL_len, List.getD_eq_getElem?_getD, facL_at r up (by omega), Option.getD_some, show r.hs.length - 1 - 1 = r.hs.length - 2 by omega]
    exact Prod.ext rfl (e2 _ (hm _ (by omega)))
theorem segP_nil {s : Sy} {up : Bool} (h : (segP s up).2 ≠ 0) : (segP s up).1 = [] := by
  unfold segP at h ⊢
  split
  · rename_i h0
    rw [if_pos h0] at h
    exact (segA_inv _ _).2 h
  · rfl
set_option maxRecDepth 100000 in
set_option maxHeartbeats 32000000 in
theorem law_carry14 (s : Sy) (up : Bool) : PRet Tryz.prog 3 [syD s, bool up] (bool true) := by
  refine PRet.intro 1 fun t => ACall.enter tab_ok Tryz.func3 rfl rfl Tryz.ntmps3 (by simp) ?_
  simp only [enterTM]
  have hR := ready14 s
  cases hr : smallS s && validS s
  · rw [hr] at hR
    ((refine gga2 awake14 hR ?_))
    ((repeat refine AW_seq ?_); (refine wta ?_); simp (disch := omega) only [retQ, resD, oneD, rsv, rs, rsL, rsL_eq_map, List.map_map, bb, bt, zDs, zD, eqCells, simprocAttr, Tryz.results3])
  rw [hr] at hR
  rw [Bool.and_eq_true] at hr
  obtain ⟨hs, hv⟩ := hr
  have hf := small_fits hs
  have ok := validS_ok hv
  have hb6 := ok.b6
  have hr6 := ok.r6
  have a1 := raise14 s hf
  have a2 := lower14 s hf
  have a3 := segs14 s hf up
  have hI : PRet Tryz.prog 14 [rps s.rs, .fn 15 []] (int (hix s)) := indexFuncRp s.rs 15 [] (fun r => r.hl) hf.nr (fun x _ => carry1 x)
  have hAl := fun nm => alone14 s hf nm
  by_cases h0 : (segP s up).2 = 0
  rotate_left 1
  · have e1 : ((segP s up).2 != 0) = true := by simpa using h0
    have a3 : PRet Tryz.prog 11 [syD s, bool up] (fse ([], (segP s up).2)) := by rw [← segP_nil h0]; exact a3
    generalize (segP s up).2 = E at *
    generalize forceP s true = A at *
    generalize forceP s false = B at *
    cases up
    all_goals
      ((refine ggb5 e1 awake14 hR a1 a2 a3 ?_))
      ((repeat refine AW_seq ?_); (refine wta ?_); simp (disch := omega) only [retQ, resD, oneD, rsv, rs, rsL, rsL_eq_map, List.map_map, bb, bt, zDs, zD, eqCells, simprocAttr, Tryz.results3])
      rfl
  obtain ⟨i, r, tn, hsg⟩ := seg_facts h0
  have hgrip : ∀ (j : Nat) (b : Bk), s.bs[j]? = some b → aloneB s b.nm = true → (gripP r up b.nm).2 = 0 ∧ (mulP (gripP r up b.nm).1 tn).2 = 0 ∧ (mulP (gripP r up b.nm).1 tn).1 = (b.w, 1) := fun j b hb ha => by
    obtain ⟨f1, f2, f3⟩ := hsg.first
    have := alone_grip f1 hb ha
    rwa [f2, f3] at this
  have hir := (List.getElem?_eq_some_iff.1 hsg.hr).1
  have hrm := List.mem_of_getElem? hsg.hr
  have hdr := rpC_div s.rs
  have hdb := bkC_div s.bs
  have hdh := hdC_div r.hs
  have hr1 : (rpC s.rs)[i * 3 + 1]? = some (hds r.hs) := rpC_cell s.rs i r hsg.hr 1 (by decide)
  have hpl := ok.pulls r hrm
  obtain ⟨n2, n10⟩ := rightR_len hsg.right
  have hLl := hsg.len
  have hLa := hsg.at_
  have hfo := hsg.force
  rw [hsg.hix] at hI
  have a3 : PRet Tryz.prog 11 [syD s, bool up] (fse ((segP s up).1, 0)) := by
    have e : segP s up = ((segP s up).1, 0) := Prod.ext rfl h0
    rw [← e]
    exact a3
  generalize (segP s up).1 = L at *
  have hLd := frC_div L
  rw [hLl] at hLd
  have hlast := hLa (r.hs.length - 2) (by omega)
  have hrl := frC_read L (r.hs.length - 2) _ hlast.2
  generalize (mulP tn (facK r.hs up (r.hs.length - 2))).1 = fl at *
  have hA1 : up = true → forceP s true = (fl, 0) := fun h => by rw [h] at hfo; exact hfo
  have hA2 : up = false → forceP s false = (fl, 0) := fun h => by rw [h] at hfo; exact hfo
  generalize forceP s true = A at *
  generalize forceP s false = B at *
  ((refine gga4_ALK awake14 hR a3 a1 ?_))
  ((repeat refine AW_seq ?_))
  refine AW_mid (fun x : Nat => ⟨[(1, bool up), (2, .ptr 0 (t + 1) 0), (5, frs L), (6, int 0), (7, .ptr 1 (t + 1 + 1) 0), (8, int 0)], [some ⟨25, t + 1, [bks s.bs, rps s.rs]⟩, some ⟨33, t + 1 + 1, [int fl.1, int fl.2]⟩], x⟩) (fun _ => True) ?_ ?_
  · cases up
    · rw [hA2 rfl] at a2
      ((refine gga1 a2 ?_))
      exact ⟨t + 1 + 1, trivial, by (simp (disch := omega) only [StLe, tmLe, hpLe_refl, hpLe, bl, bb, bt, zDs, zD, eqCells, simprocAttr])⟩
    · rw [hA1 rfl]
      ((refine gga0 ?_))
      exact ⟨t + 1 + 1, trivial, by (simp (disch := omega) only [StLe, tmLe, hpLe_refl, hpLe, bl, bb, bt, zDs, zD, eqCells, simprocAttr])⟩
  rintro t1 -
  have c1 : (((r.hs.length - 1 : Nat) : Int) != (r.hs.length : Int) - 1) = false := by rw [bne_eq_false_iff_eq]; omega
  have hsub : ((r.hs.length - 1 : Nat) : Int) - 1 = ((r.hs.length - 2 : Nat) : Int) := by omega
  have hl2 : r.hs.length - 2 < r.hs.length - 1 := by omega
  ((refine ggb1 (F := _∧_∧_) ⟨hir, hdr, hr1⟩ hI ?_))
  ((repeat refine AW_seq ?_); (refine gdzb (F := _∧_∧_∧_∧_∧_) ⟨hLd, hdh, c1, hsub, hl2, hrl⟩ ?_))
  ((refine gga0 ?_))
  refine AW.less ⟨[(1, bool up), (2, .ptr 0 (t + 1) 0), (5, frs L), (10, hds r.hs), (11, int 1)], [some ⟨25, t + 1, [bks s.bs, rps s.rs]⟩], t1 + 1⟩ (by (simp (disch := omega) only [StLe, tmLe, hpLe_refl, hpLe, bl, bb, bt, zDs, zD, eqCells, simprocAttr])) ?_
  ((repeat refine AW_seq ?_))
  refine AW_mid (fun x : Nat => ⟨[(2, .ptr 0 (t + 1) 0), (5, frs L), (10, hds r.hs)], [some ⟨25, t + 1, [bks s.bs, rps s.rs]⟩], x⟩) (fun _ => True) ?_ ?_
  · refine AW_block ?_
    refine AW_loop_w (fun x : Nat × Nat => ⟨[(1, bool up), (2, .ptr 0 (t + 1) 0), (5, frs L), (10, hds r.hs), (11, int x.1)], [some ⟨25, t + 1, [bks s.bs, rps s.rs]⟩], x.2⟩) (fun x => r.hs.length - x.1) (fun x => 1 ≤ x.1 ∧ x.1 ≤ r.hs.length - 1) (1, t1 + 1) ⟨Nat.le_refl _, by show 1 ≤ r.hs.length - 1; omega⟩ (by (simp (disch := omega) only [StLe, tmLe, hpLe_refl, hpLe, bl, bb, bt, zDs, zD, eqCells, simprocAttr])) ?_
    rintro ⟨j, tt⟩ ⟨hj1, hj⟩
    simp only at hj1 hj
    by_cases hlt : j < r.hs.length - 1
    · obtain ⟨h, hx⟩ : ∃ y, r.hs[j]? = some y := ⟨_, List.getElem?_eq_getElem (by omega)⟩
      have hlo := hdC_loss hx
      have k1 := hLa (j - 1) (by omega)
      have k2 := hLa j (by omega)
      obtain ⟨g1, g2⟩ := seg_next (t := tn) hsg.right hj1 (by omega) hx k1.1 k2.1
      have hra := frC_read L (j - 1) _ k1.2
      have hrb := frC_read L j _ k2.2
      have hsj : (j : Int) - 1 = ((j - 1 : Nat) : Int) := by omega
      have hl1 : j - 1 < r.hs.length - 1 := by omega
      have hln : j < r.hs.length := by omega
      generalize (mulP tn (facK r.hs up (j - 1))).1 = ua at *
      generalize (mulP tn (facK r.hs up j)).1 = ub at *
      ((refine ggb0 (F := _∧_∧_) ⟨@Int.ofNat_lt, hlt, hLd⟩ ?_))
      ((repeat refine AW_seq ?_))
      refine AW_block ?_
      ((repeat refine AW_seq ?_); (refine gdtb_ALK (F := _∧_∧_∧_∧_∧_) ⟨hlt, hl1, hsj, hLd, hra, hrb⟩ ?_))
      cases up
      · have hM := rMul ub (h.n, h.d)
        have g2 := g2 rfl
        generalize mulP ub (h.n, h.d) = M at *
        ((refine gga0 ?_))
        ((repeat refine AW_seq ?_); (refine gdob1 (F := _∧_∧_) ⟨hln, hdh, hlo⟩ hM ?_))
        by_cases hm : M.2 = 0
        · have e1 : (M.2 == 0) = true := by simpa using hm
          have e2 := g2 hm
          ((refine ggb0 (F := _∧_) ⟨e1, e2⟩ ?_))
          refine ⟨(j + 1, tt + 1 + 1 + 1), ⟨by show 1 ≤ j + 1; omega, hlt⟩, by show r.hs.length - (j + 1) < r.hs.length - j; omega, ?_⟩
          (simp (disch := omega) only [StLe, tmLe, hpLe_refl, hpLe, bl, bb, bt, zDs, zD, eqCells, simprocAttr])
        · have e1 : (M.2 == 0) = false := by simpa using hm
          ((refine ggb0 e1 ?_))
          refine ⟨(j + 1, tt + 1 + 1 + 1), ⟨by show 1 ≤ j + 1; omega, hlt⟩, by show r.hs.length - (j + 1) < r.hs.length - j; omega, ?_⟩
          (simp (disch := omega) only [StLe, tmLe, hpLe_refl, hpLe, bl, bb, bt, zDs, zD, eqCells, simprocAttr])
      · have hM := rMul ua (h.n, h.d)
        have g1 := g1 rfl
        generalize mulP ua (h.n, h.d) = M at *
        ((refine gga0 ?_))
        ((repeat refine AW_seq ?_); (refine gdob1 (F := _∧_∧_) ⟨hln, hdh, hlo⟩ hM ?_))
        by_cases hm : M.2 = 0
        · have e1 : (M.2 == 0) = true := by simpa using hm
          have e2 := g1 hm
          ((refine ggb0 (F := _∧_) ⟨e1, e2⟩ ?_))
          refine ⟨(j + 1, tt + 1 + 1 + 1), ⟨by show 1 ≤ j + 1; omega, hlt⟩, by show r.hs.length - (j + 1) < r.hs.length - j; omega, ?_⟩
          (simp (disch := omega) only [StLe, tmLe, hpLe_refl, hpLe, bl, bb, bt, zDs, zD, eqCells, simprocAttr])
        · have e1 : (M.2 == 0) = false := by simpa using hm
          ((refine ggb0 e1 ?_))
          refine ⟨(j + 1, tt + 1 + 1 + 1), ⟨by show 1 ≤ j + 1; omega, hlt⟩, by show r.hs.length - (j + 1) < r.hs.length - j; omega, ?_⟩
          (simp (disch := omega) only [StLe, tmLe, hpLe_refl, hpLe, bl, bb, bt, zDs, zD, eqCells, simprocAttr])
    · have hje : j = r.hs.length - 1 := by omega
      subst hje
      ((refine wqb (F := _∧_) ⟨@Int.lt_irrefl, hLd⟩ ?_))
      ((refine wia ?_))
      ((refine wxa ?_))
      exact ⟨tt, trivial, by (simp (disch := omega) only [StLe, tmLe, hpLe_refl, hpLe, bl, bb, bt, zDs, zD, eqCells, simprocAttr])⟩
  rintro t2 -
  obtain ⟨P, Q, hQ, hP'⟩ := dens (facL r up (r.hs.length - 1)) (List.all_eq_true.2 fun x hx => by
    obtain ⟨j, hj, rfl⟩ := List.mem_map.1 hx
    exact hsg.vf j (by have := List.mem_range.1 hj; omega))
  have hP : ∀ j, j + 1 < r.hs.length → Val (facK r.hs up j) (P j) Q := fun j hj => hP' j _ (facL_at r up (by omega))
  have vt := Val.self hsg.vt
  have hU : ∀ j, j + 1 < r.hs.length → ∃ u, L[j]? = some u ∧ Val u (tn.1 * P j) (tn.2 * Q) := fun j hj => ⟨_, (hLa j hj).2, vt.mulP (hP j hj) (hLa j hj).1⟩
  have hM0 : tn.2 * Q ≠ 0 := Int.mul_ne_zero vt.n0 hQ
  ((refine ggb0 hdb ?_))
  ((repeat refine AW_seq ?_))
  refine AW_mid (fun x : Nat => ⟨[], [], x⟩) (fun _ => True) ?_ ?_
  · refine AW_block ?_
    refine AW_loop_w (fun x : Nat × Nat => ⟨[(2, .ptr 0 (t + 1) 0), (5, frs L), (10, hds r.hs), (123, bks s.bs), (124, int s.bs.length), (125, int x.1)], [some ⟨25, t + 1, [bks s.bs, rps s.rs]⟩], x.2⟩) (fun x => s.bs.length - x.1) (fun x => x.1 ≤ s.bs.length) (0, t2) (Nat.zero_le _) (by (simp (disch := omega) only [StLe, tmLe, hpLe_refl, hpLe, bl, bb, bt, zDs, zD, eqCells, simprocAttr])) ?_
    rintro ⟨k, tt⟩ hk
    simp only at hk
    by_cases hlt : k < s.bs.length
    · obtain ⟨b, hb⟩ : ∃ y, s.bs[k]? = some y := ⟨_, List.getElem?_eq_getElem hlt⟩
      have hra := bkC_read s.bs k b hb
      have hC := hAl b.nm
      have bw := ok.wts b (List.mem_of_getElem? hb)
      ((refine ggb0 (F := _∧_) ⟨@Int.ofNat_lt, hlt⟩ ?_))
      ((repeat refine AW_seq ?_))
      refine AW_block ?_
      cases ha : aloneB s b.nm
      · rw [ha] at hC
        ((refine ggb1 (F := _∧_∧_) ⟨hlt, hdb, hra⟩ hC ?_))
        refine ⟨(k + 1, tt + 1), hlt, by show s.bs.length - (k + 1) < s.bs.length - k; omega, ?_⟩
        (simp (disch := omega) only [StLe, tmLe, hpLe_refl, hpLe, bl, bb, bt, zDs, zD, eqCells, simprocAttr])
      rw [ha] at hC
      obtain ⟨gr0, gt0, gt1⟩ := hgrip k b hb ha
      have vg := gripP_val (nm := b.nm) hP n2 hpl gr0
      have vgt := vg.mulP vt gt0
      rw [gt1] at vgt
      generalize hG : gripW P r.hs.length b.nm r.hs 0 = G at *
      have hfin : ∀ c : Int × Int, Val c (tn.1 * G) (tn.2 * Q) → c = (b.w, 1) := fun c hc => hc.eq vgt (by ac_rfl)
      ((refine ggb1 (F := _∧_∧_∧_) ⟨hlt, hdb, hra, hdh⟩ hC ?_))
      ((repeat refine AW_seq ?_))
      refine AW_mid (fun x : Nat => ⟨[(2, .ptr 0 (t + 1) 0), (5, frs L), (10, hds r.hs), (17, .ptr 1 (tt + 1) 0), (18, .ptr 2 (tt + 1 + 1) 0), (123, bks s.bs), (124, int s.bs.length), (125, int k)], [some ⟨25, t + 1, [bks s.bs, rps s.rs]⟩, some ⟨45, tt + 1, bk1 b⟩, some ⟨33, tt + 1 + 1, [int b.w, int 1]⟩], x⟩) (fun _ => True) ?_ ?_
      · refine AW_block ?_
        refine AW_loop_w (fun x : (Int × Int) × Nat × Nat => ⟨[(2, .ptr 0 (t + 1) 0), (5, frs L), (10, hds r.hs), (17, .ptr 1 (tt + 1) 0), (18, .ptr 2 (tt + 1 + 1) 0), (123, bks s.bs), (124, int s.bs.length), (125, int k), (135, hds r.hs), (136, int r.hs.length), (137, int x.2.1)], [some ⟨25, t + 1, [bks s.bs, rps s.rs]⟩, some ⟨45, tt + 1, bk1 b⟩, some ⟨33, tt + 1 + 1, [int x.1.1, int x.1.2]⟩], x.2.2⟩) (fun x => r.hs.length - x.2.1) (fun x => x.2.1 ≤ r.hs.length ∧ ∃ C, Val x.1 C (tn.2 * Q) ∧ C + tn.1 * gripW P r.hs.length b.nm (r.hs.drop x.2.1) x.2.1 = tn.1 * G) ((0, 1), 0, tt + 1 + 1) ⟨Nat.zero_le _, 0, ⟨(show vfrac 0 1 = true by decide), hM0, by simp⟩, by rw [Int.zero_add]; exact congrArg (tn.1 * ·) hG⟩ (by (simp (disch := omega) only [StLe, tmLe, hpLe_refl, hpLe, bl, bb, bt, zDs, zD, eqCells, simprocAttr])) ?_
        rintro ⟨c, j, t3⟩ ⟨hj, C, hc, hC2⟩
        simp only at hj hc hC2
        by_cases hlj : j < r.hs.length
        · obtain ⟨h, hx⟩ : ∃ y, r.hs[j]? = some y := ⟨_, List.getElem?_eq_getElem hlj⟩
          have hrh := hdC_read r.hs j h hx
          have hpp := hpl h (List.mem_of_getElem? hx)
          rw [gripW_step hx] at hC2
          generalize hW : gripW P r.hs.length b.nm (r.hs.drop (j + 1)) (j + 1) = W at hC2
          ((refine ggb0 (F := _∧_) ⟨@Int.ofNat_lt, hlj⟩ ?_))
          ((repeat refine AW_seq ?_))
          refine AW_block ?_
          by_cases hnm : h.b = b.nm
          rotate_left 1
          · have en : decide (h.b = b.nm) = false := decide_eq_false hnm
            have en2 : (h.b == b.nm) = false := by simpa using hnm
            rw [if_neg hnm, Int.zero_add] at hC2
            ((refine ggb0 (F := _∧_∧_∧_∧_∧_) ⟨hlj, hdh, hrh, hnm, en, en2⟩ ?_))
            refine ⟨(c, j + 1, t3 + 1), ⟨hlj, C, hc, (show C + tn.1 * gripW P r.hs.length b.nm (r.hs.drop (j + 1)) (j + 1) = tn.1 * G by rw [hW]; exact hC2)⟩, by show r.hs.length - (j + 1) < r.hs.length - j; omega, ?_⟩
            (simp (disch := omega) only [StLe, tmLe, hpLe_refl, hpLe, bl, bb, bt, zDs, zD, eqCells, simprocAttr])
          have en : decide (h.b = b.nm) = true := decide_eq_true hnm
          have en2 : (h.b == b.nm) = true := by simpa using hnm
          rw [if_pos hnm] at hC2
          have hparts : ∃ (m : Nat) (u : Int × Int), m < r.hs.length - 1 ∧ L[m]? = some u ∧ Val u (tn.1 * P m) (tn.2 * Q) ∧ (m = if j + 1 = r.hs.length then r.hs.length - 2 else j) := by
            by_cases e : j + 1 = r.hs.length
            · obtain ⟨u, h1, h2⟩ := hU (r.hs.length - 2) (by omega)
              exact ⟨_, u, by omega, h1, h2, by rw [if_pos e]⟩
            · obtain ⟨u, h1, h2⟩ := hU j (by omega)
              exact ⟨_, u, by omega, h1, h2, by rw [if_neg e]⟩
          obtain ⟨m, u, hm, hu, vu, em⟩ := hparts
          have hru := frC_read L m u hu
          have hln : ((r.hs.length - 1 : Nat) : Int) - 1 = ((r.hs.length - 2 : Nat) : Int) := hsub
          ((refine wqb (F := _∧_∧_) ⟨hlj, hdh, hrh⟩ ?_))
          ((refine wqb (F := _∧_∧_) ⟨hnm, en, en2⟩ ?_))
          ((refine wia ?_))
          ((refine wsa ?_))
          ((repeat refine AW_seq ?_))
          refine AW_mid (fun x : Nat => ⟨[(2, .ptr 0 (t + 1) 0), (5, frs L), (10, hds r.hs), (17, .ptr 1 (tt + 1) 0), (18, .ptr 2 (tt + 1 + 1) 0), (123, bks s.bs), (124, int s.bs.length), (125, int k), (135, hds r.hs), (136, int r.hs.length), (137, int j), (19, int j), (20, .ptr 3 (t3 + 1) 0), (21, .sl 2 [int u.1, int u.2] true)], [some ⟨25, t + 1, [bks s.bs, rps s.rs]⟩, some ⟨45, tt + 1, bk1 b⟩, some ⟨33, tt + 1 + 1, [int c.1, int c.2]⟩, some ⟨43, t3 + 1, hd1 h⟩], x⟩) (fun _ => True) ?_ ?_
          · by_cases e : j + 1 = r.hs.length
            · rw [if_pos e] at em
              subst em
              have m2 : ((r.hs.length - 2 : Nat) : Int) < (j : Int) := by omega
              ((refine wqb (F := _∧_∧_∧_∧_) ⟨hsub, m2, hm, hLd, hru⟩ ?_))
              exact ⟨t3 + 1, trivial, by (simp (disch := omega) only [StLe, tmLe, hpLe_refl, hpLe, bl, bb, bt, zDs, zD, eqCells, simprocAttr])⟩
            · rw [if_neg e] at em
              subst em
              have m0 : ¬ ((r.hs.length - 1 : Nat) : Int) - 1 < (m : Int) := by omega
              ((refine wqb (F := _∧_∧_∧_) ⟨m0, hm, hLd, hru⟩ ?_))
              exact ⟨t3 + 1, trivial, by (simp (disch := omega) only [StLe, tmLe, hpLe_refl, hpLe, bl, bb, bt, zDs, zD, eqCells, simprocAttr])⟩
          rintro t4 -
          ((refine wqa ?_))
          ((repeat refine AW_seq ?_))
          refine AW_mid (fun x : Nat => ⟨[(2, .ptr 0 (t + 1) 0), (5, frs L), (10, hds r.hs), (17, .ptr 1 (tt + 1) 0), (18, .ptr 2 (tt + 1 + 1) 0), (123, bks s.bs), (124, int s.bs.length), (125, int k), (135, hds r.hs), (136, int r.hs.length), (137, int j), (19, int j), (20, .ptr 3 (t3 + 1) 0), (21, .sl 2 [int u.1, int u.2] true), (22, int h.p), (165, bool (decide (0 < j ∧ j < r.hs.length - 1)))], [some ⟨25, t + 1, [bks s.bs, rps s.rs]⟩, some ⟨45, tt + 1, bk1 b⟩, some ⟨33, tt + 1 + 1, [int c.1, int c.2]⟩, some ⟨43, t3 + 1, hd1 h⟩], x⟩) (fun _ => True) ?_ ?_
          · by_cases e0 : j = 0
            · have c0 : ¬ (0 : Int) < (j : Int) := by omega
              rw [decide_eq_false (by omega)]
              ((refine wqb c0 ?_))
              exact ⟨t4, trivial, by (simp (disch := omega) only [StLe, tmLe, hpLe_refl, hpLe, bl, bb, bt, zDs, zD, eqCells, simprocAttr])⟩
            · have c0 : (0 : Int) < (j : Int) := by omega
              by_cases e1 : j < r.hs.length - 1
              · have k1 : (j : Int) < ((r.hs.length - 1 : Nat) : Int) := by omega
                rw [decide_eq_true ⟨by omega, e1⟩]
                ((refine wqb (F := _∧_∧_) ⟨c0, k1, hLd⟩ ?_))
                exact ⟨t4, trivial, by (simp (disch := omega) only [StLe, tmLe, hpLe_refl, hpLe, bl, bb, bt, zDs, zD, eqCells, simprocAttr])⟩
              · have k1 : ¬ (j : Int) < ((r.hs.length - 1 : Nat) : Int) := by omega
                rw [decide_eq_false (by omega)]
                ((refine wqb (F := _∧_∧_) ⟨c0, k1, hLd⟩ ?_))
                exact ⟨t4, trivial, by (simp (disch := omega) only [StLe, tmLe, hpLe_refl, hpLe, bl, bb, bt, zDs, zD, eqCells, simprocAttr])⟩
          rintro t5 -
          have hC3 := hC2
          generalize hterm : (if j = 0 then h.p * P 0 else if j + 1 = r.hs.length then h.p * P (r.hs.length - 2) else h.p.tdiv 2 * (P (j - 1) + P j)) = term at hC3
          refine AW_mid (fun x : (List (Int × Int) × Bool × Int) × Nat => ⟨[(2, .ptr 0 (t + 1) 0), (5, frs L), (10, hds r.hs), (17, .ptr 1 (tt + 1) 0), (18, .ptr 2 (tt + 1 + 1) 0), (123, bks s.bs), (124, int s.bs.length), (125, int k), (135, hds r.hs), (136, int r.hs.length), (137, int j), (21, .sl 2 (frC x.1.1) x.1.2.1), (22, int x.1.2.2)], [some ⟨25, t + 1, [bks s.bs, rps s.rs]⟩, some ⟨45, tt + 1, bk1 b⟩, some ⟨33, tt + 1 + 1, [int c.1, int c.2]⟩], x.2⟩) (fun x => x.1.1.length ≤ 2 ∧ (-2 ≤ x.1.2.2 ∧ x.1.2.2 ≤ 2) ∧ ∃ xs : List Int, xs.length = x.1.1.length ∧ (∀ (q : Nat) (f : Int × Int), x.1.1[q]? = some f → Val f (tn.1 * xs.getD q 0) (tn.2 * Q)) ∧ x.1.2.2 * xs.sum = term) ?_ ?_
          · by_cases cc : 0 < j ∧ j < r.hs.length - 1
            · rw [decide_eq_true cc]
              obtain ⟨v, hv1, hv2⟩ := hU (j - 1) (by omega)
              have hrv := frC_read L (j - 1) v hv1
              have hsj : (j : Int) - 1 = ((j - 1 : Nat) : Int) := by omega
              have hl1 : j - 1 < r.hs.length - 1 := by omega
              have hhf := half_p hpp
              have hwr := wr64 (h.p.tdiv 2) (by omega)
              have hmj : m = j := by rw [em, if_neg (by omega)]
              have hfp : frC [u, v] = [int u.1, int u.2, int v.1, int v.2] := rfl
              ((refine wia ?_))
              ((refine wqb (F := _∧_∧_∧_) ⟨hsj, hl1, hLd, hrv⟩ ?_))
              ((refine AW.freeze (4) (by first | rfl | (simp only [setH, List.getElem?_cons_zero, List.getElem?_cons_succ, fz_bk, fz_rp, fz_hd, fz_frS, Nat.le_refl]; done)) ?_); simp (disch := omega) only [fzT, fz, fzL, fzL_ints, fzL_mat, fzH, fzB, eq_self, bb, bt, zDs, zD, eqCells, simprocAttr, fz_bk, fz_rp, fz_hd, fz_frS, Nat.le_refl])
              ((refine wqb hwr ?_))
              exact ⟨(([u, v], false, h.p.tdiv 2), t5 + 1), ⟨(by decide : 2 ≤ 2), hhf, [P m, P (j - 1)], rfl, fun q f hq => by
                match q, hq with
                | 0, hq => simp only [List.getElem?_cons_zero, Option.some.injEq] at hq; subst hq; exact vu
                | 1, hq => simp only [List.getElem?_cons_succ, List.getElem?_cons_zero, Option.some.injEq] at hq; subst hq; exact hv2
                | q + 2, hq => simp at hq, by
                rw [← hterm, if_neg (by omega), if_neg (by omega), hmj]
                simp only [List.sum_cons, List.sum_nil, Int.add_zero]
                rw [Int.add_comm]⟩, by (simp (disch := omega) only [StLe, tmLe, hpLe_refl, hpLe, bl, bb, bt, zDs, zD, eqCells, simprocAttr, hfp])⟩
            · have hfp : frC [u] = [int u.1, int u.2] := rfl
              rw [decide_eq_false cc]
              ((refine wia ?_))
              ((refine wsa ?_))
              exact ⟨(([u], true, h.p), t5), ⟨(by decide : 1 ≤ 2), hpp, [P m], rfl, fun q f hq => by
                match q, hq with
                | 0, hq => simp only [List.getElem?_cons_zero, Option.some.injEq] at hq; subst hq; exact vu
                | q + 1, hq => simp at hq, by
                rw [← hterm]
                simp only [List.sum_cons, List.sum_nil, Int.add_zero]
                by_cases e0 : j = 0
                · have : m = 0 := by rw [em, if_neg (by omega)]; exact e0
                  rw [if_pos e0, this]
                · rw [if_neg e0, if_pos (by omega)]
                  have : m = r.hs.length - 2 := by rw [em, if_pos (by omega)]
                  rw [this]⟩, by (simp (disch := omega) only [StLe, tmLe, hpLe_refl, hpLe, bl, bb, bt, zDs, zD, eqCells, simprocAttr, hfp])⟩
          rintro ⟨⟨ps, fl2, K⟩, t6⟩ ⟨hps, hK, xs, hxl, hxv, hxt⟩
          simp only at hps hK hxl hxv hxt
          have hpd := frC_div ps
          ((refine ggb0 hpd ?_))
          refine AW_block ?_
          refine AW_loop_w (fun x : (Int × Int) × Nat × Nat => ⟨[(2, .ptr 0 (t + 1) 0), (5, frs L), (10, hds r.hs), (17, .ptr 1 (tt + 1) 0), (18, .ptr 2 (tt + 1 + 1) 0), (123, bks s.bs), (124, int s.bs.length), (125, int k), (135, hds r.hs), (136, int r.hs.length), (137, int j), (22, int K), (177, .sl 2 (frC ps) fl2), (178, int ps.length), (179, int x.2.1)], [some ⟨25, t + 1, [bks s.bs, rps s.rs]⟩, some ⟨45, tt + 1, bk1 b⟩, some ⟨33, tt + 1 + 1, [int x.1.1, int x.1.2]⟩], x.2.2⟩) (fun x => ps.length - x.2.1) (fun x => x.2.1 ≤ ps.length ∧ Val x.1 (C + tn.1 * (K * (xs.take x.2.1).sum)) (tn.2 * Q)) (c, 0, t6) ⟨Nat.zero_le _, by simpa using hc⟩ (by (simp (disch := omega) only [StLe, tmLe, hpLe_refl, hpLe, bl, bb, bt, zDs, zD, eqCells, simprocAttr])) ?_
          rintro ⟨c', q, t7⟩ ⟨hq, hvc⟩
          simp only at hq hvc
          by_cases hlq : q < ps.length
          · obtain ⟨f, hfq⟩ : ∃ y, ps[q]? = some y := ⟨_, List.getElem?_eq_getElem hlq⟩
            obtain ⟨z, hzq⟩ : ∃ y, xs[q]? = some y := ⟨_, List.getElem?_eq_getElem (by omega)⟩
            have hrf := frC_read ps q f hfq
            have vf := hxv q f hfq
            rw [List.getD_eq_getElem?_getD, hzq, Option.getD_some] at vf
            have vK : Val (K, 1) K 1 := .one (by omega)
            have hst : (xs.take (q + 1)).sum = (xs.take q).sum + z := by
              rw [List.take_add_one, hzq, Option.toList_some, List.sum_append]
              simp
            have hM := rMul (K, 1) f
            have hMe : (mulP (K, 1) f).2 = 0 ∨ (mulP (K, 1) f).2 = 5 := by rw [mulP_ok vK.v vf.v]; exact mulR_err vK.v vf.v
            have hMv : (mulP (K, 1) f).2 = 0 → Val (mulP (K, 1) f).1 (K * (tn.1 * z)) (1 * (tn.2 * Q)) := fun h => vK.mulP vf h
            generalize mulP (K, 1) f = M at *
            ((refine ggb0 (F := _∧_) ⟨@Int.ofNat_lt, hlq⟩ ?_))
            ((repeat refine AW_seq ?_))
            refine AW_block ?_
            rcases hMe with m0 | m5
            rotate_left 1
            · have e1 : (M.2 != 0) = true := by rw [m5]; rfl
              have e2 : (M.2 == 5) = true := by rw [m5]; rfl
              ((refine ggb1 (F := _∧_∧_∧_∧_) ⟨hlq, hpd, hrf, e1, e2⟩ hM ?_))
              ((repeat refine AW_seq ?_); (refine wta ?_); simp (disch := omega) only [retQ, resD, oneD, rsv, rs, rsL, rsL_eq_map, List.map_map, bb, bt, zDs, zD, eqCells, simprocAttr, Tryz.results3])
            have e1 : (M.2 != 0) = false := by rw [m0]; rfl
            have vM := hMv m0
            have hA := rAdd c' M.1
            have hAe : (addP c' M.1).2 = 0 ∨ (addP c' M.1).2 = 5 := by rw [addP_ok hvc.v vM.v]; exact addR_err hvc.v vM.v
            have hAv : (addP c' M.1).2 = 0 → Val (addP c' M.1).1 (C + tn.1 * (K * (xs.take (q + 1)).sum)) (tn.2 * Q) := fun h => (hvc.addP vM h).to hM0 (by rw [hst]; grind)
            generalize addP c' M.1 = S at *
            rcases hAe with s0 | s5
            rotate_left 1
            · have e3 : (S.2 != 0) = true := by rw [s5]; rfl
              have e4 : (S.2 == 5) = true := by rw [s5]; rfl
              ((refine ggb2 (F := _∧_∧_∧_∧_∧_) ⟨hlq, hpd, hrf, e1, e3, e4⟩ hM hA ?_))
              ((repeat refine AW_seq ?_); (refine wta ?_); simp (disch := omega) only [retQ, resD, oneD, rsv, rs, rsL, rsL_eq_map, List.map_map, bb, bt, zDs, zD, eqCells, simprocAttr, Tryz.results3])
            have e3 : (S.2 != 0) = false := by rw [s0]; rfl
            ((refine ggb2 (F := _∧_∧_∧_∧_) ⟨hlq, hpd, hrf, e1, e3⟩ hM hA ?_))
            refine ⟨(S.1, q + 1, t7 + 1 + 1 + 1), ⟨hlq, hAv s0⟩, by show ps.length - (q + 1) < ps.length - q; omega, ?_⟩
            (simp (disch := omega) only [StLe, tmLe, hpLe_refl, hpLe, bl, bb, bt, zDs, zD, eqCells, simprocAttr])
          · have hqe : q = ps.length := by omega
            subst hqe
            rw [← hxl, List.take_length, hxt] at hvc
            ((refine wqb @Int.lt_irrefl ?_))
            ((refine wia ?_))
            ((refine wxa ?_))
            ((refine gga0 ?_))
            refine ⟨(c', j + 1, t7), ⟨hlj, _, hvc, (show C + tn.1 * term + tn.1 * gripW P r.hs.length b.nm (r.hs.drop (j + 1)) (j + 1) = tn.1 * G by rw [hW, ← hC3]; grind)⟩, by show r.hs.length - (j + 1) < r.hs.length - j; omega, ?_⟩
            (simp (disch := omega) only [StLe, tmLe, hpLe_refl, hpLe, bl, bb, bt, zDs, zD, eqCells, simprocAttr])
        · have hje : j = r.hs.length := by omega
          subst hje
          rw [List.drop_eq_nil_of_le (Nat.le_refl _)] at hC2
          simp only [gripW, Int.mul_zero, Int.add_zero] at hC2
          rw [hC2] at hc
          rw [hfin c hc]
          ((refine wqb @Int.lt_irrefl ?_))
          ((refine wia ?_))
          ((refine wxa ?_))
          exact ⟨t3, trivial, by (simp (disch := omega) only [StLe, tmLe, hpLe_refl, hpLe, bl, bb, bt, zDs, zD, eqCells, simprocAttr])⟩
      rintro t3 -
      ((refine gga0 ?_))
      refine ⟨(k + 1, t3), hlt, by show s.bs.length - (k + 1) < s.bs.length - k; omega, ?_⟩
      (simp (disch := omega) only [StLe, tmLe, hpLe_refl, hpLe, bl, bb, bt, zDs, zD, eqCells, simprocAttr])
    · have hke : k = s.bs.length := by omega
      subst hke
      ((refine wqb @Int.lt_irrefl ?_))
      ((refine wia ?_))
      ((refine wxa ?_))
      exact ⟨tt, trivial, by (simp (disch := omega) only [StLe, tmLe, hpLe_refl, hpLe, bl, bb, bt, zDs, zD, eqCells, simprocAttr])⟩
  rintro t3 -
  ((refine gga0 ?_))
  ((repeat refine AW_seq ?_); (refine wta ?_); simp (disch := omega) only [retQ, resD, oneD, rsv, rs, rsL, rsL_eq_map, List.map_map, bb, bt, zDs, zD, eqCells, simprocAttr, Tryz.results3])
end Go.Proofs.YtpcakodemleoiaaGreat.T
