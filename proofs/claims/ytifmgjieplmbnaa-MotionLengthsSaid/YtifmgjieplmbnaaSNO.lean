import Derived.Test.YtifmgjieplmbnaaSFJ
import Derived.Test.YtifmgjieplmbnaaSHJ
import Derived.Test.YtifmgjieplmbnaaWPJ
import Derived.Test.YtifmgjieplmbnaaSKM
set_option linter.all false
section
namespace Go.Proofs.Ytifmgjieplmbnaa.T
open Go Go.RowKit Lin
theorem gdoa2_SNO {C1 C2 P Q : Prop} (c1 : C1) (c2 : C2) (q : Q) (h : C1 → C2 → Q → P := by
  intro cc1 cc2 hq
  (try with_reducible intro KR hKR)
  (repeat refine AW_seq ?_); (repeat refine AW_seq ?_); (refine AW_drawn_k tab_ok follows_mixed 1 fun KR hKR => ?_); simp only [List.replicate_succ, List.replicate_zero, List.append_nil, List.nil_append, List.cons_append, List.length_cons, List.length_nil, Nat.reduceAdd]; (repeat' ((first | refine awD_n rfl fun KK hKK => ?_ | refine awD_g rfl rfl fun KK hKK => ?_ | refine awD_gc rfl fun KK hKK => ?_ | refine awD_nc fun KK hKK => ?_); simp (disch := omega) only [bb, bt, zDs, zD, eqCells, simprocAttr, bne_self_eq_false, Int.reduceBNe, Int.reduceBEq, Bool.bne_false, Bool.bne_true, Bool.false_bne, Bool.true_bne, goCDS, callDS_fn, argsZ, argsD, ufa, uf]; (try ((first | with_reducible refine PGive.ret (cc1) ?_ | with_reducible refine PGive.ret (cc2) ?_); simp (disch := omega) only [bb, bt, zDs, zD, eqCells, simprocAttr, afterDS, bne_self_eq_false, Int.reduceBNe, Int.reduceBEq, Bool.bne_false, Bool.bne_true, Bool.false_bne, Bool.true_bne])); refine hKK _ _ _ ?_; clear hKK KK)); (refine awD_nil ?_); simp only [List.reverse_cons, List.reverse_nil, List.nil_append, List.cons_append]; (refine hKR _ _ (by first | rfl | kernel_rfl) ?_); (try clear hKR KR); (repeat (with_reducible first | refine q1 ?_ | refine q2 ?_ | refine q3 ?_ | refine q4 ?_ | refine q5 ?_ | refine q6 ?_ | (refine q7 ?_ ?_; (focus (with_unfolding_all rfl)))))
  (first | exact hq | (revert hKR; revert KR; exact hq))) : P := h c1 c2 q
set_option linter.unusedSimpArgs false

/-! Differences, sums of products. -/
theorem AW_scope {P : Program} {n : Nat} {c : Code} {Q : Exit → St → Prop} {st : St} (hq : ∀ l s, ¬ Q (.goto l) s) (h : AW P n c Q st) : AW P n (.scope c) Q st := fun w0 F G a w hs => by
  refine wp_scope_straight (wp_mono (h w0 F G a w hs) fun e a' w' l => ?_)
  cases e with
  | goto l' => obtain ⟨_, _, s, _, _, h3⟩ := l; exact absurd h3 (hq _ _)
  | _ => exact l
theorem AW_label {P : Program} {n l : Nat} {Q : Exit → St → Prop} {st : St} (h : Q .normal st) : AW P n (.label l) Q st := fun _w0 F G _ _ hs => wp_label ⟨F, G, st, .refl _ _ _, hs, h⟩
theorem vfrac_neg {a b : Int} (h : vfrac a b = true) : vfrac (-a) b = true := by
  unfold vfrac at h ⊢
  simp only [Bool.and_eq_true, decide_eq_true_eq, Int.natAbs_neg] at h ⊢
  omega
def subP (a b : Int × Int) : (Int × Int) × Int := if vfrac a.1 a.2 = true ∧ vfrac b.1 b.2 = true then addR a (-b.1, b.2) else ((0, 0), 1)
theorem rSub (a b : Int × Int) : PRet Try.prog 35 [frD a, frD b] (fe (subP a b)) := by
  refine PRet.intro 1 fun t => ACall.enter tab_ok Try.func35 rfl rfl Try.ntmps35 (by simp) ?_
  simp only [enterTM]
  have h1 := rValid a.1 a.2
  have h2 := rValid b.1 b.2
  cases ha : vfrac a.1 a.2
  · rw [ha] at h1
    have e : subP a b = ((0, 0), 1) := by unfold subP; rw [if_neg (by simp [ha])]
    ((refine gga1 h1 ?_))
    ((repeat refine AW_seq ?_); (refine wta ?_); simp (disch := omega) only [retQ, resD, oneD, rsv, rs, rsL, rsL_eq_map, List.map_map, bb, bt, zDs, zD, eqCells, simprocAttr, Try.results35, e])
  rw [ha] at h1
  cases hb : vfrac b.1 b.2
  · rw [hb] at h2
    have e : subP a b = ((0, 0), 1) := by unfold subP; rw [if_neg (by simp [hb])]
    ((refine gga2 h1 h2 ?_))
    ((repeat refine AW_seq ?_); (refine wta ?_); simp (disch := omega) only [retQ, resD, oneD, rsv, rs, rsL, rsL_eq_map, List.map_map, bb, bt, zDs, zD, eqCells, simprocAttr, Try.results35, e])
  rw [hb] at h2
  have e : subP a b = addP a (-b.1, b.2) := by unfold subP; rw [if_pos ⟨ha, hb⟩, addP_ok ha (vfrac_neg hb)]
  have hB := fr_bounds hb
  have hA := rAdd a (-b.1, b.2)
  rw [← e] at hA
  ((refine gga3 h1 h2 hA ?_))
  ((repeat refine AW_seq ?_); (refine wta ?_); simp (disch := omega) only [retQ, resD, oneD, rsv, rs, rsL, rsL_eq_map, List.map_map, bb, bt, zDs, zD, eqCells, simprocAttr, Try.results35])
theorem refNeg (b : Int × Int) (hb : vfrac b.1 b.2 = true) : PRet Try.prog 158 [frD b] (frD (-b.1, b.2)) := by
  refine PRet.intro 1 fun t => ACall.enter tab_ok Try.func158 rfl rfl Try.ntmps158 (by simp) ?_
  simp only [enterTM]
  have hB := fr_bounds hb
  ((refine gga0 ?_))
  ((repeat refine AW_seq ?_); (refine wta ?_); simp (disch := omega) only [retQ, resD, oneD, rsv, rs, rsL, rsL_eq_map, List.map_map, bb, bt, zDs, zD, eqCells, simprocAttr, Try.results158])
theorem refSub (a b : Int × Int) (ha : vfrac a.1 a.2 = true) (hb : vfrac b.1 b.2 = true) : PRet Try.prog 108 [frD a, frD b] (fe (subP a b)) := by
  refine PRet.intro 1 fun t => ACall.enter tab_ok Try.func108 rfl rfl Try.ntmps108 (by simp) ?_
  simp only [enterTM]
  have hN := refNeg b hb
  have hA := refAdd a (-b.1, b.2) ha (vfrac_neg hb)
  have e : subP a b = addR a (-b.1, b.2) := by unfold subP; rw [if_pos ⟨ha, hb⟩]
  rw [← e] at hA
  ((refine gga0 ?_))
  ((repeat refine AW_seq ?_); (refine gdza2 hN hA ?_))
  ((repeat refine AW_seq ?_); (refine wta ?_); simp (disch := omega) only [retQ, resD, oneD, rsv, rs, rsL, rsL_eq_map, List.map_map, bb, bt, zDs, zD, eqCells, simprocAttr, Try.results108])
theorem subP_valid {a b : Int × Int} (ha : vfrac a.1 a.2 = true) (hb : vfrac b.1 b.2 = true) (h : (subP a b).2 = 0) : vfrac (subP a b).1.1 (subP a b).1.2 = true := by
  unfold subP at h ⊢
  rw [if_pos ⟨ha, hb⟩] at h ⊢
  exact addR_valid ha (vfrac_neg hb) h
theorem of11 (n : Int) : PRet Try.prog 102 [int n] (frD (n, 1)) := by
  refine PRet.intro 1 fun t => ACall.enter tab_ok Try.func102 rfl rfl Try.ntmps102 (by simp) ?_
  simp only [enterTM]
  ((refine gga0 ?_))
  ((repeat refine AW_seq ?_); (refine wta ?_); simp (disch := omega) only [retQ, resD, oneD, rsv, rs, rsL, rsL_eq_map, List.map_map, bb, bt, zDs, zD, eqCells, simprocAttr, Try.results102])
def plusP (s : Int × Int) (n : Int) (f : Int × Int) : (Int × Int) × Int := if (mulP (n, 1) f).2 = 0 then addP s (mulP (n, 1) f).1 else ((0, 0), (mulP (n, 1) f).2)
theorem plus11 (s : Int × Int) (n : Int) (f : Int × Int) : PRet Try.prog 103 [frD s, int n, frD f] (fe (plusP s n f)) := by
  refine PRet.intro 1 fun t => ACall.enter tab_ok Try.func103 rfl rfl Try.ntmps103 (by simp) ?_
  simp only [enterTM]
  have hO := of11 n
  have hM := rMul (n, 1) f
  have e : plusP s n f = if (mulP (n, 1) f).2 = 0 then addP s (mulP (n, 1) f).1 else ((0, 0), (mulP (n, 1) f).2) := rfl
  generalize mulP (n, 1) f = y at *
  have hA := rAdd s y.1
  ((refine gga0 ?_))
  ((repeat refine AW_seq ?_); (refine gdoa2_SNO hO hM ?_))
  cases hy : (y.2 == 0)
  · have hy' : (y.2 != 0) = true := by simpa using hy
    rw [if_neg (by simpa using hy)] at e
    ((refine ggb0 hy' ?_))
    ((repeat refine AW_seq ?_); (refine wta ?_); simp (disch := omega) only [retQ, resD, oneD, rsv, rs, rsL, rsL_eq_map, List.map_map, bb, bt, zDs, zD, eqCells, simprocAttr, Try.results103, e])
  · have hy' : (y.2 != 0) = false := by simpa using hy
    rw [if_pos (by simpa using hy)] at e
    rw [← e] at hA
    ((refine ggb1 hy' hA ?_))
    ((repeat refine AW_seq ?_); (refine wta ?_); simp (disch := omega) only [retQ, resD, oneD, rsv, rs, rsL, rsL_eq_map, List.map_map, bb, bt, zDs, zD, eqCells, simprocAttr, Try.results103])
theorem dotF_plus {r : List Int} {x : List (Int × Int)} {k : Nat} {n : Int} {f : Int × Int} (hr : r[k]? = some n) (hx : x[k]? = some f) (s : Int × Int) : dotF (r.drop k) (x.drop k) s = if (plusP s n f).2 = 0 then dotF (r.drop (k + 1)) (x.drop (k + 1)) (plusP s n f).1 else ((0, 0), (plusP s n f).2) := by
  rw [dotF_step hr hx]
  unfold plusP
  split
  · rfl
  · rfl
theorem plusP_valid {s f : Int × Int} {n : Int} (hs : vfrac s.1 s.2 = true) (hf : vfrac f.1 f.2 = true) (hn : -1000 ≤ n ∧ n ≤ 1000) (h : (plusP s n f).2 = 0) : vfrac (plusP s n f).1.1 (plusP s n f).1.2 = true := by
  have h1 : vfrac n 1 = true := vfrac_one (by omega)
  unfold plusP at h ⊢
  split at h
  · rename_i h2
    rw [if_pos h2]
    rw [mulP_ok h1 hf] at *
    have hv := mulR_valid (a := (n, 1)) h1 hf h2
    rw [addP_ok hs hv] at *
    exact addR_valid hs hv h
  · rename_i h2; exact absurd h h2
theorem allV_at {l : List (Int × Int)} {k : Nat} {f : Int × Int} (h : allV l = true) (hk : l[k]? = some f) : vfrac f.1 f.2 = true := by
  unfold allV at h
  rw [List.all_eq_true] at h
  exact h f (List.mem_of_getElem? hk)
theorem allV_any (l : List (Int × Int)) : (l.any fun x => !vfrac x.1 x.2) = !allV l := by
  unfold allV
  induction l with
  | nil => rfl
  | cons x l ih => simp only [List.any_cons, List.all_cons, ih, Bool.not_and]
set_option maxHeartbeats 1000000 in
theorem sum_ref (a : List Int) (l : List (Int × Int)) (hl : l.length ≤ 1000) (hal : l.length ≤ a.length) (hla : a.length ≤ 1000) (ha : ∀ x ∈ a, -1000 ≤ x ∧ x ≤ 1000) (hv : allV l = true) : PRet Try.prog 107 [ints a, frs l] (fe (dotF a l (0, 1))) := by
  refine PRet.intro 1 fun t => ACall.enter tab_ok Try.func107 rfl rfl Try.ntmps107 (by simp) ?_
  simp only [enterTM]
  have hfl := frC_len l
  have hf2 : (frC l).length / 2 = l.length := by omega
  have hO := refOf 0
  ((refine gga1 hO ?_))
  ((repeat refine AW_seq ?_))
  refine AW_block ?_
  refine AW_loop_w (fun x : (Int × Int) × Nat × Nat => ⟨[(0, ints a), (1, frs l), (4, .ptr 0 (t + 1) 0), (6, .ptr 1 (t + 1 + 1) 0), (7, int x.2.1)], [some ⟨42, t + 1, [int 0, int 0]⟩, some ⟨42, t + 1 + 1, [int x.1.1, int x.1.2]⟩], x.2.2⟩) (fun x => l.length - x.2.1) (fun x => x.2.1 ≤ l.length ∧ vfrac x.1.1 x.1.2 = true ∧ dotF a l (0, 1) = dotF (a.drop x.2.1) (l.drop x.2.1) x.1) ((0, 1), 0, t + 1 + 1) ⟨Nat.zero_le _, (show vfrac 0 1 = true by decide), rfl⟩ (by (simp (disch := omega) only [StLe, tmLe, hpLe_refl, hpLe, bl, bb, bt, zDs, zD, eqCells, simprocAttr])) ?_
  rintro ⟨s, k, tt⟩ ⟨hk, hs, hd⟩
  simp only at hk hs hd
  by_cases hlt : k < l.length
  · obtain ⟨f, hf⟩ : ∃ y, l[k]? = some y := ⟨_, List.getElem?_eq_getElem hlt⟩
    obtain ⟨n, hn⟩ : ∃ y, a[k]? = some y := ⟨_, List.getElem?_eq_getElem (by omega)⟩
    have hka : k < a.length := by omega
    have hvf := allV_at hv hf
    have hnb := ha n (List.mem_of_getElem? hn)
    have h1 : vfrac n 1 = true := vfrac_one (by omega)
    have hra := frC_read l k f hf
    have hO2 := refOf n
    have hT := refTimes (n, 1) f h1 hvf
    rw [dotF_plus hn hf] at hd
    have hpv := plusP_valid hs hvf hnb
    unfold plusP at hd hpv
    rw [mulP_ok (a := (n, 1)) h1 hvf] at hd hpv
    have hmv := mulR_valid (a := (n, 1)) h1 hvf
    generalize mulR (n, 1) f = y at *
    ((refine ggb0 (F := _∧_∧_) ⟨@Int.ofNat_lt, hlt, hf2⟩ ?_))
    ((repeat refine AW_seq ?_))
    refine AW_block ?_
    ((repeat refine AW_seq ?_); (refine gdob2 (F := _∧_∧_∧_∧_) ⟨hka, hlt, hf2, hn, hra⟩ hO2 hT ?_))
    cases hy : (y.2 == 0)
    · have hy' : (y.2 != 0) = true := by simpa using hy
      have hy0 : ¬ y.2 = 0 := by simpa using hy
      rw [if_neg hy0, if_neg hy0] at hd
      ((refine ggb0 hy' ?_))
      ((repeat refine AW_seq ?_); (refine wta ?_); simp (disch := omega) only [retQ, resD, oneD, rsv, rs, rsL, rsL_eq_map, List.map_map, bb, bt, zDs, zD, eqCells, simprocAttr, Try.results107, hd])
    have hy' : (y.2 != 0) = false := by simpa using hy
    have hy0 : y.2 = 0 := by simpa using hy
    rw [if_pos hy0] at hd hpv
    have hv2 := hmv hy0
    have hA := refAdd s y.1 hs hv2
    rw [addP_ok hs hv2] at hd hpv
    generalize addR s y.1 = z at *
    cases hz : (z.2 == 0)
    · have hz' : (z.2 != 0) = true := by simpa using hz
      rw [if_neg (by simpa using hz)] at hd
      ((refine ggb1 (F := _∧_) ⟨hy', hz'⟩ hA ?_))
      ((repeat refine AW_seq ?_); (refine wta ?_); simp (disch := omega) only [retQ, resD, oneD, rsv, rs, rsL, rsL_eq_map, List.map_map, bb, bt, zDs, zD, eqCells, simprocAttr, Try.results107, hd])
    have hz' : (z.2 != 0) = false := by simpa using hz
    have hz0 : z.2 = 0 := by simpa using hz
    rw [if_pos hz0] at hd
    ((refine ggb1 (F := _∧_) ⟨hy', hz'⟩ hA ?_))
    refine ⟨(z.1, k + 1, tt + 1), ⟨hlt, hpv hz0, hd⟩, by show l.length - (k + 1) < l.length - k; omega, ?_⟩
    (simp (disch := omega) only [StLe, tmLe, hpLe_refl, hpLe, bl, bb, bt, zDs, zD, eqCells, simprocAttr])
  · have hke : k = l.length := by omega
    subst hke
    have hde : dotF (a.drop l.length) (l.drop l.length) s = (s, 0) := by
      have hdn : l.drop l.length = [] := by simp
      rw [hdn]
      cases a.drop l.length <;> rfl
    rw [hde] at hd
    ((refine ggb0 (F := _∧_) ⟨@Int.lt_irrefl, hf2⟩ ?_))
    ((repeat refine AW_seq ?_); (refine wta ?_); simp (disch := omega) only [retQ, resD, oneD, rsv, rs, rsL, rsL_eq_map, List.map_map, bb, bt, zDs, zD, eqCells, simprocAttr, Try.results107, hd])

/-! What is given. -/
def givE (s : Sy) (l : List (Int × Int)) : Int := if validS s = true ∧ allV l = true then (if l.length = s.rs.length then 0 else 3) else 1
theorem given1 (x : Int × Int) : PRet Try.prog 157 [frD x] (bool (!vfrac x.1 x.2)) := by
  refine PRet.intro 1 fun t => ACall.enter tab_ok Try.func157 rfl rfl Try.ntmps157 (by simp) ?_
  simp only [enterTM]
  have hc := rValid x.1 x.2
  ((refine gga1 hc ?_))
  ((repeat refine AW_seq ?_); (refine wta ?_); simp (disch := omega) only [retQ, resD, oneD, rsv, rs, rsL, rsL_eq_map, List.map_map, bb, bt, zDs, zD, eqCells, simprocAttr, Try.results157])
theorem given11 (s : Sy) (hf : Fits s) (l : List (Int × Int)) (hl : l.length ≤ 1000000) : PRet Try.prog 101 [syD s, frs l] (.tup (if givE s l = 0 then [mat (matS s), int 0] else [ints [], int (givE s l)])) := by
  refine PRet.intro 1 fun t => ACall.enter tab_ok Try.func101 rfl rfl Try.ntmps101 (by simp) ?_
  simp only [enterTM]
  have hfl := frC_len l
  have hf2 : (frC l).length / 2 = l.length := by omega
  have hdr := rpC_div s.rs
  have hM := matrix_prog s hf
  have hC := containsFuncFr l 157 [] (fun x => !vfrac x.1 x.2) hl (fun x _ => given1 x)
  rw [allV_any] at hC
  cases hv : validS s
  · rw [hv] at hM
    simp only [Bool.false_eq_true, if_false] at hM
    have e : givE s l = 1 := by simp [givE, hv]
    ((refine gga1 hM ?_))
    ((repeat refine AW_seq ?_); (refine wta ?_); simp (disch := omega) only [retQ, resD, oneD, rsv, rs, rsL, rsL_eq_map, List.map_map, bb, bt, zDs, zD, eqCells, simprocAttr, Try.results101, e])
    rfl
  rw [hv] at hM
  simp only [if_true] at hM
  cases ha : allV l
  · rw [ha] at hC
    have e : givE s l = 1 := by simp [givE, ha]
    ((refine gga2 hM hC ?_))
    ((repeat refine AW_seq ?_); (refine wta ?_); simp (disch := omega) only [retQ, resD, oneD, rsv, rs, rsL, rsL_eq_map, List.map_map, bb, bt, zDs, zD, eqCells, simprocAttr, Try.results101, e])
    rfl
  rw [ha] at hC
  by_cases hz : l.length = s.rs.length
  · have e : givE s l = 0 := by simp [givE, hv, ha, hz]
    have en : ((l.length : Int) != (s.rs.length : Int)) = false := by simp [hz]
    rw [if_pos e]
    ((refine ggb2 (F := _∧_∧_) ⟨hf2, hdr, en⟩ hM hC ?_))
    ((repeat refine AW_seq ?_); (refine wta ?_); simp (disch := omega) only [retQ, resD, oneD, bb, bt, zDs, zD, eqCells, simprocAttr, Try.results101])
    refine rsv_tidy _ _ ?_
    have := tidy_mat (matS s)
    simp only [tidyD, tidyL, Bool.not_false, Bool.and_true, Bool.true_and] at this ⊢
    exact this
  · have e : givE s l = 3 := by simp [givE, hv, ha, hz]
    have en : ((l.length : Int) != (s.rs.length : Int)) = true := by simpa using fun h => hz (by omega)
    ((refine ggb2 (F := _∧_∧_) ⟨hf2, hdr, en⟩ hM hC ?_))
    ((repeat refine AW_seq ?_); (refine wta ?_); simp (disch := omega) only [retQ, resD, oneD, rsv, rs, rsL, rsL_eq_map, List.map_map, bb, bt, zDs, zD, eqCells, simprocAttr, Try.results101, e])
    rfl
theorem given_ref (s : Sy) (hf : Fits s) (l : List (Int × Int)) (hl : l.length ≤ 1000000) : PRet Try.prog 105 [syD s, frs l] (int (givE s l)) := by
  refine PRet.intro 1 fun t => ACall.enter tab_ok Try.func105 rfl rfl Try.ntmps105 (by simp) ?_
  simp only [enterTM]
  have hfl := frC_len l
  have hf2 : (frC l).length / 2 = l.length := by omega
  have hdr := rpC_div s.rs
  have hV := valid_ref s hf
  have hA := refAll l hl
  cases hv : validS s
  · rw [hv] at hV
    have e : givE s l = 1 := by simp [givE, hv]
    ((refine gga1 hV ?_))
    ((repeat refine AW_seq ?_); (refine wta ?_); simp (disch := omega) only [retQ, resD, oneD, rsv, rs, rsL, rsL_eq_map, List.map_map, bb, bt, zDs, zD, eqCells, simprocAttr, Try.results105, e])
  rw [hv] at hV
  cases ha : allV l
  · rw [ha] at hA
    have e : givE s l = 1 := by simp [givE, ha]
    ((refine gga2 hV hA ?_))
    ((repeat refine AW_seq ?_); (refine wta ?_); simp (disch := omega) only [retQ, resD, oneD, rsv, rs, rsL, rsL_eq_map, List.map_map, bb, bt, zDs, zD, eqCells, simprocAttr, Try.results105, e])
  rw [ha] at hA
  by_cases hz : l.length = s.rs.length
  · have e : givE s l = 0 := by simp [givE, hv, ha, hz]
    have en : ((l.length : Int) != (s.rs.length : Int)) = false := by simp [hz]
    ((refine ggb2 (F := _∧_∧_) ⟨hf2, hdr, en⟩ hV hA ?_))
    ((repeat refine AW_seq ?_); (refine wta ?_); simp (disch := omega) only [retQ, resD, oneD, rsv, rs, rsL, rsL_eq_map, List.map_map, bb, bt, zDs, zD, eqCells, simprocAttr, Try.results105, e])
  · have e : givE s l = 3 := by simp [givE, hv, ha, hz]
    have en : ((l.length : Int) != (s.rs.length : Int)) = true := by simpa using fun h => hz (by omega)
    ((refine ggb2 (F := _∧_∧_) ⟨hf2, hdr, en⟩ hV hA ?_))
    ((repeat refine AW_seq ?_); (refine wta ?_); simp (disch := omega) only [retQ, resD, oneD, rsv, rs, rsL, rsL_eq_map, List.map_map, bb, bt, zDs, zD, eqCells, simprocAttr, Try.results105, e])
end Go.Proofs.Ytifmgjieplmbnaa.T
end

section
namespace Go.Proofs.Ytifmgjieplmbnaa.T
open Go Go.RowKit Lin
set_option linter.unusedSimpArgs false

/-! The total of tensions. -/
def pulN (m : List (List Int)) (k i : Nat) : Int := ((m.take i).map fun r => r.getD k 0).sum
def colS (m : List (List Int)) (w : Nat) : List Int := (List.range w).map fun k => pulN m k m.length
theorem pulN_zero (m : List (List Int)) (k : Nat) : pulN m k 0 = 0 := by simp [pulN]
theorem pulN_step {m : List (List Int)} {k i : Nat} {r : List Int} {n : Int} (hr : m[i]? = some r) (hn : r[k]? = some n) : pulN m k (i + 1) = pulN m k i + n := by
  unfold pulN
  rw [List.take_add_one, hr]
  simp [List.getD, hn]
theorem pulN_le {m : List (List Int)} {k : Nat} (h : ∀ r ∈ m, ∀ x ∈ r, -32 ≤ x ∧ x ≤ 32) (hk : ∀ r ∈ m, k < r.length) : ∀ i, i ≤ m.length → -32 * (i : Int) ≤ pulN m k i ∧ pulN m k i ≤ 32 * (i : Int)
  | 0, _ => by rw [pulN_zero]; omega
  | i + 1, hi => by
    obtain ⟨r, hr⟩ : ∃ r, m[i]? = some r := ⟨_, List.getElem?_eq_getElem (by omega)⟩
    have hm := List.mem_of_getElem? hr
    obtain ⟨n, hn⟩ : ∃ n, r[k]? = some n := ⟨_, List.getElem?_eq_getElem (hk r hm)⟩
    have hb := h r hm n (List.mem_of_getElem? hn)
    have ih := pulN_le h hk i (by omega)
    rw [pulN_step hr hn]
    omega
theorem colS_at {m : List (List Int)} {w k : Nat} (h : k < w) : (colS m w)[k]? = some (pulN m k m.length) := by
  unfold colS
  rw [List.getElem?_map, List.getElem?_range h]
  rfl
theorem givE_zero {s : Sy} {l : List (Int × Int)} (h : givE s l = 0) : validS s = true ∧ allV l = true ∧ l.length = s.rs.length := by
  unfold givE at h
  split at h
  · rename_i h1
    split at h
    · rename_i h2; exact ⟨h1.1, h1.2, h2⟩
    · cases h
  · cases h
def totP (s : Sy) (l : List (Int × Int)) : (Int × Int) × Int := if givE s l = 0 then dotF (colS (matS s) s.rs.length) l (0, 1) else ((0, 0), givE s l)
set_option maxHeartbeats 2000000 in
theorem total_prog (s : Sy) (hf : Fits s) (l : List (Int × Int)) (hl : l.length ≤ 1000000) : PRet Try.prog 60 [syD s, frs l] (fe (totP s l)) := by
  refine PRet.intro 1 fun t => ACall.enter tab_ok Try.func60 rfl rfl Try.ntmps60 (by simp) ?_
  simp only [enterTM]
  have hfl := frC_len l
  have hf2 : (frC l).length / 2 = l.length := by omega
  have hG := given11 s hf l hl
  by_cases hg : givE s l = 0
  rotate_left 1
  · have e : totP s l = ((0, 0), givE s l) := by simp [totP, hg]
    rw [if_neg hg] at hG
    have hg' : (givE s l != 0) = true := by simpa using hg
    ((refine ggb1 hg' hG ?_))
    ((repeat refine AW_seq ?_); (refine wta ?_); simp (disch := omega) only [retQ, resD, oneD, rsv, rs, rsL, rsL_eq_map, List.map_map, bb, bt, zDs, zD, eqCells, simprocAttr, Try.results60, e])
  rw [if_pos hg] at hG
  have e : totP s l = dotF (colS (matS s) s.rs.length) l (0, 1) := by simp [totP, hg]
  obtain ⟨hv, ha, hz⟩ := givE_zero hg
  have ok := validS_ok hv
  obtain ⟨m1, m2, m3⟩ := validP_iff.1 ok.mat_valid
  have mw := ok.mat_wid
  have ml := ok.mat_len
  rw [← hz] at e
  have hll : l.length = wid (matS s) := by omega
  rw [e]
  clear e hg ok hf hv hz mw ml
  generalize matS s = m at *
  have hO := of11 0
  ((refine gga2 hG hO ?_))
  ((repeat refine AW_seq ?_))
  refine AW_block ?_
  refine AW_loop_w (fun x : (Int × Int) × Nat × Nat => ⟨[(4, .ptr 1 (t + 1 + 1) 0), (6, mat m), (8, .ptr 2 (t + 1 + 1 + 1) 0), (24, frs l), (25, int l.length), (26, int x.2.1)], [none, some ⟨42, t + 1 + 1, [int 0, int 0]⟩, some ⟨42, t + 1 + 1 + 1, [int x.1.1, int x.1.2]⟩], x.2.2⟩) (fun x => l.length - x.2.1) (fun x => x.2.1 ≤ l.length ∧ vfrac x.1.1 x.1.2 = true ∧ dotF (colS m l.length) l (0, 1) = dotF ((colS m l.length).drop x.2.1) (l.drop x.2.1) x.1) ((0, 1), 0, t + 1 + 1 + 1) ⟨Nat.zero_le _, (show vfrac 0 1 = true by decide), rfl⟩ (by (simp (disch := omega) only [StLe, tmLe, hpLe_refl, hpLe, bl, bb, bt, zDs, zD, eqCells, simprocAttr, hf2])) ?_
  rintro ⟨c, k, tt⟩ ⟨hk, hs, hd⟩
  simp only at hk hs hd
  by_cases hlt : k < l.length
  · obtain ⟨f, hfk⟩ : ∃ y, l[k]? = some y := ⟨_, List.getElem?_eq_getElem hlt⟩
    have hvf := allV_at ha hfk
    have hra := frC_read l k f hfk
    have hkr : ∀ r ∈ m, k < r.length := fun r hr => by rw [(m3 r hr).1]; omega
    have hpb := pulN_le (k := k) (fun r hr => (m3 r hr).2) hkr
    have hpe := hpb m.length (Nat.le_refl _)
    rw [dotF_plus (colS_at hlt) hfk] at hd
    have hpv := plusP_valid hs hvf (n := pulN m k m.length) (by omega)
    have hP := plus11 c (pulN m k m.length) f
    generalize plusP c (pulN m k m.length) f = z at *
    ((refine ggb0 (F := _∧_) ⟨@Int.ofNat_lt, hlt⟩ ?_))
    ((repeat refine AW_seq ?_))
    refine AW_block ?_
    ((refine ggb0 (F := _∧_∧_) ⟨hlt, hf2, hra⟩ ?_))
    ((repeat refine AW_seq ?_))
    refine AW_block ?_
    refine AW_loop_w (fun x : Nat × Nat => ⟨[(4, .ptr 1 (t + 1 + 1) 0), (6, mat m), (8, .ptr 2 (t + 1 + 1 + 1) 0), (9, int k), (10, .ptr 3 (tt + 1) 0), (11, int (pulN m k x.1)), (24, frs l), (25, int l.length), (26, int k), (31, mat m), (32, int m.length), (33, int x.1)], [none, some ⟨42, t + 1 + 1, [int 0, int 0]⟩, some ⟨42, t + 1 + 1 + 1, [int c.1, int c.2]⟩, some ⟨42, tt + 1, [int f.1, int f.2]⟩], x.2⟩) (fun x => m.length - x.1) (fun x => x.1 ≤ m.length) (0, tt + 1) (Nat.zero_le _) (by (simp (disch := omega) only [StLe, tmLe, hpLe_refl, hpLe, bl, bb, bt, zDs, zD, eqCells, simprocAttr, pulN_zero])) ?_
    rintro ⟨i, t2⟩ hi
    simp only at hi
    by_cases hli : i < m.length
    · obtain ⟨r, hr⟩ : ∃ y, m[i]? = some y := ⟨_, List.getElem?_eq_getElem hli⟩
      have hrk := hkr r (List.mem_of_getElem? hr)
      obtain ⟨n, hn⟩ : ∃ y, r[k]? = some y := ⟨_, List.getElem?_eq_getElem hrk⟩
      have hst := pulN_step hr hn
      have hb1 := hpb i hi
      have hb2 := (m3 r (List.mem_of_getElem? hr)).2 n (List.mem_of_getElem? hn)
      ((refine ggb0 (F := _∧_) ⟨@Int.ofNat_lt, hli⟩ ?_))
      ((repeat refine AW_seq ?_))
      refine AW_block ?_
      ((refine ggb0 (F := _∧_∧_∧_∧_) ⟨hli, hlt, hr, hn, hrk⟩ ?_))
      refine ⟨(i + 1, t2), hli, by show m.length - (i + 1) < m.length - i; omega, ?_⟩
      simp only [hst]
      (simp (disch := omega) only [StLe, tmLe, hpLe_refl, hpLe, bl, bb, bt, zDs, zD, eqCells, simprocAttr])
    have hie : i = m.length := by omega
    subst hie
    cases hz : (z.2 == 0)
    · have hz' : (z.2 != 0) = true := by simpa using hz
      rw [if_neg (by simpa using hz)] at hd
      ((refine ggb1 (F := _∧_) ⟨@Int.lt_irrefl, hz'⟩ hP ?_))
      ((repeat refine AW_seq ?_); (refine wta ?_); simp (disch := omega) only [retQ, resD, oneD, rsv, rs, rsL, rsL_eq_map, List.map_map, bb, bt, zDs, zD, eqCells, simprocAttr, Try.results60, hd])
    have hz' : (z.2 != 0) = false := by simpa using hz
    have hz0 : z.2 = 0 := by simpa using hz
    rw [if_pos hz0] at hd
    ((refine ggb1 (F := _∧_) ⟨@Int.lt_irrefl, hz'⟩ hP ?_))
    refine ⟨(z.1, k + 1, t2), ⟨hlt, hpv hz0, hd⟩, by show l.length - (k + 1) < l.length - k; omega, ?_⟩
    (simp (disch := omega) only [StLe, tmLe, hpLe_refl, hpLe, bl, bb, bt, zDs, zD, eqCells, simprocAttr])
  · have hke : k = l.length := by omega
    subst hke
    have hde : dotF ((colS m l.length).drop l.length) (l.drop l.length) c = (c, 0) := by
      have hdn : l.drop l.length = [] := by simp
      rw [hdn]
      cases (colS m l.length).drop l.length <;> rfl
    rw [hde] at hd
    ((refine ggb0 @Int.lt_irrefl ?_))
    ((repeat refine AW_seq ?_); (refine wta ?_); simp (disch := omega) only [retQ, resD, oneD, rsv, rs, rsL, rsL_eq_map, List.map_map, bb, bt, zDs, zD, eqCells, simprocAttr, Try.results60, hd])
end Go.Proofs.Ytifmgjieplmbnaa.T
end

section
namespace Go.Proofs.Ytifmgjieplmbnaa.T
open Go Go.RowKit Lin
set_option linter.unusedSimpArgs false

/-! The total of tensions, by the reference. -/
theorem fz_frS (b g : Nat) (cs : List D) : ∀ l : List (Int × Int), fzL b g cs (frC l) = frC l
  | [] => by simp only [frC, List.flatMap_nil, fzL]
  | x :: l => by have := fz_frS b g cs l; simp only [frC, List.flatMap_cons, List.cons_append, List.nil_append, fzL, fz] at this ⊢; rw [this]
theorem colS_len (m : List (List Int)) (w : Nat) : (colS m w).length = w := by simp [colS]
theorem colS_take {m : List (List Int)} {w k : Nat} (h : k < w) : (colS m w).take (k + 1) = (colS m w).take k ++ [pulN m k m.length] := by
  rw [List.take_add_one, colS_at h]; rfl
end Go.Proofs.Ytifmgjieplmbnaa.T
end

section
namespace Go.Proofs.Ytifmgjieplmbnaa.T
open Go Go.RowKit Lin
set_option linter.unusedSimpArgs false

/-! Chapter 11: the law of totals. -/
theorem few11L (s : Sy) (l : List (Int × Int)) : PRet Try.prog 19 [syD s, frs l] (bool (smallS s && decide (l.length ≤ 10))) := by
  refine PRet.intro 1 fun t => ACall.enter tab_ok Try.func19 rfl rfl Try.ntmps19 (by simp) ?_
  simp only [enterTM]
  have hS := small_ref s
  have hfl := frC_len l
  have hf2 : (frC l).length / 2 = l.length := by omega
  have he : decide ((l.length : Int) ≤ 10) = decide (l.length ≤ 10) := by rw [decide_eq_decide]; omega
  cases hs : smallS s
  · rw [hs] at hS
    ((refine gga1 hS ?_))
    ((repeat refine AW_seq ?_); (refine wta ?_); simp (disch := omega) only [retQ, resD, oneD, rsv, rs, rsL, rsL_eq_map, List.map_map, bb, bt, zDs, zD, eqCells, simprocAttr, Try.results19])
  · rw [hs] at hS
    ((refine ggb1 (F := _∧_) ⟨hf2, he⟩ hS ?_))
    ((repeat refine AW_seq ?_); (refine wta ?_); simp (disch := omega) only [retQ, resD, oneD, rsv, rs, rsL, rsL_eq_map, List.map_map, bb, bt, zDs, zD, eqCells, simprocAttr, Try.results19])
end Go.Proofs.Ytifmgjieplmbnaa.T
end
