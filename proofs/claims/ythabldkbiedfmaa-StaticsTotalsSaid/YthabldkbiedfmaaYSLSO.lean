import Derived.Test.YthabldkbiedfmaaSJ
import Derived.Test.YthabldkbiedfmaaTB
import Derived.Test.YthabldkbiedfmaaYWQWRA
import Derived.Test.YthabldkbiedfmaaYWPASK
import Derived.Test.YthabldkbiedfmaaWN
import Derived.Test.YthabldkbiedfmaaSF
set_option linter.all false
namespace Go.Proofs.Ythabldkbiedfmaa.T
open Go Go.RowKit Lin
set_option linter.unusedSimpArgs false

/-! Small systems. -/
def smallH (l : List Hd) : Bool := l.all fun h => decide (h.b.size ≤ 60)
def smallR (r : Rp) : Bool := decide (r.nm.size ≤ 60) && decide (r.hs.length ≤ 13) && smallH r.hs
def smallB (b : Bk) : Bool := decide (b.nm.size ≤ 60)
def smallS (s : Sy) : Bool := decide (s.bs.length ≤ 9 ∧ s.rs.length ≤ 9) && s.bs.all smallB && s.rs.all smallR
theorem all_not {α : Type} {p : α → Bool} {l : List α} {k : Nat} {x : α} (hx : l[k]? = some x) (h : p x = false) : l.all p = false := by
  rw [← Bool.not_eq_true, List.all_eq_true]
  intro hh
  rw [hh x (List.mem_of_getElem? hx)] at h
  cases h
theorem all_of_get {α : Type} {p : α → Bool} {l : List α} (h : ∀ (k : Nat) (x : α), l[k]? = some x → p x = true) : l.all p = true := List.all_eq_true.2 fun x hx => by
  obtain ⟨i, hi⟩ := List.mem_iff_getElem?.1 hx
  exact h i x hi
theorem small_fits {s : Sy} (h : smallS s = true) : Fits s := by
  simp only [smallS, Bool.and_eq_true, decide_eq_true_eq, List.all_eq_true] at h
  obtain ⟨⟨⟨h1, h2⟩, h3⟩, h4⟩ := h
  refine ⟨by omega, by omega, fun b hb => ?_, fun r hr => ?_⟩
  · have := h3 b hb
    simp only [smallB, decide_eq_true_eq] at this
    omega
  · have := h4 r hr
    simp only [smallR, Bool.and_eq_true, decide_eq_true_eq] at this
    omega
set_option maxHeartbeats 2000000 in
theorem small_ref (s : Sy) : PRet Try.prog 110 [syD s] (bool (smallS s)) := by
  refine PRet.intro 1 fun t => ACall.enter tab_ok Try.func110 rfl rfl Try.ntmps110 (by simp) ?_
  simp only [enterTM]
  have hlb := bkC_len s.bs
  have hdb := bkC_div s.bs
  have hlr := rpC_len s.rs
  have hdr := rpC_div s.rs
  by_cases a1 : 9 < (s.bs.length : Int)
  · have ho : smallS s = false := by
      have : ¬ (s.bs.length ≤ 9 ∧ s.rs.length ≤ 9) := by omega
      simp only [smallS, this, decide_false, Bool.false_and]
    ((refine ggb0 (F := _∧_) ⟨hdb, a1⟩ ?_))
    ((repeat refine AW_seq ?_); (refine wta ?_); simp (disch := omega) only [retQ, resD, oneD, rsv, rs, rsL, rsL_eq_map, List.map_map, bb, bt, zDs, zD, eqCells, simprocAttr, Try.results110, ho])
  by_cases a2 : 9 < (s.rs.length : Int)
  · have ho : smallS s = false := by
      have : ¬ (s.bs.length ≤ 9 ∧ s.rs.length ≤ 9) := by omega
      simp only [smallS, this, decide_false, Bool.false_and]
    ((refine ggb0 (F := _∧_∧_∧_) ⟨hdb, hdr, a1, a2⟩ ?_))
    ((repeat refine AW_seq ?_); (refine wta ?_); simp (disch := omega) only [retQ, resD, oneD, rsv, rs, rsL, rsL_eq_map, List.map_map, bb, bt, zDs, zD, eqCells, simprocAttr, Try.results110, ho])
  ((refine ggb0 (F := _∧_∧_∧_) ⟨hdb, hdr, a1, a2⟩ ?_))
  ((repeat refine AW_seq ?_))
  refine AW_mid (fun _ : Unit => ⟨[(1, .ptr 0 (t + 1) 0)], [some ⟨25, t + 1, [bks s.bs, rps s.rs]⟩], t + 1⟩) (fun _ => s.bs.all smallB = true) ?_ ?_
  · refine AW_block ?_
    refine AW_loop_w (fun k : Nat => ⟨[(1, .ptr 0 (t + 1) 0), (3, int k)], [some ⟨25, t + 1, [bks s.bs, rps s.rs]⟩], t + 1⟩) (fun k => s.bs.length - k) (fun k => k ≤ s.bs.length ∧ ∀ j x, j < k → s.bs[j]? = some x → smallB x = true) 0 ⟨Nat.zero_le _, fun j x hj => absurd hj (Nat.not_lt_zero _)⟩ (by (simp (disch := omega) only [StLe, tmLe, hpLe_refl, hpLe, bl, bb, bt, zDs, zD, eqCells, simprocAttr])) fun k ⟨hk, hin⟩ => ?_
    by_cases hlt : k < s.bs.length
    · obtain ⟨b, hb⟩ : ∃ y, s.bs[k]? = some y := ⟨_, List.getElem?_eq_getElem hlt⟩
      have hnm := bkC_name s.bs k b hb
      ((refine ggb0 (F := _∧_∧_) ⟨@Int.ofNat_lt, hlt, hdb⟩ ?_))
      ((repeat refine AW_seq ?_))
      refine AW_block ?_
      by_cases hz : 60 < (b.nm.size : Int)
      · have ho : smallS s = false := by
          have : smallB b = false := by simp only [smallB, decide_eq_false_iff_not]; omega
          simp only [smallS, all_not hb this, Bool.and_false, Bool.false_and]
        ((refine ggb0 (F := _∧_∧_∧_) ⟨hdb, hlt, hnm, hz⟩ ?_))
        ((repeat refine AW_seq ?_); (refine wta ?_); simp (disch := omega) only [retQ, resD, oneD, rsv, rs, rsL, rsL_eq_map, List.map_map, bb, bt, zDs, zD, eqCells, simprocAttr, Try.results110, ho])
      · ((refine ggb0 (F := _∧_∧_∧_) ⟨hdb, hlt, hnm, hz⟩ ?_))
        refine ⟨k + 1, ⟨hlt, fun j x hj hx => ?_⟩, by omega, ?_⟩
        · by_cases e : j = k
          · subst e; rw [hb] at hx; cases hx; simp only [smallB, decide_eq_true_eq]; omega
          · exact hin j x (by omega) hx
        (simp (disch := omega) only [StLe, tmLe, hpLe_refl, hpLe, bl, bb, bt, zDs, zD, eqCells, simprocAttr])
    · have hke : k = s.bs.length := by omega
      subst hke
      ((refine ggb0 (F := _∧_) ⟨@Int.lt_irrefl, hdb⟩ ?_))
      exact ⟨(), all_of_get fun j x hx => hin j x (List.getElem?_eq_some_iff.1 hx).1 hx, by (simp (disch := omega) only [StLe, tmLe, hpLe_refl, hpLe, bl, bb, bt, zDs, zD, eqCells, simprocAttr])⟩
  rintro - hbs
  ((refine gga0 ?_))
  ((repeat refine AW_seq ?_))
  refine AW_mid (fun _ : Unit => ⟨[], [], t + 1⟩) (fun _ => s.rs.all smallR = true) ?_ ?_
  · refine AW_block ?_
    refine AW_loop_w (fun k : Nat => ⟨[(1, .ptr 0 (t + 1) 0), (4, int k)], [some ⟨25, t + 1, [bks s.bs, rps s.rs]⟩], t + 1⟩) (fun k => s.rs.length - k) (fun k => k ≤ s.rs.length ∧ ∀ j x, j < k → s.rs[j]? = some x → smallR x = true) 0 ⟨Nat.zero_le _, fun j x hj => absurd hj (Nat.not_lt_zero _)⟩ (by (simp (disch := omega) only [StLe, tmLe, hpLe_refl, hpLe, bl, bb, bt, zDs, zD, eqCells, simprocAttr])) fun k ⟨hk, hin⟩ => ?_
    by_cases hlt : k < s.rs.length
    · obtain ⟨r, hr⟩ : ∃ y, s.rs[k]? = some y := ⟨_, List.getElem?_eq_getElem hlt⟩
      have hnm := rpC_name s.rs k r hr
      have hhs : (rpC s.rs)[k * 3 + 1]? = some (hds r.hs) := rpC_cell s.rs k r hr 1 (by decide)
      have hdh := hdC_div r.hs
      have hlh := hdC_len r.hs
      ((refine ggb0 (F := _∧_∧_) ⟨@Int.ofNat_lt, hlt, hdr⟩ ?_))
      ((repeat refine AW_seq ?_))
      refine AW_block ?_
      have hno : smallR r = false → smallS s = false := fun h => by simp only [smallS, all_not hr h, Bool.and_false]
      by_cases hz : 60 < (r.nm.size : Int)
      · have ho := hno (by
          have : ¬ r.nm.size ≤ 60 := by omega
          simp only [smallR, this, decide_false, Bool.false_and])
        ((refine ggb0 (F := _∧_∧_∧_) ⟨hdr, hlt, hnm, hz⟩ ?_))
        ((repeat refine AW_seq ?_); (refine wta ?_); simp (disch := omega) only [retQ, resD, oneD, rsv, rs, rsL, rsL_eq_map, List.map_map, bb, bt, zDs, zD, eqCells, simprocAttr, Try.results110, ho])
      by_cases hz2 : 13 < (r.hs.length : Int)
      · have ho := hno (by
          have : ¬ r.hs.length ≤ 13 := by omega
          simp only [smallR, this, decide_false, Bool.false_and, Bool.and_false])
        ((refine ggb0 (F := _∧_∧_∧_∧_∧_∧_) ⟨hdr, hlt, hnm, hz, hhs, hdh, hz2⟩ ?_))
        ((repeat refine AW_seq ?_); (refine wta ?_); simp (disch := omega) only [retQ, resD, oneD, rsv, rs, rsL, rsL_eq_map, List.map_map, bb, bt, zDs, zD, eqCells, simprocAttr, Try.results110, ho])
      ((refine ggb0 (F := _∧_∧_∧_∧_∧_∧_) ⟨hdr, hlt, hnm, hz, hhs, hdh, hz2⟩ ?_))
      · ((repeat refine AW_seq ?_))
        refine AW_block ?_
        refine AW_loop_w (fun i : Nat => ⟨[(1, .ptr 0 (t + 1) 0), (4, int k), (5, int i)], [some ⟨25, t + 1, [bks s.bs, rps s.rs]⟩], t + 1⟩) (fun i => r.hs.length - i) (fun i => i ≤ r.hs.length ∧ ∀ j x, j < i → r.hs[j]? = some x → decide (x.b.size ≤ 60) = true) 0 ⟨Nat.zero_le _, fun j x hj => absurd hj (Nat.not_lt_zero _)⟩ (by (simp (disch := omega) only [StLe, tmLe, hpLe_refl, hpLe, bl, bb, bt, zDs, zD, eqCells, simprocAttr])) fun i ⟨hi, hjn⟩ => ?_
        by_cases hli : i < r.hs.length
        · obtain ⟨h, hh⟩ : ∃ y, r.hs[i]? = some y := ⟨_, List.getElem?_eq_getElem hli⟩
          have hhn := hdC_name r.hs i h hh
          ((refine ggb0 (F := _∧_∧_∧_∧_∧_) ⟨@Int.ofNat_lt, hli, hdr, hlt, hhs, hdh⟩ ?_))
          ((repeat refine AW_seq ?_))
          refine AW_block ?_
          by_cases hz3 : 60 < (h.b.size : Int)
          · have ho := hno (by
              have : decide (h.b.size ≤ 60) = false := by simp only [decide_eq_false_iff_not]; omega
              simp only [smallR, smallH, all_not (p := fun h : Hd => decide (h.b.size ≤ 60)) hh this, Bool.and_false])
            ((refine ggb0 (F := _∧_∧_∧_∧_∧_∧_) ⟨hdr, hlt, hhs, hdh, hli, hhn, hz3⟩ ?_))
            ((repeat refine AW_seq ?_); (refine wta ?_); simp (disch := omega) only [retQ, resD, oneD, rsv, rs, rsL, rsL_eq_map, List.map_map, bb, bt, zDs, zD, eqCells, simprocAttr, Try.results110, ho])
          · ((refine ggb0 (F := _∧_∧_∧_∧_∧_∧_) ⟨hdr, hlt, hhs, hdh, hli, hhn, hz3⟩ ?_))
            refine ⟨i + 1, ⟨hli, fun j x hj hx => ?_⟩, by omega, ?_⟩
            · by_cases e : j = i
              · subst e; rw [hh] at hx; cases hx; simp only [decide_eq_true_eq]; omega
              · exact hjn j x (by omega) hx
            (simp (disch := omega) only [StLe, tmLe, hpLe_refl, hpLe, bl, bb, bt, zDs, zD, eqCells, simprocAttr])
        · have hie : i = r.hs.length := by omega
          subst hie
          ((refine ggb0 (F := _∧_∧_∧_∧_) ⟨@Int.lt_irrefl, hdr, hlt, hhs, hdh⟩ ?_))
          have hall : smallH r.hs = true := all_of_get fun j x hx => hjn j x (List.getElem?_eq_some_iff.1 hx).1 hx
          refine ⟨k + 1, ⟨hlt, fun j x hj hx => ?_⟩, by omega, ?_⟩
          · by_cases e : j = k
            · subst e; rw [hr] at hx; cases hx
              have h1 : r.nm.size ≤ 60 := by omega
              have h2 : r.hs.length ≤ 13 := by omega
              simp only [smallR, h1, h2, hall, decide_true, Bool.and_self]
            · exact hin j x (by omega) hx
          (simp (disch := omega) only [StLe, tmLe, hpLe_refl, hpLe, bl, bb, bt, zDs, zD, eqCells, simprocAttr])
    · have hke : k = s.rs.length := by omega
      subst hke
      ((refine ggb0 (F := _∧_) ⟨@Int.lt_irrefl, hdr⟩ ?_))
      exact ⟨(), all_of_get fun j x hx => hin j x (List.getElem?_eq_some_iff.1 hx).1 hx, by (simp (disch := omega) only [StLe, tmLe, hpLe_refl, hpLe, bl, bb, bt, zDs, zD, eqCells, simprocAttr])⟩
  rintro - hrs
  have ho : smallS s = true := by
    have : s.bs.length ≤ 9 ∧ s.rs.length ≤ 9 := by omega
    simp only [smallS, this, hbs, hrs, and_self, decide_true, Bool.and_self]
  ((refine gga0 ?_))
  ((repeat refine AW_seq ?_); (refine wta ?_); simp (disch := omega) only [retQ, resD, oneD, rsv, rs, rsL, rsL_eq_map, List.map_map, bb, bt, zDs, zD, eqCells, simprocAttr, Try.results110, ho])
end Go.Proofs.Ythabldkbiedfmaa.T

namespace Go.Proofs.Ythabldkbiedfmaa.T
open Go Go.RowKit Lin
set_option linter.unusedSimpArgs false

/-! Slices within slices: it is forgotten that they are as long as their memory. -/
def uu : Nat → D → D
  | k + 1, .sl sz cs _ => .sl sz (cs.map (uu k)) false
  | _, d => d
theorem uu_rep {F : Mem} {G : Ghost} : ∀ (k : Nat) (d : D) (u : Value), Rep F G d u → Rep F G (uu k d) u
  | 0, d, u, h => by simpa only [uu] using h
  | k + 1, d, u, h => by
    cases d with
    | sl sz cs full =>
      simp only [Rep, uu] at h ⊢
      obtain ⟨a, len, cap, h1, h2, h3, h4, h5⟩ := h
      refine ⟨a, len, cap, h1, by rw [h2, List.length_map], h3, fun e => by simp at e, ?_⟩
      rcases h5 with rfl | ⟨blk, off, vs, e, hc, hr⟩
      · left; rfl
      · exact .inr ⟨blk, off, vs, e, hc, RepL_map (fun d u _ h => uu_rep k d u h) hr⟩
    | _ => simpa only [uu] using h
theorem ACall.of_flat {P : Program} {f : FuncId} {ds ds' : List D} {d : D} {H : Hp} {t : Nat} {K : D → Hp → Nat → Prop} (h : PRet P f ds' d) (hd : (ds.map (uu 2)).map ufa = ds') (hk : K d H t) : ACall P f ds H t K := fun w0 F G w us R hL => by
  have hL' : RepL F G (ds.map (uu 2)) us := RepL_map (fun d u _ hd => uu_rep 2 d u hd) hL
  exact (ACall.of_pret (K := K) h hd hk) w0 F G w us R hL'
theorem awake_solve : solveP [[2, 1], [1, -1]] [5, 1] = ([(2, 1), (1, 1)], 0) := by decide +kernel
theorem awake_det : detP [[2, 1], [1, -1]] = -3 := by decide +kernel
theorem awake_valid : validP [[2, 1], [1, -1]] = true := by decide +kernel
theorem awake_null : nullP [[1, 2, 3]] = ([[(-2, 1), (1, 1), (0, 1)], [(-3, 1), (0, 1), (1, 1)]], 0) := by decide +kernel
end Go.Proofs.Ythabldkbiedfmaa.T

namespace Go.Proofs.Ythabldkbiedfmaa.T
open Go Go.RowKit Lin
theorem gdza3_SM {C1 C2 C3 P Q : Prop} (c1 : C1) (c2 : C2) (c3 : C3) (q : Q) (h : C1 → C2 → C3 → Q → P := by
  intro cc1 cc2 cc3 hq
  (try with_reducible intro KR hKR)
  (repeat refine AW_seq ?_); (repeat refine AW_seq ?_); (refine AW_drawn_k tab_ok follows_mixed 0 fun KR hKR => ?_); simp only [List.replicate_succ, List.replicate_zero, List.append_nil, List.nil_append, List.cons_append, List.length_cons, List.length_nil, Nat.reduceAdd]; (repeat' ((first | refine awD_n rfl fun KK hKK => ?_ | refine awD_g rfl rfl fun KK hKK => ?_ | refine awD_gc rfl fun KK hKK => ?_ | refine awD_nc fun KK hKK => ?_); simp (disch := omega) only [bb, bt, zDs, zD, eqCells, simprocAttr, bne_self_eq_false, Int.reduceBNe, Int.reduceBEq, Bool.bne_false, Bool.bne_true, Bool.false_bne, Bool.true_bne, goCDS, callDS_fn, argsZ, argsD, ufa, uf]; (try ((first | with_reducible refine PGive.ret (cc1) ?_ | with_reducible refine PGive.ret (cc2) ?_ | with_reducible refine PGive.ret (cc3) ?_); simp (disch := omega) only [bb, bt, zDs, zD, eqCells, simprocAttr, afterDS, bne_self_eq_false, Int.reduceBNe, Int.reduceBEq, Bool.bne_false, Bool.bne_true, Bool.false_bne, Bool.true_bne])); refine hKK _ _ _ ?_; clear hKK KK)); (refine awD_nil ?_); simp only [List.reverse_cons, List.reverse_nil, List.nil_append, List.cons_append]; (refine hKR _ _ (by first | rfl | kernel_rfl) ?_); (try clear hKR KR); (repeat (with_reducible first | refine q1 ?_ | refine q2 ?_ | refine q3 ?_ | refine q4 ?_ | refine q5 ?_ | refine q6 ?_ | (refine q7 ?_ ?_; (focus (with_unfolding_all rfl)))))
  (first | exact hq | (revert hKR; revert KR; exact hq))) : P := h c1 c2 c3 q
theorem gga4_SM {C1 C2 C3 C4 P Q : Prop} (c1 : C1) (c2 : C2) (c3 : C3) (c4 : C4) (q : Q) (h : C1 → C2 → C3 → C4 → Q → P := by
  intro cc1 cc2 cc3 cc4 hq
  (try with_reducible intro KR hKR)
  (repeat' (first | (with_reducible refine AW_seq ?_) | (with_reducible refine AW_region_k tab_ok fun KR hKR => ?_) | ((first | with_reducible refine AW_skip ?_ | with_reducible refine AW_exit ?_ | ((with_reducible refine awOps_nil ?_); refine hKR _ ?_; (try clear hKR KR))); (repeat (with_reducible first | refine q1 ?_ | refine q2 ?_ | refine q3 ?_ | refine q4 ?_ | refine q5 ?_ | refine q6 ?_ | (refine q7 ?_ ?_; (focus (with_unfolding_all rfl)))))) | ((first | ((with_reducible refine at_ops ?_); (first | refine awOps_n rfl fun KK hKK => ?_ | refine awOps_g rfl rfl fun KK hKK => ?_ | refine awOps_gc rfl fun KK hKK => ?_ | refine awOps_nc fun KK hKK => ?_)) | with_reducible refine AW_cond_k (tab := tab) fun KK hKK => ?_); simp (disch := omega) only [bb, bt, zDs, zD, eqCells, simprocAttr, bne_self_eq_false, Int.reduceBNe, Int.reduceBEq, Bool.bne_false, Bool.bne_true, Bool.false_bne, Bool.true_bne, goC, callO_fn, argsD, and_self]; (try ((first | (with_reducible refine ACall.of_pret (cc1) ?_ ?_; (focus (first | (simp only [um]; done) | rfl))) | (with_reducible refine ACall.of_pret (cc2) ?_ ?_; (focus (first | (simp only [um]; done) | rfl))) | (with_reducible refine ACall.of_pret (cc3) ?_ ?_; (focus (first | (simp only [um]; done) | rfl))) | (with_reducible refine ACall.of_pret (cc4) ?_ ?_; (focus (first | (simp only [um]; done) | rfl)))); simp only [afterC, St.put, putTM, ↓reduceIte, Nat.reduceEqDiff])); refine hKK _ ?_; clear hKK KK; (first | with_reducible refine at_ops ?_ | with_reducible refine i1 ?_ | with_reducible refine i0 ?_))))
  (first | exact hq | (revert hKR; revert KR; exact hq))) : P := h c1 c2 c3 c4 q
set_option linter.unusedSimpArgs false

/-! Chapter 11: the example, and the law of tensions. -/
theorem whole11 (n : Int) : PRet Try.prog 42 [int n] (frD (n, 1)) := by
  refine PRet.intro 1 fun t => ACall.enter tab_ok Try.func42 rfl rfl Try.ntmps42 (by simp) ?_
  simp only [enterTM]
  ((refine gga0 ?_))
  ((repeat refine AW_seq ?_); (refine wta ?_); simp (disch := omega) only [retQ, resD, oneD, rsv, rs, rsL, rsL_eq_map, List.map_map, bb, bt, zDs, zD, eqCells, simprocAttr, Try.results42])
theorem few11 (s : Sy) (l : List (Int × Int)) (hl : l.length ≤ 1000000) : PRet Try.prog 27 [syD s, frs l] (bool (smallS s && decide (l.length ≤ 10))) := by
  refine PRet.intro 1 fun t => ACall.enter tab_ok Try.func27 rfl rfl Try.ntmps27 (by simp) ?_
  simp only [enterTM]
  have hS := small_ref s
  have hfl := frC_len l
  have hf2 : (frC l).length / 2 = l.length := by omega
  have he : decide ((l.length : Int) ≤ 10) = decide (l.length ≤ 10) := by rw [decide_eq_decide]; omega
  cases hs : smallS s
  · rw [hs] at hS
    ((refine gga1 hS ?_))
    ((repeat refine AW_seq ?_); (refine wta ?_); simp (disch := omega) only [retQ, resD, oneD, rsv, rs, rsL, rsL_eq_map, List.map_map, bb, bt, zDs, zD, eqCells, simprocAttr, Try.results27])
  · rw [hs] at hS
    ((refine ggb1 (F := _∧_) ⟨hf2, he⟩ hS ?_))
    ((repeat refine AW_seq ?_); (refine wta ?_); simp (disch := omega) only [retQ, resD, oneD, rsv, rs, rsL, rsL_eq_map, List.map_map, bb, bt, zDs, zD, eqCells, simprocAttr, Try.results27])
def hB : ByteArray := ⟨#[98]⟩
def hR : ByteArray := ⟨#[114]⟩
def hE : ByteArray := ⟨#[]⟩
def tack : Bool → Sy
  | false => ⟨[⟨hB, 60⟩], [⟨hR, [⟨hE, 0, 1, 1⟩, ⟨hB, 2, 1, 1⟩, ⟨hE, 0, 1, 1⟩], true⟩]⟩
  | true => ⟨[⟨hB, 60⟩], [⟨hR, [⟨hB, 1, 1, 1⟩, ⟨hE, 0, 1, 1⟩, ⟨hB, 2, 1, 1⟩, ⟨hE, 0, 1, 1⟩], true⟩]⟩
theorem tackle11 (b : Bool) : PRet Try.prog 109 [bool b] (syD (tack b)) := by
  refine PRet.intro 3 fun t => ACall.enter tab_ok Try.func109 rfl rfl Try.ntmps109 (by simp) ?_
  simp only [enterTM]
  have hw := whole11 1
  cases b
  · ((refine gga1 hw ?_))
    ((repeat refine AW_seq ?_); (refine wta ?_); simp (disch := omega) only [retQ, resD, oneD, rsv, rs, rsL, rsL_eq_map, List.map_map, bb, bt, zDs, zD, eqCells, simprocAttr, Try.results109])
    rfl
  · ((refine gga1 hw ?_))
    ((repeat refine AW_seq ?_); (refine wta ?_); simp (disch := omega) only [retQ, resD, oneD, rsv, rs, rsL, rsL_eq_map, List.map_map, bb, bt, zDs, zD, eqCells, simprocAttr, Try.results109])
    rfl
theorem tack_fits (b : Bool) : Fits (tack b) := small_fits (by cases b <;> decide +kernel)
theorem tack_haul : haulP (tack false) = ((30, 1), 0) := by decide +kernel
theorem tack_tens : tensP (tack true) = ([(20, 1)], 0) := by decide +kernel
theorem awake11 : PRet Try.prog 26 [] (bool true) := by
  refine PRet.intro 1 fun t => ACall.enter tab_ok Try.func26 rfl rfl Try.ntmps26 (by simp) ?_
  simp only [enterTM]
  have hH := haul_prog (tack false) (tack_fits false)
  have hT := tens_prog (tack true) (tack_fits true)
  rw [tack_haul] at hH
  rw [tack_tens] at hT
  have t1 := tackle11 false
  have t2 := tackle11 true
  have w1 := whole11 30
  have w2 := whole11 20
  have hE : PRet Try.prog 32 [frs [(20, 1)], .sl 2 [int 20, int 1] false] (bool true) := equalFr [(20, 1)] [(20, 1)] (by simp) (by simp)
  ((refine gga4_SM t1 t2 hH hT ?_))
  ((repeat refine AW_seq ?_); (refine gdza3_SM w1 w2 hE ?_))
  ((repeat refine AW_seq ?_); (refine wta ?_); simp (disch := omega) only [retQ, resD, oneD, rsv, rs, rsL, rsL_eq_map, List.map_map, bb, bt, zDs, zD, eqCells, simprocAttr, Try.results26])
set_option maxHeartbeats 1000000 in
theorem law_tensions (s : Sy) : PRet Try.prog 3 [syD s] (bool true) := by
  refine PRet.intro 1 fun t => ACall.enter tab_ok Try.func3 rfl rfl Try.ntmps3 (by simp) ?_
  simp only [enterTM]
  have hF : PRet Try.prog 27 [syD s, .sl 2 [] false] (bool (smallS s && true)) := few11 s [] (by simp)
  rw [Bool.and_true] at hF
  cases hs : smallS s
  · rw [hs] at hF
    ((refine gga2 awake11 hF ?_))
    ((repeat refine AW_seq ?_); (refine wta ?_); simp (disch := omega) only [retQ, resD, oneD, rsv, rs, rsL, rsL_eq_map, List.map_map, bb, bt, zDs, zD, eqCells, simprocAttr, Try.results3])
  rw [hs] at hF
  have hf := small_fits hs
  have hT := tens_prog s hf
  have hU := tens_ref s hf
  have hH := haul_prog s hf
  have hI := haul_ref s hf
  have hle := tensP_le s
  generalize tensP s = X at *
  generalize haulP s = Y at *
  have hQ := equalFr X.1 X.1 (by omega) (by omega)
  rw [beq_self_eq_true] at hQ
  have e1 : (X.2 == X.2) = true := by simp
  have e2 : (Y.2 == Y.2) = true := by simp
  have e3 : (Y.1.1 == Y.1.1) = true := by simp
  have e4 : (Y.1.2 == Y.1.2) = true := by simp
  ((refine ggb7 (F := _∧_∧_∧_) ⟨e1, e2, e3, e4⟩ awake11 hF hT hU hH hI hQ ?_))
  ((repeat refine AW_seq ?_); (refine wta ?_); simp (disch := omega) only [retQ, resD, oneD, rsv, rs, rsL, rsL_eq_map, List.map_map, bb, bt, zDs, zD, eqCells, simprocAttr, Try.results3])
end Go.Proofs.Ythabldkbiedfmaa.T

namespace Go.Proofs.Ythabldkbiedfmaa.T
open Go Go.RowKit Lin
set_option linter.unusedSimpArgs false

theorem dotF_step {r : List Int} {x : List (Int × Int)} {k : Nat} {n : Int} {f : Int × Int} (hr : r[k]? = some n) (hx : x[k]? = some f) (s : Int × Int) : dotF (r.drop k) (x.drop k) s = if (mulP (n, 1) f).2 = 0 then (if (addP s (mulP (n, 1) f).1).2 = 0 then dotF (r.drop (k + 1)) (x.drop (k + 1)) (addP s (mulP (n, 1) f).1).1 else ((0, 0), (addP s (mulP (n, 1) f).1).2)) else ((0, 0), (mulP (n, 1) f).2) := by
  have h1 : r.drop k = n :: r.drop (k + 1) := by
    obtain ⟨a, b⟩ := List.getElem?_eq_some_iff.1 hr
    rw [List.drop_eq_getElem_cons a, b]
  have h2 : x.drop k = f :: x.drop (k + 1) := by
    obtain ⟨a, b⟩ := List.getElem?_eq_some_iff.1 hx
    rw [List.drop_eq_getElem_cons a, b]
  rw [h1, h2]; rfl
theorem frC_app (l : List (Int × Int)) (p : Int × Int) : frC (l ++ [p]) = frC l ++ [int p.1, int p.2] := by simp [frC]
set_option maxHeartbeats 2000000 in
theorem rProduct (m : List (List Int)) (x : List (Int × Int)) (hm : m.length ≤ 1000000) (hl : ∀ r ∈ m, r.length ≤ 1000000) (hx : x.length ≤ 1000000) : PRet Try.prog 143 [mat m, frs x] (fse (prodP m x)) := by
  refine PRet.intro 3 fun t => ACall.enter tab_ok Try.func143 rfl rfl Try.ntmps143 (by simp) ?_
  simp only [enterTM]
  have hV := valid m hm hl
  have hcf := containsFuncFr x 209 [] (fun f => !vfrac f.1 f.2) hx (fun f _ => product1 f)
  have hany : (x.any fun f => !vfrac f.1 f.2) = !allV x := by
    unfold allV
    rw [List.all_eq_not_any_not, Bool.not_not]
  rw [hany] at hcf
  have f0 : frC [] = [] := rfl
  unfold prodP
  ((refine gga0 ?_))
  ((repeat refine AW_seq ?_))
  cases hv : validP m
  · rw [hv] at hV
    refine AW_block ?_
    ((refine gga1 hV ?_))
    ((repeat refine AW_seq ?_); (refine wta ?_); simp (disch := omega) only [retQ, resD, oneD, rsv, rs, rsL, rsL_eq_map, List.map_map, bb, bt, zDs, zD, eqCells, simprocAttr, Try.results143])
    simp [f0]
  rw [hv] at hV
  cases ha : allV x
  · rw [ha] at hcf
    refine AW_block ?_
    ((refine gga2 hV hcf ?_))
    ((repeat refine AW_seq ?_); (refine wta ?_); simp (disch := omega) only [retQ, resD, oneD, rsv, rs, rsL, rsL_eq_map, List.map_map, bb, bt, zDs, zD, eqCells, simprocAttr, Try.results143])
    simp [f0]
  rw [ha] at hcf
  obtain ⟨h1, h2, h3⟩ := validP_iff.1 hv
  obtain ⟨r0, m', hm0⟩ : ∃ r0 m', m = r0 :: m' := by
    cases m with
    | nil => simp at h1
    | cons a b => exact ⟨a, b, rfl⟩
  have hwd : wid m = r0.length := by rw [hm0]; rfl
  have hat0 : m[0]? = some r0 := by rw [hm0]; rfl
  have hpos : 0 < m.length := by omega
  have hla := frC_len x
  have ha2 : (frC x).length / 2 = x.length := by omega
  rw [if_pos ⟨rfl, rfl⟩]
  by_cases hw : x.length = wid m
  rotate_left 1
  · have e1 : ((x.length : Int) != (wid m : Int)) = true := by simpa using fun h => hw (by omega)
    rw [if_neg hw]
    refine AW_block ?_
    ((refine ggb2 (F := _∧_∧_∧_∧_) ⟨ha2, hat0, hpos, (hwd).symm, e1⟩ hV hcf ?_))
    ((repeat refine AW_seq ?_); (refine wta ?_); simp (disch := omega) only [retQ, resD, oneD, rsv, rs, rsL, rsL_eq_map, List.map_map, bb, bt, zDs, zD, eqCells, simprocAttr, Try.results143])
    rfl
  have e1 : ((x.length : Int) != (wid m : Int)) = false := by simp [hw]
  rw [if_pos hw]
  refine AW_mid (fun t : Nat => ⟨[(0, mat m), (1, frs x)], [], t⟩) (fun _ => True) ?_ ?_
  · refine AW_block ?_
    ((refine ggb2 (F := _∧_∧_∧_∧_) ⟨ha2, hat0, hpos, (hwd).symm, e1⟩ hV hcf ?_))
    exact ⟨t, trivial, by (simp (disch := omega) only [StLe, tmLe, hpLe_refl, hpLe, bl, bb, bt, zDs, zD, eqCells, simprocAttr])⟩
  rintro t -
  clear hV hcf hany
  ((refine wqa ?_))
  refine AW.begin 6 2 33 rfl (by omega) ?_
  (simp (disch := omega) only [bb, bt, zDs, zD, eqCells, simprocAttr])
  ((refine gga0 ?_))
  ((repeat refine AW_seq ?_))
  refine AW_mid (fun a : Nat × Nat × List (Int × Int) => ⟨[(6, .own 2 0 a.1 0 a.2.2.length)], [some ⟨33, a.1, frC a.2.2⟩], a.2.1⟩) (fun a => a.2.2.length ≤ 1000000 ∧ prodA x [] m = (a.2.2, 0)) ?_ ?_
  · refine AW_block ?_
    refine AW_loop_w (fun a : Nat × Nat × Nat × List (Int × Int) => ⟨[(1, frs x), (6, .own 2 0 a.2.1 0 a.1), (30, mat m), (31, int m.length), (32, int a.1)], [some ⟨33, a.2.1, frC a.2.2.2⟩], a.2.2.1⟩) (fun a => m.length - a.1) (fun a => a.1 ≤ m.length ∧ a.2.2.2.length = a.1 ∧ prodA x [] m = prodA x a.2.2.2 (m.drop a.1)) (0, t + 1, t + 1, []) ⟨Nat.zero_le _, rfl, rfl⟩ (by (simp (disch := omega) only [StLe, tmLe, hpLe_refl, hpLe, bl, bb, bt, zDs, zD, eqCells, simprocAttr, f0])) ?_
    rintro ⟨i, g, tt, acc⟩ ⟨hi, hal, hpa⟩
    simp only at hi hal hpa
    by_cases hlt : i < m.length
    · obtain ⟨r, hr⟩ : ∃ r, m[i]? = some r := ⟨_, List.getElem?_eq_getElem hlt⟩
      have hrl := h3 r (List.mem_of_getElem? hr)
      have hdr : m.drop i = r :: m.drop (i + 1) := by
        obtain ⟨a1, a2⟩ := List.getElem?_eq_some_iff.1 hr
        rw [List.drop_eq_getElem_cons a1, a2]
      rw [hdr] at hpa
      simp only [prodA] at hpa
      ((refine ggb0 (F := _∧_) ⟨@Int.ofNat_lt, hlt⟩ ?_))
      ((repeat refine AW_seq ?_))
      refine AW_block ?_
      ((refine ggb0 (F := _∧_) ⟨hlt, hr⟩ ?_))
      ((repeat refine AW_seq ?_))
      refine AW_mid (fun a : Nat × (Int × Int) => ⟨[(1, frs x), (6, .own 2 0 g 0 i), (9, .ptr 1 (tt + 1) 0), (30, mat m), (31, int m.length), (32, int i)], [some ⟨33, g, frC acc⟩, some ⟨33, tt + 1, [int a.2.1, int a.2.2]⟩], a.1⟩) (fun a => dotF r x (0, 1) = (a.2, 0)) ?_ ?_
      · refine AW_block ?_
        refine AW_loop_w (fun a : Nat × Nat × (Int × Int) => ⟨[(1, frs x), (6, .own 2 0 g 0 i), (9, .ptr 1 (tt + 1) 0), (30, mat m), (31, int m.length), (32, int i), (37, ints r), (38, int r.length), (39, int a.1)], [some ⟨33, g, frC acc⟩, some ⟨33, tt + 1, [int a.2.2.1, int a.2.2.2]⟩], a.2.1⟩) (fun a => r.length - a.1) (fun a => a.1 ≤ r.length ∧ dotF r x (0, 1) = dotF (r.drop a.1) (x.drop a.1) a.2.2) (0, tt + 1, (0, 1)) ⟨Nat.zero_le _, rfl⟩ (by (simp (disch := omega) only [StLe, tmLe, hpLe_refl, hpLe, bl, bb, bt, zDs, zD, eqCells, simprocAttr])) ?_
        rintro ⟨k, t3, s⟩ ⟨hk, hd⟩
        simp only at hk hd
        by_cases hkl : k < r.length
        · have hkx : k < x.length := by omega
          obtain ⟨n, hn⟩ : ∃ y, r[k]? = some y := ⟨_, List.getElem?_eq_getElem hkl⟩
          obtain ⟨f, hf⟩ : ∃ y, x[k]? = some y := ⟨_, List.getElem?_eq_getElem hkx⟩
          rw [dotF_step hn hf] at hd
          have hra := frC_read x k f hf
          have cm := rMul (n, 1) f
          ((refine ggb0 (F := _∧_) ⟨@Int.ofNat_lt, hkl⟩ ?_))
          ((repeat refine AW_seq ?_))
          refine AW_block ?_
          by_cases z1 : (mulP (n, 1) f).2 = 0
          rotate_left 1
          · rw [if_neg z1] at hd
            have z1' : ((mulP (n, 1) f).2 != 0) = true := by simpa using z1
            have hp2 : prodA x [] m = ([], (mulP (n, 1) f).2) := by rw [hpa, hd, if_neg z1]
            rw [hp2]
            generalize mulP (n, 1) f = q at *
            ((refine ggb1 (F := _∧_∧_∧_∧_∧_) ⟨hkl, hn, ha2, hkx, hra, z1'⟩ cm ?_))
            ((repeat refine AW_seq ?_); (refine wta ?_); simp (disch := omega) only [retQ, resD, oneD, rsv, rs, rsL, rsL_eq_map, List.map_map, bb, bt, zDs, zD, eqCells, simprocAttr, Try.results143])
            rfl
          rw [if_pos z1] at hd
          have z1' : ((mulP (n, 1) f).2 != 0) = false := by simpa using z1
          generalize mulP (n, 1) f = q at *
          have ca := rAdd s q.1
          by_cases z2 : (addP s q.1).2 = 0
          rotate_left 1
          · rw [if_neg z2] at hd
            have z2' : ((addP s q.1).2 != 0) = true := by simpa using z2
            have hp2 : prodA x [] m = ([], (addP s q.1).2) := by rw [hpa, hd, if_neg z2]
            rw [hp2]
            generalize addP s q.1 = w at *
            ((refine ggb2 (F := _∧_∧_∧_∧_∧_∧_) ⟨hkl, hn, ha2, hkx, hra, z1', z2'⟩ cm ca ?_))
            ((repeat refine AW_seq ?_); (refine wta ?_); simp (disch := omega) only [retQ, resD, oneD, rsv, rs, rsL, rsL_eq_map, List.map_map, bb, bt, zDs, zD, eqCells, simprocAttr, Try.results143])
            rfl
          rw [if_pos z2] at hd
          have z2' : ((addP s q.1).2 != 0) = false := by simpa using z2
          generalize addP s q.1 = w at *
          ((refine ggb2 (F := _∧_∧_∧_∧_∧_∧_) ⟨hkl, hn, ha2, hkx, hra, z1', z2'⟩ cm ca ?_))
          refine ⟨(k + 1, t3 + 1, w.1), ⟨hkl, hd⟩, by show r.length - (k + 1) < r.length - k; omega, ?_⟩
          (simp (disch := omega) only [StLe, tmLe, hpLe_refl, hpLe, bl, bb, bt, zDs, zD, eqCells, simprocAttr])
        · have hke : k = r.length := by omega
          subst hke
          rw [List.drop_eq_nil_of_le (Nat.le_refl _)] at hd
          ((refine ggb0 @Int.lt_irrefl ?_))
          exact ⟨(t3, s), hd, by (simp (disch := omega) only [StLe, tmLe, hpLe_refl, hpLe, bl, bb, bt, zDs, zD, eqCells, simprocAttr])⟩
      · rintro ⟨t3, s⟩ hd
        simp only at hd
        rw [hd] at hpa
        simp only [if_true] at hpa
        have hfl2 := frC_len acc
        rw [hal] at hfl2
        have hap := frC_app acc s
        ((refine ggb0 hfl2 ?_))
        refine ⟨(i + 1, t3 + 1, t3 + 1, acc ++ [s]), ⟨hlt, by simp [hal], hpa⟩, by show m.length - (i + 1) < m.length - i; omega, ?_⟩
        simp only [hap]
        (simp (disch := omega) only [StLe, tmLe, hpLe_refl, hpLe, bl, bb, bt, zDs, zD, eqCells, simprocAttr])
    · have hie : i = m.length := by omega
      subst hie
      rw [List.drop_eq_nil_of_le (Nat.le_refl _)] at hpa
      ((refine ggb0 @Int.lt_irrefl ?_))
      refine ⟨(g, tt, acc), ⟨by show acc.length ≤ _; omega, hpa⟩, ?_⟩
      simp only [hal]
      (simp (disch := omega) only [StLe, tmLe, hpLe_refl, hpLe, bl, bb, bt, zDs, zD, eqCells, simprocAttr])
  · rintro ⟨g, tt, acc⟩ ⟨hal, hpa⟩
    simp only at hal hpa
    rw [hpa]
    have hfl2 := frC_len acc
    ((refine gga0 ?_))
    ((repeat refine AW_seq ?_); (refine wta ?_); simp (disch := omega) only [retQ, resD, oneD, bb, bt, zDs, zD, eqCells, simprocAttr, Try.results143])
    show rs (rsv _ 2) _ _ = _
    simp only [rs, rsL, List.getElem?_cons_zero, List.drop_zero, Nat.zero_add, hfl2, Nat.le_refl, and_self, if_true]
    rw [List.take_of_length_le (by omega)]
    have hmap : ∀ (H : Hp) (l : List (Int × Int)), (frC l).map (rsv H 2) = frC l := fun H l => by
      induction l with
      | nil => rfl
      | cons p l ih =>
        simp only [frC, List.flatMap_cons, List.map_append] at ih ⊢
        rw [ih]; rfl
    rw [hmap]
end Go.Proofs.Ythabldkbiedfmaa.T

namespace Go.Proofs.Ythabldkbiedfmaa.T
open Go Go.RowKit Lin
theorem gdoa2_SN {C1 C2 P Q : Prop} (c1 : C1) (c2 : C2) (q : Q) (h : C1 → C2 → Q → P := by
  intro cc1 cc2 hq
  (try with_reducible intro KR hKR)
  (repeat refine AW_seq ?_); (repeat refine AW_seq ?_); (refine AW_drawn_k tab_ok follows_mixed 1 fun KR hKR => ?_); simp only [List.replicate_succ, List.replicate_zero, List.append_nil, List.nil_append, List.cons_append, List.length_cons, List.length_nil, Nat.reduceAdd]; (repeat' ((first | refine awD_n rfl fun KK hKK => ?_ | refine awD_g rfl rfl fun KK hKK => ?_ | refine awD_gc rfl fun KK hKK => ?_ | refine awD_nc fun KK hKK => ?_); simp (disch := omega) only [bb, bt, zDs, zD, eqCells, simprocAttr, bne_self_eq_false, Int.reduceBNe, Int.reduceBEq, Bool.bne_false, Bool.bne_true, Bool.false_bne, Bool.true_bne, goCDS, callDS_fn, argsZ, argsD, ufa, uf]; (try ((first | with_reducible refine PGive.ret (cc1) ?_ | with_reducible refine PGive.ret (cc2) ?_); simp (disch := omega) only [bb, bt, zDs, zD, eqCells, simprocAttr, afterDS, bne_self_eq_false, Int.reduceBNe, Int.reduceBEq, Bool.bne_false, Bool.bne_true, Bool.false_bne, Bool.true_bne])); refine hKK _ _ _ ?_; clear hKK KK)); (refine awD_nil ?_); simp only [List.reverse_cons, List.reverse_nil, List.nil_append, List.cons_append]; (refine hKR _ _ (by first | rfl | kernel_rfl) ?_); (try clear hKR KR); (repeat (with_reducible first | refine q1 ?_ | refine q2 ?_ | refine q3 ?_ | refine q4 ?_ | refine q5 ?_ | refine q6 ?_ | (refine q7 ?_ ?_; (focus (with_unfolding_all rfl)))))
  (first | exact hq | (revert hKR; revert KR; exact hq))) : P := h c1 c2 q
set_option linter.unusedSimpArgs false

/-! Differences, sums of products. -/
theorem AW_scope {P : Program} {n : Nat} {c : Code} {Q : Exit → St → Prop} {st : St} (hq : ∀ l s, ¬ Q (.goto l) s) (h : AW P n c Q st) : AW P n (.scope c) Q st := fun w0 F G a w hs => by
  refine wp_scope_straight (wp_mono (h w0 F G a w hs) fun e a' w' l => ?_)
  cases e with
  | goto l' => obtain ⟨_, _, s, _, _, h3⟩ := l; exact absurd h3 (hq _ _)
  | _ => exact l
theorem AW_label {P : Program} {n l : Nat} {Q : Exit → St → Prop} {st : St} (h : Q .normal st) : AW P n (.label l) Q st := fun _w0 F G _ _ hs => wp_label ⟨F, G, st, .refl _ _ _, hs, h⟩
theorem vfrac_neg {a b : Int} (h : vfrac a b = true) : vfrac (-a) b = true := by
  unfold vfrac at h ⊢
  simp only [Bool.and_eq_true, decide_eq_true_eq, Int.natAbs_neg] at h ⊢
  omega
def subP (a b : Int × Int) : (Int × Int) × Int := if vfrac a.1 a.2 = true ∧ vfrac b.1 b.2 = true then addR a (-b.1, b.2) else ((0, 0), 1)
theorem rSub (a b : Int × Int) : PRet Try.prog 44 [frD a, frD b] (fe (subP a b)) := by
  refine PRet.intro 1 fun t => ACall.enter tab_ok Try.func44 rfl rfl Try.ntmps44 (by simp) ?_
  simp only [enterTM]
  have h1 := rValid a.1 a.2
  have h2 := rValid b.1 b.2
  cases ha : vfrac a.1 a.2
  · rw [ha] at h1
    have e : subP a b = ((0, 0), 1) := by unfold subP; rw [if_neg (by simp [ha])]
    ((refine gga1 h1 ?_))
    ((repeat refine AW_seq ?_); (refine wta ?_); simp (disch := omega) only [retQ, resD, oneD, rsv, rs, rsL, rsL_eq_map, List.map_map, bb, bt, zDs, zD, eqCells, simprocAttr, Try.results44, e])
  rw [ha] at h1
  cases hb : vfrac b.1 b.2
  · rw [hb] at h2
    have e : subP a b = ((0, 0), 1) := by unfold subP; rw [if_neg (by simp [hb])]
    ((refine gga2 h1 h2 ?_))
    ((repeat refine AW_seq ?_); (refine wta ?_); simp (disch := omega) only [retQ, resD, oneD, rsv, rs, rsL, rsL_eq_map, List.map_map, bb, bt, zDs, zD, eqCells, simprocAttr, Try.results44, e])
  rw [hb] at h2
  have e : subP a b = addP a (-b.1, b.2) := by unfold subP; rw [if_pos ⟨ha, hb⟩, addP_ok ha (vfrac_neg hb)]
  have hB := fr_bounds hb
  have hA := rAdd a (-b.1, b.2)
  rw [← e] at hA
  ((refine gga3 h1 h2 hA ?_))
  ((repeat refine AW_seq ?_); (refine wta ?_); simp (disch := omega) only [retQ, resD, oneD, rsv, rs, rsL, rsL_eq_map, List.map_map, bb, bt, zDs, zD, eqCells, simprocAttr, Try.results44])
theorem refNeg (b : Int × Int) (hb : vfrac b.1 b.2 = true) : PRet Try.prog 206 [frD b] (frD (-b.1, b.2)) := by
  refine PRet.intro 1 fun t => ACall.enter tab_ok Try.func206 rfl rfl Try.ntmps206 (by simp) ?_
  simp only [enterTM]
  have hB := fr_bounds hb
  ((refine gga0 ?_))
  ((repeat refine AW_seq ?_); (refine wta ?_); simp (disch := omega) only [retQ, resD, oneD, rsv, rs, rsL, rsL_eq_map, List.map_map, bb, bt, zDs, zD, eqCells, simprocAttr, Try.results206])
theorem refSub (a b : Int × Int) (ha : vfrac a.1 a.2 = true) (hb : vfrac b.1 b.2 = true) : PRet Try.prog 133 [frD a, frD b] (fe (subP a b)) := by
  refine PRet.intro 1 fun t => ACall.enter tab_ok Try.func133 rfl rfl Try.ntmps133 (by simp) ?_
  simp only [enterTM]
  have hN := refNeg b hb
  have hA := refAdd a (-b.1, b.2) ha (vfrac_neg hb)
  have e : subP a b = addR a (-b.1, b.2) := by unfold subP; rw [if_pos ⟨ha, hb⟩]
  rw [← e] at hA
  ((refine gga0 ?_))
  ((repeat refine AW_seq ?_); (refine gdza2 hN hA ?_))
  ((repeat refine AW_seq ?_); (refine wta ?_); simp (disch := omega) only [retQ, resD, oneD, rsv, rs, rsL, rsL_eq_map, List.map_map, bb, bt, zDs, zD, eqCells, simprocAttr, Try.results133])
theorem subP_valid {a b : Int × Int} (ha : vfrac a.1 a.2 = true) (hb : vfrac b.1 b.2 = true) (h : (subP a b).2 = 0) : vfrac (subP a b).1.1 (subP a b).1.2 = true := by
  unfold subP at h ⊢
  rw [if_pos ⟨ha, hb⟩] at h ⊢
  exact addR_valid ha (vfrac_neg hb) h
theorem of11 (n : Int) : PRet Try.prog 128 [int n] (frD (n, 1)) := by
  refine PRet.intro 1 fun t => ACall.enter tab_ok Try.func128 rfl rfl Try.ntmps128 (by simp) ?_
  simp only [enterTM]
  ((refine gga0 ?_))
  ((repeat refine AW_seq ?_); (refine wta ?_); simp (disch := omega) only [retQ, resD, oneD, rsv, rs, rsL, rsL_eq_map, List.map_map, bb, bt, zDs, zD, eqCells, simprocAttr, Try.results128])
def plusP (s : Int × Int) (n : Int) (f : Int × Int) : (Int × Int) × Int := if (mulP (n, 1) f).2 = 0 then addP s (mulP (n, 1) f).1 else ((0, 0), (mulP (n, 1) f).2)
theorem plus11 (s : Int × Int) (n : Int) (f : Int × Int) : PRet Try.prog 129 [frD s, int n, frD f] (fe (plusP s n f)) := by
  refine PRet.intro 1 fun t => ACall.enter tab_ok Try.func129 rfl rfl Try.ntmps129 (by simp) ?_
  simp only [enterTM]
  have hO := of11 n
  have hM := rMul (n, 1) f
  have e : plusP s n f = if (mulP (n, 1) f).2 = 0 then addP s (mulP (n, 1) f).1 else ((0, 0), (mulP (n, 1) f).2) := rfl
  generalize mulP (n, 1) f = y at *
  have hA := rAdd s y.1
  ((refine gga0 ?_))
  ((repeat refine AW_seq ?_); (refine gdoa2_SN hO hM ?_))
  cases hy : (y.2 == 0)
  · have hy' : (y.2 != 0) = true := by simpa using hy
    rw [if_neg (by simpa using hy)] at e
    ((refine ggb0 hy' ?_))
    ((repeat refine AW_seq ?_); (refine wta ?_); simp (disch := omega) only [retQ, resD, oneD, rsv, rs, rsL, rsL_eq_map, List.map_map, bb, bt, zDs, zD, eqCells, simprocAttr, Try.results129, e])
  · have hy' : (y.2 != 0) = false := by simpa using hy
    rw [if_pos (by simpa using hy)] at e
    rw [← e] at hA
    ((refine ggb1 hy' hA ?_))
    ((repeat refine AW_seq ?_); (refine wta ?_); simp (disch := omega) only [retQ, resD, oneD, rsv, rs, rsL, rsL_eq_map, List.map_map, bb, bt, zDs, zD, eqCells, simprocAttr, Try.results129])
theorem dotF_plus {r : List Int} {x : List (Int × Int)} {k : Nat} {n : Int} {f : Int × Int} (hr : r[k]? = some n) (hx : x[k]? = some f) (s : Int × Int) : dotF (r.drop k) (x.drop k) s = if (plusP s n f).2 = 0 then dotF (r.drop (k + 1)) (x.drop (k + 1)) (plusP s n f).1 else ((0, 0), (plusP s n f).2) := by
  rw [dotF_step hr hx]
  unfold plusP
  split
  · rfl
  · rfl
theorem plusP_valid {s f : Int × Int} {n : Int} (hs : vfrac s.1 s.2 = true) (hf : vfrac f.1 f.2 = true) (hn : -1000 ≤ n ∧ n ≤ 1000) (h : (plusP s n f).2 = 0) : vfrac (plusP s n f).1.1 (plusP s n f).1.2 = true := by
  have h1 : vfrac n 1 = true := vfrac_one (by omega)
  unfold plusP at h ⊢
  split at h
  · rename_i h2
    rw [if_pos h2]
    rw [mulP_ok h1 hf] at *
    have hv := mulR_valid (a := (n, 1)) h1 hf h2
    rw [addP_ok hs hv] at *
    exact addR_valid hs hv h
  · rename_i h2; exact absurd h h2
theorem allV_at {l : List (Int × Int)} {k : Nat} {f : Int × Int} (h : allV l = true) (hk : l[k]? = some f) : vfrac f.1 f.2 = true := by
  unfold allV at h
  rw [List.all_eq_true] at h
  exact h f (List.mem_of_getElem? hk)
theorem allV_any (l : List (Int × Int)) : (l.any fun x => !vfrac x.1 x.2) = !allV l := by
  unfold allV
  induction l with
  | nil => rfl
  | cons x l ih => simp only [List.any_cons, List.all_cons, ih, Bool.not_and]
set_option maxHeartbeats 1000000 in
theorem sum_ref (a : List Int) (l : List (Int × Int)) (hl : l.length ≤ 1000) (hal : l.length ≤ a.length) (hla : a.length ≤ 1000) (ha : ∀ x ∈ a, -1000 ≤ x ∧ x ≤ 1000) (hv : allV l = true) : PRet Try.prog 131 [ints a, frs l] (fe (dotF a l (0, 1))) := by
  refine PRet.intro 1 fun t => ACall.enter tab_ok Try.func131 rfl rfl Try.ntmps131 (by simp) ?_
  simp only [enterTM]
  have hfl := frC_len l
  have hf2 : (frC l).length / 2 = l.length := by omega
  have hO := refOf 0
  ((refine gga1 hO ?_))
  ((repeat refine AW_seq ?_))
  refine AW_block ?_
  refine AW_loop_w (fun x : (Int × Int) × Nat × Nat => ⟨[(0, ints a), (1, frs l), (4, .ptr 0 (t + 1) 0), (6, .ptr 1 (t + 1 + 1) 0), (7, int x.2.1)], [some ⟨33, t + 1, [int 0, int 0]⟩, some ⟨33, t + 1 + 1, [int x.1.1, int x.1.2]⟩], x.2.2⟩) (fun x => l.length - x.2.1) (fun x => x.2.1 ≤ l.length ∧ vfrac x.1.1 x.1.2 = true ∧ dotF a l (0, 1) = dotF (a.drop x.2.1) (l.drop x.2.1) x.1) ((0, 1), 0, t + 1 + 1) ⟨Nat.zero_le _, (show vfrac 0 1 = true by decide), rfl⟩ (by (simp (disch := omega) only [StLe, tmLe, hpLe_refl, hpLe, bl, bb, bt, zDs, zD, eqCells, simprocAttr])) ?_
  rintro ⟨s, k, tt⟩ ⟨hk, hs, hd⟩
  simp only at hk hs hd
  by_cases hlt : k < l.length
  · obtain ⟨f, hf⟩ : ∃ y, l[k]? = some y := ⟨_, List.getElem?_eq_getElem hlt⟩
    obtain ⟨n, hn⟩ : ∃ y, a[k]? = some y := ⟨_, List.getElem?_eq_getElem (by omega)⟩
    have hka : k < a.length := by omega
    have hvf := allV_at hv hf
    have hnb := ha n (List.mem_of_getElem? hn)
    have h1 : vfrac n 1 = true := vfrac_one (by omega)
    have hra := frC_read l k f hf
    have hO2 := refOf n
    have hT := refTimes (n, 1) f h1 hvf
    rw [dotF_plus hn hf] at hd
    have hpv := plusP_valid hs hvf hnb
    unfold plusP at hd hpv
    rw [mulP_ok (a := (n, 1)) h1 hvf] at hd hpv
    have hmv := mulR_valid (a := (n, 1)) h1 hvf
    generalize mulR (n, 1) f = y at *
    ((refine ggb0 (F := _∧_∧_) ⟨@Int.ofNat_lt, hlt, hf2⟩ ?_))
    ((repeat refine AW_seq ?_))
    refine AW_block ?_
    ((repeat refine AW_seq ?_); (refine gdob2 (F := _∧_∧_∧_∧_) ⟨hka, hlt, hf2, hn, hra⟩ hO2 hT ?_))
    cases hy : (y.2 == 0)
    · have hy' : (y.2 != 0) = true := by simpa using hy
      have hy0 : ¬ y.2 = 0 := by simpa using hy
      rw [if_neg hy0, if_neg hy0] at hd
      ((refine ggb0 hy' ?_))
      ((repeat refine AW_seq ?_); (refine wta ?_); simp (disch := omega) only [retQ, resD, oneD, rsv, rs, rsL, rsL_eq_map, List.map_map, bb, bt, zDs, zD, eqCells, simprocAttr, Try.results131, hd])
    have hy' : (y.2 != 0) = false := by simpa using hy
    have hy0 : y.2 = 0 := by simpa using hy
    rw [if_pos hy0] at hd hpv
    have hv2 := hmv hy0
    have hA := refAdd s y.1 hs hv2
    rw [addP_ok hs hv2] at hd hpv
    generalize addR s y.1 = z at *
    cases hz : (z.2 == 0)
    · have hz' : (z.2 != 0) = true := by simpa using hz
      rw [if_neg (by simpa using hz)] at hd
      ((refine ggb1 (F := _∧_) ⟨hy', hz'⟩ hA ?_))
      ((repeat refine AW_seq ?_); (refine wta ?_); simp (disch := omega) only [retQ, resD, oneD, rsv, rs, rsL, rsL_eq_map, List.map_map, bb, bt, zDs, zD, eqCells, simprocAttr, Try.results131, hd])
    have hz' : (z.2 != 0) = false := by simpa using hz
    have hz0 : z.2 = 0 := by simpa using hz
    rw [if_pos hz0] at hd
    ((refine ggb1 (F := _∧_) ⟨hy', hz'⟩ hA ?_))
    refine ⟨(z.1, k + 1, tt + 1), ⟨hlt, hpv hz0, hd⟩, by show l.length - (k + 1) < l.length - k; omega, ?_⟩
    (simp (disch := omega) only [StLe, tmLe, hpLe_refl, hpLe, bl, bb, bt, zDs, zD, eqCells, simprocAttr])
  · have hke : k = l.length := by omega
    subst hke
    have hde : dotF (a.drop l.length) (l.drop l.length) s = (s, 0) := by
      have hdn : l.drop l.length = [] := by simp
      rw [hdn]
      cases a.drop l.length <;> rfl
    rw [hde] at hd
    ((refine ggb0 (F := _∧_) ⟨@Int.lt_irrefl, hf2⟩ ?_))
    ((repeat refine AW_seq ?_); (refine wta ?_); simp (disch := omega) only [retQ, resD, oneD, rsv, rs, rsL, rsL_eq_map, List.map_map, bb, bt, zDs, zD, eqCells, simprocAttr, Try.results131, hd])

/-! What is given. -/
def givE (s : Sy) (l : List (Int × Int)) : Int := if validS s = true ∧ allV l = true then (if l.length = s.rs.length then 0 else 3) else 1
theorem given1 (x : Int × Int) : PRet Try.prog 205 [frD x] (bool (!vfrac x.1 x.2)) := by
  refine PRet.intro 1 fun t => ACall.enter tab_ok Try.func205 rfl rfl Try.ntmps205 (by simp) ?_
  simp only [enterTM]
  have hc := rValid x.1 x.2
  ((refine gga1 hc ?_))
  ((repeat refine AW_seq ?_); (refine wta ?_); simp (disch := omega) only [retQ, resD, oneD, rsv, rs, rsL, rsL_eq_map, List.map_map, bb, bt, zDs, zD, eqCells, simprocAttr, Try.results205])
theorem given11 (s : Sy) (hf : Fits s) (l : List (Int × Int)) (hl : l.length ≤ 1000000) : PRet Try.prog 127 [syD s, frs l] (.tup (if givE s l = 0 then [mat (matS s), int 0] else [ints [], int (givE s l)])) := by
  refine PRet.intro 1 fun t => ACall.enter tab_ok Try.func127 rfl rfl Try.ntmps127 (by simp) ?_
  simp only [enterTM]
  have hfl := frC_len l
  have hf2 : (frC l).length / 2 = l.length := by omega
  have hdr := rpC_div s.rs
  have hM := matrix_prog s hf
  have hC := containsFuncFr l 205 [] (fun x => !vfrac x.1 x.2) hl (fun x _ => given1 x)
  rw [allV_any] at hC
  cases hv : validS s
  · rw [hv] at hM
    simp only [Bool.false_eq_true, if_false] at hM
    have e : givE s l = 1 := by simp [givE, hv]
    ((refine gga1 hM ?_))
    ((repeat refine AW_seq ?_); (refine wta ?_); simp (disch := omega) only [retQ, resD, oneD, rsv, rs, rsL, rsL_eq_map, List.map_map, bb, bt, zDs, zD, eqCells, simprocAttr, Try.results127, e])
    rfl
  rw [hv] at hM
  simp only [if_true] at hM
  cases ha : allV l
  · rw [ha] at hC
    have e : givE s l = 1 := by simp [givE, ha]
    ((refine gga2 hM hC ?_))
    ((repeat refine AW_seq ?_); (refine wta ?_); simp (disch := omega) only [retQ, resD, oneD, rsv, rs, rsL, rsL_eq_map, List.map_map, bb, bt, zDs, zD, eqCells, simprocAttr, Try.results127, e])
    rfl
  rw [ha] at hC
  by_cases hz : l.length = s.rs.length
  · have e : givE s l = 0 := by simp [givE, hv, ha, hz]
    have en : ((l.length : Int) != (s.rs.length : Int)) = false := by simp [hz]
    rw [if_pos e]
    ((refine ggb2 (F := _∧_∧_) ⟨hf2, hdr, en⟩ hM hC ?_))
    ((repeat refine AW_seq ?_); (refine wta ?_); simp (disch := omega) only [retQ, resD, oneD, bb, bt, zDs, zD, eqCells, simprocAttr, Try.results127])
    refine rsv_tidy _ _ ?_
    have := tidy_mat (matS s)
    simp only [tidyD, tidyL, Bool.not_false, Bool.and_true, Bool.true_and] at this ⊢
    exact this
  · have e : givE s l = 3 := by simp [givE, hv, ha, hz]
    have en : ((l.length : Int) != (s.rs.length : Int)) = true := by simpa using fun h => hz (by omega)
    ((refine ggb2 (F := _∧_∧_) ⟨hf2, hdr, en⟩ hM hC ?_))
    ((repeat refine AW_seq ?_); (refine wta ?_); simp (disch := omega) only [retQ, resD, oneD, rsv, rs, rsL, rsL_eq_map, List.map_map, bb, bt, zDs, zD, eqCells, simprocAttr, Try.results127, e])
    rfl
theorem given_ref (s : Sy) (hf : Fits s) (l : List (Int × Int)) (hl : l.length ≤ 1000000) : PRet Try.prog 130 [syD s, frs l] (int (givE s l)) := by
  refine PRet.intro 1 fun t => ACall.enter tab_ok Try.func130 rfl rfl Try.ntmps130 (by simp) ?_
  simp only [enterTM]
  have hfl := frC_len l
  have hf2 : (frC l).length / 2 = l.length := by omega
  have hdr := rpC_div s.rs
  have hV := valid_ref s hf
  have hA := refAll l hl
  cases hv : validS s
  · rw [hv] at hV
    have e : givE s l = 1 := by simp [givE, hv]
    ((refine gga1 hV ?_))
    ((repeat refine AW_seq ?_); (refine wta ?_); simp (disch := omega) only [retQ, resD, oneD, rsv, rs, rsL, rsL_eq_map, List.map_map, bb, bt, zDs, zD, eqCells, simprocAttr, Try.results130, e])
  rw [hv] at hV
  cases ha : allV l
  · rw [ha] at hA
    have e : givE s l = 1 := by simp [givE, ha]
    ((refine gga2 hV hA ?_))
    ((repeat refine AW_seq ?_); (refine wta ?_); simp (disch := omega) only [retQ, resD, oneD, rsv, rs, rsL, rsL_eq_map, List.map_map, bb, bt, zDs, zD, eqCells, simprocAttr, Try.results130, e])
  rw [ha] at hA
  by_cases hz : l.length = s.rs.length
  · have e : givE s l = 0 := by simp [givE, hv, ha, hz]
    have en : ((l.length : Int) != (s.rs.length : Int)) = false := by simp [hz]
    ((refine ggb2 (F := _∧_∧_) ⟨hf2, hdr, en⟩ hV hA ?_))
    ((repeat refine AW_seq ?_); (refine wta ?_); simp (disch := omega) only [retQ, resD, oneD, rsv, rs, rsL, rsL_eq_map, List.map_map, bb, bt, zDs, zD, eqCells, simprocAttr, Try.results130, e])
  · have e : givE s l = 3 := by simp [givE, hv, ha, hz]
    have en : ((l.length : Int) != (s.rs.length : Int)) = true := by simpa using fun h => hz (by omega)
    ((refine ggb2 (F := _∧_∧_) ⟨hf2, hdr, en⟩ hV hA ?_))
    ((repeat refine AW_seq ?_); (refine wta ?_); simp (disch := omega) only [retQ, resD, oneD, rsv, rs, rsL, rsL_eq_map, List.map_map, bb, bt, zDs, zD, eqCells, simprocAttr, Try.results130, e])
end Go.Proofs.Ythabldkbiedfmaa.T

namespace Go.Proofs.Ythabldkbiedfmaa.T
open Go Go.RowKit Lin
set_option linter.unusedSimpArgs false

/-! The total of tensions. -/
def pulN (m : List (List Int)) (k i : Nat) : Int := ((m.take i).map fun r => r.getD k 0).sum
def colS (m : List (List Int)) (w : Nat) : List Int := (List.range w).map fun k => pulN m k m.length
theorem pulN_zero (m : List (List Int)) (k : Nat) : pulN m k 0 = 0 := by simp [pulN]
theorem pulN_step {m : List (List Int)} {k i : Nat} {r : List Int} {n : Int} (hr : m[i]? = some r) (hn : r[k]? = some n) : pulN m k (i + 1) = pulN m k i + n := by
  unfold pulN
  rw [List.take_add_one, hr]
  simp [List.getD, hn]
theorem pulN_le {m : List (List Int)} {k : Nat} (h : ∀ r ∈ m, ∀ x ∈ r, -32 ≤ x ∧ x ≤ 32) (hk : ∀ r ∈ m, k < r.length) : ∀ i, i ≤ m.length → -32 * (i : Int) ≤ pulN m k i ∧ pulN m k i ≤ 32 * (i : Int)
  | 0, _ => by rw [pulN_zero]; omega
  | i + 1, hi => by
    obtain ⟨r, hr⟩ : ∃ r, m[i]? = some r := ⟨_, List.getElem?_eq_getElem (by omega)⟩
    have hm := List.mem_of_getElem? hr
    obtain ⟨n, hn⟩ : ∃ n, r[k]? = some n := ⟨_, List.getElem?_eq_getElem (hk r hm)⟩
    have hb := h r hm n (List.mem_of_getElem? hn)
    have ih := pulN_le h hk i (by omega)
    rw [pulN_step hr hn]
    omega
theorem colS_at {m : List (List Int)} {w k : Nat} (h : k < w) : (colS m w)[k]? = some (pulN m k m.length) := by
  unfold colS
  rw [List.getElem?_map, List.getElem?_range h]
  rfl
theorem givE_zero {s : Sy} {l : List (Int × Int)} (h : givE s l = 0) : validS s = true ∧ allV l = true ∧ l.length = s.rs.length := by
  unfold givE at h
  split at h
  · rename_i h1
    split at h
    · rename_i h2; exact ⟨h1.1, h1.2, h2⟩
    · cases h
  · cases h
def totP (s : Sy) (l : List (Int × Int)) : (Int × Int) × Int := if givE s l = 0 then dotF (colS (matS s) s.rs.length) l (0, 1) else ((0, 0), givE s l)
set_option maxHeartbeats 2000000 in
theorem total_prog (s : Sy) (hf : Fits s) (l : List (Int × Int)) (hl : l.length ≤ 1000000) : PRet Try.prog 39 [syD s, frs l] (fe (totP s l)) := by
  refine PRet.intro 1 fun t => ACall.enter tab_ok Try.func39 rfl rfl Try.ntmps39 (by simp) ?_
  simp only [enterTM]
  have hfl := frC_len l
  have hf2 : (frC l).length / 2 = l.length := by omega
  have hG := given11 s hf l hl
  by_cases hg : givE s l = 0
  rotate_left 1
  · have e : totP s l = ((0, 0), givE s l) := by simp [totP, hg]
    rw [if_neg hg] at hG
    have hg' : (givE s l != 0) = true := by simpa using hg
    ((refine ggb1 hg' hG ?_))
    ((repeat refine AW_seq ?_); (refine wta ?_); simp (disch := omega) only [retQ, resD, oneD, rsv, rs, rsL, rsL_eq_map, List.map_map, bb, bt, zDs, zD, eqCells, simprocAttr, Try.results39, e])
  rw [if_pos hg] at hG
  have e : totP s l = dotF (colS (matS s) s.rs.length) l (0, 1) := by simp [totP, hg]
  obtain ⟨hv, ha, hz⟩ := givE_zero hg
  have ok := validS_ok hv
  obtain ⟨m1, m2, m3⟩ := validP_iff.1 ok.mat_valid
  have mw := ok.mat_wid
  have ml := ok.mat_len
  rw [← hz] at e
  have hll : l.length = wid (matS s) := by omega
  rw [e]
  clear e hg ok hf hv hz mw ml
  generalize matS s = m at *
  have hO := of11 0
  ((refine gga2 hG hO ?_))
  ((repeat refine AW_seq ?_))
  refine AW_block ?_
  refine AW_loop_w (fun x : (Int × Int) × Nat × Nat => ⟨[(4, .ptr 1 (t + 1 + 1) 0), (6, mat m), (8, .ptr 2 (t + 1 + 1 + 1) 0), (24, frs l), (25, int l.length), (26, int x.2.1)], [none, some ⟨33, t + 1 + 1, [int 0, int 0]⟩, some ⟨33, t + 1 + 1 + 1, [int x.1.1, int x.1.2]⟩], x.2.2⟩) (fun x => l.length - x.2.1) (fun x => x.2.1 ≤ l.length ∧ vfrac x.1.1 x.1.2 = true ∧ dotF (colS m l.length) l (0, 1) = dotF ((colS m l.length).drop x.2.1) (l.drop x.2.1) x.1) ((0, 1), 0, t + 1 + 1 + 1) ⟨Nat.zero_le _, (show vfrac 0 1 = true by decide), rfl⟩ (by (simp (disch := omega) only [StLe, tmLe, hpLe_refl, hpLe, bl, bb, bt, zDs, zD, eqCells, simprocAttr, hf2])) ?_
  rintro ⟨c, k, tt⟩ ⟨hk, hs, hd⟩
  simp only at hk hs hd
  by_cases hlt : k < l.length
  · obtain ⟨f, hfk⟩ : ∃ y, l[k]? = some y := ⟨_, List.getElem?_eq_getElem hlt⟩
    have hvf := allV_at ha hfk
    have hra := frC_read l k f hfk
    have hkr : ∀ r ∈ m, k < r.length := fun r hr => by rw [(m3 r hr).1]; omega
    have hpb := pulN_le (k := k) (fun r hr => (m3 r hr).2) hkr
    have hpe := hpb m.length (Nat.le_refl _)
    rw [dotF_plus (colS_at hlt) hfk] at hd
    have hpv := plusP_valid hs hvf (n := pulN m k m.length) (by omega)
    have hP := plus11 c (pulN m k m.length) f
    generalize plusP c (pulN m k m.length) f = z at *
    ((refine ggb0 (F := _∧_) ⟨@Int.ofNat_lt, hlt⟩ ?_))
    ((repeat refine AW_seq ?_))
    refine AW_block ?_
    ((refine ggb0 (F := _∧_∧_) ⟨hlt, hf2, hra⟩ ?_))
    ((repeat refine AW_seq ?_))
    refine AW_block ?_
    refine AW_loop_w (fun x : Nat × Nat => ⟨[(4, .ptr 1 (t + 1 + 1) 0), (6, mat m), (8, .ptr 2 (t + 1 + 1 + 1) 0), (9, int k), (10, .ptr 3 (tt + 1) 0), (11, int (pulN m k x.1)), (24, frs l), (25, int l.length), (26, int k), (31, mat m), (32, int m.length), (33, int x.1)], [none, some ⟨33, t + 1 + 1, [int 0, int 0]⟩, some ⟨33, t + 1 + 1 + 1, [int c.1, int c.2]⟩, some ⟨33, tt + 1, [int f.1, int f.2]⟩], x.2⟩) (fun x => m.length - x.1) (fun x => x.1 ≤ m.length) (0, tt + 1) (Nat.zero_le _) (by (simp (disch := omega) only [StLe, tmLe, hpLe_refl, hpLe, bl, bb, bt, zDs, zD, eqCells, simprocAttr, pulN_zero])) ?_
    rintro ⟨i, t2⟩ hi
    simp only at hi
    by_cases hli : i < m.length
    · obtain ⟨r, hr⟩ : ∃ y, m[i]? = some y := ⟨_, List.getElem?_eq_getElem hli⟩
      have hrk := hkr r (List.mem_of_getElem? hr)
      obtain ⟨n, hn⟩ : ∃ y, r[k]? = some y := ⟨_, List.getElem?_eq_getElem hrk⟩
      have hst := pulN_step hr hn
      have hb1 := hpb i hi
      have hb2 := (m3 r (List.mem_of_getElem? hr)).2 n (List.mem_of_getElem? hn)
      ((refine ggb0 (F := _∧_) ⟨@Int.ofNat_lt, hli⟩ ?_))
      ((repeat refine AW_seq ?_))
      refine AW_block ?_
      ((refine ggb0 (F := _∧_∧_∧_∧_) ⟨hli, hlt, hr, hn, hrk⟩ ?_))
      refine ⟨(i + 1, t2), hli, by show m.length - (i + 1) < m.length - i; omega, ?_⟩
      simp only [hst]
      (simp (disch := omega) only [StLe, tmLe, hpLe_refl, hpLe, bl, bb, bt, zDs, zD, eqCells, simprocAttr])
    have hie : i = m.length := by omega
    subst hie
    cases hz : (z.2 == 0)
    · have hz' : (z.2 != 0) = true := by simpa using hz
      rw [if_neg (by simpa using hz)] at hd
      ((refine ggb1 (F := _∧_) ⟨@Int.lt_irrefl, hz'⟩ hP ?_))
      ((repeat refine AW_seq ?_); (refine wta ?_); simp (disch := omega) only [retQ, resD, oneD, rsv, rs, rsL, rsL_eq_map, List.map_map, bb, bt, zDs, zD, eqCells, simprocAttr, Try.results39, hd])
    have hz' : (z.2 != 0) = false := by simpa using hz
    have hz0 : z.2 = 0 := by simpa using hz
    rw [if_pos hz0] at hd
    ((refine ggb1 (F := _∧_) ⟨@Int.lt_irrefl, hz'⟩ hP ?_))
    refine ⟨(z.1, k + 1, t2), ⟨hlt, hpv hz0, hd⟩, by show l.length - (k + 1) < l.length - k; omega, ?_⟩
    (simp (disch := omega) only [StLe, tmLe, hpLe_refl, hpLe, bl, bb, bt, zDs, zD, eqCells, simprocAttr])
  · have hke : k = l.length := by omega
    subst hke
    have hde : dotF ((colS m l.length).drop l.length) (l.drop l.length) c = (c, 0) := by
      have hdn : l.drop l.length = [] := by simp
      rw [hdn]
      cases (colS m l.length).drop l.length <;> rfl
    rw [hde] at hd
    ((refine ggb0 @Int.lt_irrefl ?_))
    ((repeat refine AW_seq ?_); (refine wta ?_); simp (disch := omega) only [retQ, resD, oneD, rsv, rs, rsL, rsL_eq_map, List.map_map, bb, bt, zDs, zD, eqCells, simprocAttr, Try.results39, hd])
end Go.Proofs.Ythabldkbiedfmaa.T

