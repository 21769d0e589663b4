import Derived.Test.YtcppnmohgaobdaaGreatRMGKALW
import Derived.Test.YtcppnmohgaobdaaGreatRVJAVP
import Derived.Test.YtcppnmohgaobdaaGreatRTB
import Derived.Test.YtcppnmohgaobdaaGreatRTTab
import Derived.Test.YtcppnmohgaobdaaGreatRTN
import Derived.Shelf.SlicesE.Delete
import Derived.Test.YtcppnmohgaobdaaGreatRSKMSNQ
import Derived.Test.YtcppnmohgaobdaaGreatRWN
import Derived.Test.YtcppnmohgaobdaaGreatRLHF
import Derived.Test.YtcppnmohgaobdaaGreatRWRS
set_option linter.all false
namespace Go.Proofs.YtcppnmohgaobdaaGreat.T
open Go Go.RowKit Lin
theorem gdoa2_ALG {C1 C2 P Q : Prop} (c1 : C1) (c2 : C2) (q : Q) (h : C1 → C2 → Q → P := by
  intro cc1 cc2 hq
  (try with_reducible intro KR hKR)
  (repeat refine AW_seq ?_); (repeat refine AW_seq ?_); (refine AW_drawn_k tab_ok follows_mixed 1 fun KR hKR => ?_); simp only [List.replicate_succ, List.replicate_zero, List.append_nil, List.nil_append, List.cons_append, List.length_cons, List.length_nil, Nat.reduceAdd]; (repeat' ((first | refine awD_n rfl fun KK hKK => ?_ | refine awD_g rfl rfl fun KK hKK => ?_ | refine awD_gc rfl fun KK hKK => ?_ | refine awD_nc fun KK hKK => ?_); simp (disch := omega) only [bb, bt, zDs, zD, eqCells, simprocAttr, bne_self_eq_false, Int.reduceBNe, Int.reduceBEq, Bool.bne_false, Bool.bne_true, Bool.false_bne, Bool.true_bne, goCDS, callDS_fn, argsZ, argsD, ufa, uf]; (try ((first | with_reducible refine PGive.ret (cc1) ?_ | with_reducible refine PGive.ret (cc2) ?_); simp (disch := omega) only [bb, bt, zDs, zD, eqCells, simprocAttr, afterDS, bne_self_eq_false, Int.reduceBNe, Int.reduceBEq, Bool.bne_false, Bool.bne_true, Bool.false_bne, Bool.true_bne])); refine hKK _ _ _ ?_; clear hKK KK)); (refine awD_nil ?_); simp only [List.reverse_cons, List.reverse_nil, List.nil_append, List.cons_append]; (refine hKR _ _ (by first | rfl | kernel_rfl) ?_); (try clear hKR KR); (repeat (with_reducible first | refine q1 ?_ | refine q2 ?_ | refine q3 ?_ | refine q4 ?_ | refine q5 ?_ | refine q6 ?_ | (refine q7 ?_ ?_; (focus (with_unfolding_all rfl)))))
  (first | exact hq | (revert hKR; revert KR; exact hq))) : P := h c1 c2 q
theorem gdob_ALG {F P Q : Prop} (f : F) (q : Q) (h : F → Q → P := by
  intro ff  hq
  (try with_reducible intro KR hKR)
  (repeat refine AW_seq ?_); (repeat refine AW_seq ?_); (refine AW_drawn_k tab_ok follows_mixed 1 fun KR hKR => ?_); simp only [List.replicate_succ, List.replicate_zero, List.append_nil, List.nil_append, List.cons_append, List.length_cons, List.length_nil, Nat.reduceAdd]; (repeat' ((first | refine awD_n rfl fun KK hKK => ?_ | refine awD_g rfl rfl fun KK hKK => ?_ | refine awD_gc rfl fun KK hKK => ?_ | refine awD_nc fun KK hKK => ?_); simp (disch := omega) only [bb, bt, zDs, zD, eqCells, simprocAttr, ff, bne_self_eq_false, Int.reduceBNe, Int.reduceBEq, Bool.bne_false, Bool.bne_true, Bool.false_bne, Bool.true_bne]; refine hKK _ _ _ ?_; clear hKK KK)); (refine awD_nil ?_); simp only [List.reverse_cons, List.reverse_nil, List.nil_append, List.cons_append]; (refine hKR _ _ (by first | rfl | kernel_rfl) ?_); (try clear hKR KR); (repeat (with_reducible first | refine q1 ?_ | refine q2 ?_ | refine q3 ?_ | refine q4 ?_ | refine q5 ?_ | refine q6 ?_ | (refine q7 ?_ ?_; (focus (with_unfolding_all rfl)))))
  (first | exact hq | (revert hKR; revert KR; exact hq))) : P := h f  q
theorem gripsA_step {r : Rp} {up : Bool} {bs : List Bk} {k : Nat} {b : Bk} (h : bs[k]? = some b) (acc : List (Int × Int)) : gripsA r up (bs.drop k) acc = if (gripP r up b.nm).2 = 0 then gripsA r up (bs.drop (k + 1)) (acc ++ [(gripP r up b.nm).1]) else ([], (gripP r up b.nm).2) := by
  rw [List.drop_eq_getElem_cons (List.getElem?_eq_some_iff.1 h).1, (List.getElem?_eq_some_iff.1 h).2]
  rfl
theorem gripA_step {n : Nat} {F : Nat → Int × Int} {nm : ByteArray} {hs : List Hd} {i : Nat} {h : Hd} (hx : hs[i]? = some h) (c : Int × Int) : gripA n F nm (hs.drop i) i c = if h.b = nm then (if (gripT n F i h).2 = 0 then (if (addP c (gripT n F i h).1).2 = 0 then gripA n F nm (hs.drop (i + 1)) (i + 1) (addP c (gripT n F i h).1).1 else ((0, 0), (addP c (gripT n F i h).1).2)) else ((0, 0), (gripT n F i h).2)) else gripA n F nm (hs.drop (i + 1)) (i + 1) c := by
  rw [List.drop_eq_getElem_cons (List.getElem?_eq_some_iff.1 hx).1, (List.getElem?_eq_some_iff.1 hx).2]
  rfl
set_option maxRecDepth 100000 in
set_option maxHeartbeats 16000000 in
theorem grips14 (s : Sy) (r : Rp) (up : Bool) (hr : rightR r = true) (hnb : s.bs.length ≤ 1000) (hp : ∀ h ∈ r.hs, -2 ≤ h.p ∧ h.p ≤ 2) : PRet Tryz.prog 53 [syD s, .agg (rp1 r), frs (facL r up (r.hs.length - 1))] (fse (gripsA r up s.bs [])) := by
  refine PRet.intro 1 fun t => ACall.enter tab_ok Tryz.func53 rfl rfl Tryz.ntmps53 (by simp) ?_
  simp only [enterTM]
  have hdb := bkC_div s.bs
  have hdh := hdC_div r.hs
  have hw0 := whole14 0
  obtain ⟨n2, n10⟩ := rightR_len hr
  have hWl := facL_len r up (r.hs.length - 1)
  have hWa := fun i => facL_at r up (k := r.hs.length - 1) (i := i)
  generalize facL r up (r.hs.length - 1) = W at *
  have hWd := frC_div W
  rw [hWl] at hWd
  have hz : frC [] = [] := rfl
  generalize hRR : gripsA r up s.bs [] = R
  ((refine ggb0 hdb ?_))
  refine AW.begin 8 2 27 rfl (by decide) ?_
  simp only [putTM, List.length_cons, List.length_nil, Nat.reduceEqDiff, ↓reduceIte, List.cons_append, List.nil_append]
  refine AW_mid (fun x : Nat × Nat => ⟨[(8, .own 2 2 x.1 0 R.1.length)], [none, none, some ⟨27, x.1, frC R.1⟩], x.2⟩) (fun _ => R.2 = 0) ?_ ?_
  · refine AW_block ?_
    refine AW_loop_w (fun x : List (Int × Int) × Nat × Nat × Nat => ⟨[(2, frs W), (3, .ptr 0 (t + 1) 0), (4, .ptr 1 (t + 1 + 1) 0), (8, .own 2 2 x.2.2.1 0 x.1.length), (19, bks s.bs), (20, int s.bs.length), (21, int x.2.1)], [some ⟨25, t + 1, [bks s.bs, rps s.rs]⟩, some ⟨40, t + 1 + 1, rp1 r⟩, some ⟨27, x.2.2.1, frC x.1⟩], x.2.2.2⟩) (fun x => s.bs.length - x.2.1) (fun x => x.2.1 ≤ s.bs.length ∧ x.1.length = x.2.1 ∧ gripsA r up (s.bs.drop x.2.1) x.1 = R) ([], 0, t + 1 + 1 + 1, t + 1 + 1 + 1) ⟨Nat.zero_le _, rfl, hRR⟩ (by (simp (disch := omega) only [StLe, tmLe, hpLe_refl, hpLe, bl, bb, bt, zDs, zD, eqCells, simprocAttr, hz, List.length_nil])) ?_
    rintro ⟨acc, k, g, tt⟩ ⟨hk, hak, hd0⟩
    simp only at hk hak hd0
    by_cases hlt : k < s.bs.length
    · obtain ⟨b, hb⟩ : ∃ y, s.bs[k]? = some y := ⟨_, List.getElem?_eq_getElem hlt⟩
      have hra := bkC_read s.bs k b hb
      rw [gripsA_step hb] at hd0
      have hGd : gripA r.hs.length (facK r.hs up) b.nm r.hs 0 (0, 1) = gripP r up b.nm := rfl
      generalize gripP r up b.nm = G at *
      have hbad : G.2 ≠ 0 → R = ([], G.2) := fun h => by rw [← hd0, if_neg h]
      have hal := frC_len acc
      ((refine ggb0 (F := _∧_) ⟨@Int.ofNat_lt, hlt⟩ ?_))
      ((repeat refine AW_seq ?_))
      refine AW_block ?_
      ((refine ggb1 (F := _∧_∧_∧_) ⟨hlt, hdb, hra, hdh⟩ hw0 ?_))
      ((repeat refine AW_seq ?_))
      refine AW_mid (fun x : Nat => ⟨[(2, frs W), (3, .ptr 0 (t + 1) 0), (4, .ptr 1 (t + 1 + 1) 0), (8, .own 2 2 g 0 acc.length), (11, .ptr 4 (tt + 1 + 1) 0), (19, bks s.bs), (20, int s.bs.length), (21, int k)], [some ⟨25, t + 1, [bks s.bs, rps s.rs]⟩, some ⟨40, t + 1 + 1, rp1 r⟩, some ⟨27, g, frC acc⟩, none, some ⟨27, tt + 1 + 1, [int G.1.1, int G.1.2]⟩], x⟩) (fun _ => G.2 = 0) ?_ ?_
      · refine AW_block ?_
        refine AW_loop_w (fun x : (Int × Int) × Nat × Nat => ⟨[(2, frs W), (3, .ptr 0 (t + 1) 0), (4, .ptr 1 (t + 1 + 1) 0), (8, .own 2 2 g 0 acc.length), (10, .ptr 3 (tt + 1) 0), (11, .ptr 4 (tt + 1 + 1) 0), (19, bks s.bs), (20, int s.bs.length), (21, int k), (27, hds r.hs), (28, int r.hs.length), (29, int x.2.1)], [some ⟨25, t + 1, [bks s.bs, rps s.rs]⟩, some ⟨40, t + 1 + 1, rp1 r⟩, some ⟨27, g, frC acc⟩, some ⟨57, tt + 1, bk1 b⟩, some ⟨27, tt + 1 + 1, [int x.1.1, int x.1.2]⟩], x.2.2⟩) (fun x => r.hs.length - x.2.1) (fun x => x.2.1 ≤ r.hs.length ∧ gripA r.hs.length (facK r.hs up) b.nm (r.hs.drop x.2.1) x.2.1 x.1 = G) ((0, 1), 0, tt + 1 + 1) ⟨Nat.zero_le _, hGd⟩ (by (simp (disch := omega) only [StLe, tmLe, hpLe_refl, hpLe, bl, bb, bt, zDs, zD, eqCells, simprocAttr])) ?_
        rintro ⟨c, i, t2⟩ ⟨hi, hd⟩
        simp only at hi hd
        by_cases hlt2 : i < r.hs.length
        · obtain ⟨h, hx⟩ : ∃ y, r.hs[i]? = some y := ⟨_, List.getElem?_eq_getElem hlt2⟩
          have hrh := hdC_read r.hs i h hx
          have hpp := hp h (List.mem_of_getElem? hx)
          rw [gripA_step hx] at hd
          by_cases hnm : h.b = b.nm
          rotate_left 1
          · rw [if_neg hnm] at hd
            have en : decide (h.b = b.nm) = false := decide_eq_false hnm
            have en2 : (h.b == b.nm) = false := by simpa using hnm
            ((refine ggb0 (F := _∧_) ⟨@Int.ofNat_lt, hlt2⟩ ?_))
            ((repeat refine AW_seq ?_))
            refine AW_block ?_
            ((refine ggb0 (F := _∧_∧_∧_∧_∧_) ⟨hlt2, hdh, hrh, hnm, en, en2⟩ ?_))
            refine ⟨(c, i + 1, t2 + 1), ⟨hlt2, hd⟩, by show r.hs.length - (i + 1) < r.hs.length - i; omega, ?_⟩
            (simp (disch := omega) only [StLe, tmLe, hpLe_refl, hpLe, bl, bb, bt, zDs, zD, eqCells, simprocAttr])
          rw [if_pos hnm] at hd
          have en : decide (h.b = b.nm) = true := decide_eq_true hnm
          by_cases hi0 : i = 0
          · have hgt : gripT r.hs.length (facK r.hs up) i h = mulP (h.p, 1) (facK r.hs up 0) := by unfold gripT; rw [if_pos hi0]
            rw [hgt] at hd
            have hrf : ((frC W).drop (i * 2)).take 2 = [int (facK r.hs up 0).1, int (facK r.hs up 0).2] := by rw [hi0]; exact frC_read W 0 _ (hWa 0 (by omega))
            have hiW : i < r.hs.length - 1 := by omega
            have m0 : ¬ ((r.hs.length - 1 : Nat) : Int) - 1 < (i : Int) := by omega
            have c0 : ¬ (0 : Int) < (i : Int) := by omega
            generalize facK r.hs up 0 = f at *
            ((refine ggb0 (F := _∧_) ⟨@Int.ofNat_lt, hlt2⟩ ?_))
            ((repeat refine AW_seq ?_))
            refine AW_block ?_
            ((refine ggb0 (F := _∧_∧_∧_∧_) ⟨hlt2, hdh, hrh, hnm, en⟩ ?_))
            ((repeat refine AW_seq ?_); (refine gdob_ALG (F := _∧_∧_∧_) ⟨m0, hiW, hWd, hrf⟩ ?_))
            ((refine ggb0 c0 ?_))
            have hM := rMul (h.p, 1) f
            have hw := whole14 h.p
            generalize mulP (h.p, 1) f = M at *
            ((repeat refine AW_seq ?_); (refine gdoa2_ALG hw hM ?_))
            by_cases hm0 : M.2 = 0
            rotate_left 1
            · have e1 : (M.2 != 0) = true := by simpa using hm0
              rw [if_neg hm0] at hd
              have hR := hbad (by rw [← hd]; exact hm0)
              rw [hR, ← hd]
              ((refine ggb0 e1 ?_))
              ((repeat refine AW_seq ?_); (refine wta ?_); simp (disch := omega) only [retQ, resD, oneD, rsv, rs, rsL, rsL_eq_map, List.map_map, bb, bt, zDs, zD, eqCells, simprocAttr, Tryz.results53])
              rfl
            have e1 : (M.2 != 0) = false := by simpa using hm0
            rw [if_pos hm0] at hd
            have hA2 := rAdd c M.1
            generalize addP c M.1 = Q at *
            by_cases hq0 : Q.2 = 0
            rotate_left 1
            · have e2 : (Q.2 != 0) = true := by simpa using hq0
              rw [if_neg hq0] at hd
              have hR := hbad (by rw [← hd]; exact hq0)
              rw [hR, ← hd]
              ((refine ggb1 (F := _∧_) ⟨e1, e2⟩ hA2 ?_))
              ((repeat refine AW_seq ?_); (refine wta ?_); simp (disch := omega) only [retQ, resD, oneD, rsv, rs, rsL, rsL_eq_map, List.map_map, bb, bt, zDs, zD, eqCells, simprocAttr, Tryz.results53])
              rfl
            have e2 : (Q.2 != 0) = false := by simpa using hq0
            rw [if_pos hq0] at hd
            ((refine ggb1 (F := _∧_) ⟨e1, e2⟩ hA2 ?_))
            refine ⟨(Q.1, i + 1, t2 + 1 + 1 + 1), ⟨hlt2, hd⟩, by show r.hs.length - (i + 1) < r.hs.length - i; omega, ?_⟩
            (simp (disch := omega) only [StLe, tmLe, hpLe_refl, hpLe, bl, bb, bt, zDs, zD, eqCells, simprocAttr])
          by_cases hin : i + 1 = r.hs.length
          · have hgt : gripT r.hs.length (facK r.hs up) i h = mulP (h.p, 1) (facK r.hs up (r.hs.length - 2)) := by unfold gripT; rw [if_neg hi0, if_pos hin]
            rw [hgt] at hd
            have hrf := frC_read W (r.hs.length - 2) _ (hWa (r.hs.length - 2) (by omega))
            have hjW : r.hs.length - 2 < r.hs.length - 1 := by omega
            have m1 : ((r.hs.length - 1 : Nat) : Int) - 1 < (i : Int) := by omega
            have hsub : ((r.hs.length - 1 : Nat) : Int) - 1 = ((r.hs.length - 2 : Nat) : Int) := by omega
            have m2 : ((r.hs.length - 2 : Nat) : Int) < (i : Int) := by omega
            have c0 : (0 : Int) < (i : Int) := by omega
            have c1 : ¬ (i : Int) < (r.hs.length : Int) - 1 := by omega
            generalize facK r.hs up (r.hs.length - 2) = f at *
            ((refine ggb0 (F := _∧_) ⟨@Int.ofNat_lt, hlt2⟩ ?_))
            ((repeat refine AW_seq ?_))
            refine AW_block ?_
            ((refine ggb0 (F := _∧_∧_∧_∧_) ⟨hlt2, hdh, hrh, hnm, en⟩ ?_))
            ((repeat refine AW_seq ?_); (refine gdob_ALG (F := _∧_∧_∧_∧_) ⟨hsub, m2, hjW, hWd, hrf⟩ ?_))
            ((refine ggb0 (F := _∧_∧_) ⟨c0, c1, hdh⟩ ?_))
            have hM := rMul (h.p, 1) f
            have hw := whole14 h.p
            generalize mulP (h.p, 1) f = M at *
            ((repeat refine AW_seq ?_); (refine gdoa2_ALG hw hM ?_))
            by_cases hm0 : M.2 = 0
            rotate_left 1
            · have e1 : (M.2 != 0) = true := by simpa using hm0
              rw [if_neg hm0] at hd
              have hR := hbad (by rw [← hd]; exact hm0)
              rw [hR, ← hd]
              ((refine ggb0 e1 ?_))
              ((repeat refine AW_seq ?_); (refine wta ?_); simp (disch := omega) only [retQ, resD, oneD, rsv, rs, rsL, rsL_eq_map, List.map_map, bb, bt, zDs, zD, eqCells, simprocAttr, Tryz.results53])
              rfl
            have e1 : (M.2 != 0) = false := by simpa using hm0
            rw [if_pos hm0] at hd
            have hA2 := rAdd c M.1
            generalize addP c M.1 = Q at *
            by_cases hq0 : Q.2 = 0
            rotate_left 1
            · have e2 : (Q.2 != 0) = true := by simpa using hq0
              rw [if_neg hq0] at hd
              have hR := hbad (by rw [← hd]; exact hq0)
              rw [hR, ← hd]
              ((refine ggb1 (F := _∧_) ⟨e1, e2⟩ hA2 ?_))
              ((repeat refine AW_seq ?_); (refine wta ?_); simp (disch := omega) only [retQ, resD, oneD, rsv, rs, rsL, rsL_eq_map, List.map_map, bb, bt, zDs, zD, eqCells, simprocAttr, Tryz.results53])
              rfl
            have e2 : (Q.2 != 0) = false := by simpa using hq0
            rw [if_pos hq0] at hd
            ((refine ggb1 (F := _∧_) ⟨e1, e2⟩ hA2 ?_))
            refine ⟨(Q.1, i + 1, t2 + 1 + 1 + 1), ⟨hlt2, hd⟩, by show r.hs.length - (i + 1) < r.hs.length - i; omega, ?_⟩
            (simp (disch := omega) only [StLe, tmLe, hpLe_refl, hpLe, bl, bb, bt, zDs, zD, eqCells, simprocAttr])
          have hgt : gripT r.hs.length (facK r.hs up) i h = if (addP (facK r.hs up (i - 1)) (facK r.hs up i)).2 = 0 then mulP (h.p.tdiv 2, 1) (addP (facK r.hs up (i - 1)) (facK r.hs up i)).1 else ((0, 0), (addP (facK r.hs up (i - 1)) (facK r.hs up i)).2) := by unfold gripT; rw [if_neg hi0, if_neg hin]
          rw [hgt] at hd
          have hrf := frC_read W i _ (hWa i (by omega))
          have hrg := frC_read W (i - 1) _ (hWa (i - 1) (by omega))
          have hiW : i < r.hs.length - 1 := by omega
          have hiV : i - 1 < r.hs.length - 1 := by omega
          have m0 : ¬ ((r.hs.length - 1 : Nat) : Int) - 1 < (i : Int) := by omega
          have c0 : (0 : Int) < (i : Int) := by omega
          have c1 : (i : Int) < (r.hs.length : Int) - 1 := by omega
          have hs1 : (i : Int) - 1 = ((i - 1 : Nat) : Int) := by omega
          have hA := rAdd (facK r.hs up (i - 1)) (facK r.hs up i)
          have hq : -2 ≤ h.p.tdiv 2 ∧ h.p.tdiv 2 ≤ 2 := by
            rcases (show h.p = -2 ∨ h.p = -1 ∨ h.p = 0 ∨ h.p = 1 ∨ h.p = 2 by omega) with e | e | e | e | e <;> rw [e] <;> decide
          have hqw := wr64 (h.p.tdiv 2) (by omega)
          generalize addP (facK r.hs up (i - 1)) (facK r.hs up i) = Y at *
          generalize facK r.hs up (i - 1) = f1 at *
          generalize facK r.hs up i = f2 at *
          ((refine ggb0 (F := _∧_) ⟨@Int.ofNat_lt, hlt2⟩ ?_))
          ((repeat refine AW_seq ?_))
          refine AW_block ?_
          ((refine ggb0 (F := _∧_∧_∧_∧_) ⟨hlt2, hdh, hrh, hnm, en⟩ ?_))
          ((repeat refine AW_seq ?_); (refine gdob_ALG (F := _∧_∧_∧_) ⟨m0, hiW, hWd, hrf⟩ ?_))
          ((refine ggb0 (F := _∧_∧_) ⟨c0, c1, hdh⟩ ?_))
          ((repeat refine AW_seq ?_); (refine gdzb1 (F := _∧_∧_∧_∧_∧_) ⟨hs1, hiW, hiV, hWd, hrf, hrg⟩ hA ?_))
          by_cases hy0 : Y.2 = 0
          rotate_left 1
          · have e0 : (Y.2 != 0) = true := by simpa using hy0
            rw [if_neg hy0] at hd
            rw [if_neg hy0] at hd
            have hR := hbad (by rw [← hd]; exact hy0)
            rw [hR, ← hd]
            ((refine ggb0 (F := _∧_) ⟨e0, hqw⟩ ?_))
            ((repeat refine AW_seq ?_); (refine wta ?_); simp (disch := omega) only [retQ, resD, oneD, rsv, rs, rsL, rsL_eq_map, List.map_map, bb, bt, zDs, zD, eqCells, simprocAttr, Tryz.results53])
            rfl
          have e0 : (Y.2 != 0) = false := by simpa using hy0
          rw [if_pos hy0] at hd
          ((refine ggb0 (F := _∧_) ⟨e0, hqw⟩ ?_))
          obtain ⟨y, ye⟩ := Y
          simp only at *
          have hM := rMul ((h.p.tdiv 2), 1) y
          have hw := whole14 (h.p.tdiv 2)
          generalize mulP ((h.p.tdiv 2), 1) y = M at *
          ((repeat refine AW_seq ?_); (refine gdoa2_ALG hw hM ?_))
          by_cases hm0 : M.2 = 0
          rotate_left 1
          · have e1 : (M.2 != 0) = true := by simpa using hm0
            rw [if_neg hm0] at hd
            have hR := hbad (by rw [← hd]; exact hm0)
            rw [hR, ← hd]
            ((refine ggb0 e1 ?_))
            ((repeat refine AW_seq ?_); (refine wta ?_); simp (disch := omega) only [retQ, resD, oneD, rsv, rs, rsL, rsL_eq_map, List.map_map, bb, bt, zDs, zD, eqCells, simprocAttr, Tryz.results53])
            rfl
          have e1 : (M.2 != 0) = false := by simpa using hm0
          rw [if_pos hm0] at hd
          have hA2 := rAdd c M.1
          generalize addP c M.1 = Q at *
          by_cases hq0 : Q.2 = 0
          rotate_left 1
          · have e2 : (Q.2 != 0) = true := by simpa using hq0
            rw [if_neg hq0] at hd
            have hR := hbad (by rw [← hd]; exact hq0)
            rw [hR, ← hd]
            ((refine ggb1 (F := _∧_) ⟨e1, e2⟩ hA2 ?_))
            ((repeat refine AW_seq ?_); (refine wta ?_); simp (disch := omega) only [retQ, resD, oneD, rsv, rs, rsL, rsL_eq_map, List.map_map, bb, bt, zDs, zD, eqCells, simprocAttr, Tryz.results53])
            rfl
          have e2 : (Q.2 != 0) = false := by simpa using hq0
          rw [if_pos hq0] at hd
          ((refine ggb1 (F := _∧_) ⟨e1, e2⟩ hA2 ?_))
          refine ⟨(Q.1, i + 1, t2 + 1 + 1 + 1 + 1), ⟨hlt2, hd⟩, by show r.hs.length - (i + 1) < r.hs.length - i; omega, ?_⟩
          (simp (disch := omega) only [StLe, tmLe, hpLe_refl, hpLe, bl, bb, bt, zDs, zD, eqCells, simprocAttr])
        · have hie : i = r.hs.length := by omega
          subst hie
          have hde : gripA r.hs.length (facK r.hs up) b.nm (r.hs.drop r.hs.length) r.hs.length c = (c, 0) := by rw [List.drop_eq_nil_of_le (Nat.le_refl _)]; try rfl
          rw [hde] at hd
          subst hd
          ((refine wqb @Int.lt_irrefl ?_))
          ((refine wia ?_))
          ((refine wxa ?_))
          exact ⟨t2, rfl, by (simp (disch := omega) only [StLe, tmLe, hpLe_refl, hpLe, bl, bb, bt, zDs, zD, eqCells, simprocAttr])⟩
      rintro t3 hG
      rw [if_pos hG] at hd0
      have hap : frC acc ++ [int G.1.1, int G.1.2] = frC (acc ++ [G.1]) := by simp [frC]
      have hdv : (acc.length * 2 + 2) / 2 = acc.length + 1 := by omega
      ((refine ggb0 (F := _∧_∧_) ⟨hal, hap, hdv⟩ ?_))
      refine ⟨(acc ++ [G.1], k + 1, t3 + 1, t3 + 1), ⟨hlt, by simp [hak], hd0⟩, by show s.bs.length - (k + 1) < s.bs.length - k; omega, ?_⟩
      simp only [List.length_append, List.length_singleton]
      (simp (disch := omega) only [StLe, tmLe, hpLe_refl, hpLe, bl, bb, bt, zDs, zD, eqCells, simprocAttr])
    · have hke : k = s.bs.length := by omega
      subst hke
      have hde : gripsA r up (s.bs.drop s.bs.length) acc = (acc, 0) := by rw [List.drop_eq_nil_of_le (Nat.le_refl _)]; try rfl
      rw [hde] at hd0
      subst hd0
      ((refine wqb @Int.lt_irrefl ?_))
      ((refine wia ?_))
      ((refine wxa ?_))
      exact ⟨(g, tt), rfl, by (simp (disch := omega) only [StLe, tmLe, hpLe_refl, hpLe, bl, bb, bt, zDs, zD, eqCells, simprocAttr])⟩
  rintro ⟨g, tt⟩ hR
  obtain ⟨L, e⟩ := R
  simp only at hR
  subst hR
  have hlw := frC_len L
  have hfin : List.take (L.length * 2) (frC L) = frC L := List.take_of_length_le (by omega)
  ((refine AW.freeze (2) (by first | rfl | (simp only [setH, List.getElem?_cons_zero, List.getElem?_cons_succ, fz_hd, fz_frS, hfin, hlw, Nat.le_refl]; done)) ?_); simp (disch := omega) only [fzT, fz, fzL, fzL_ints, fzL_mat, fzH, fzB, eq_self, bb, bt, zDs, zD, eqCells, simprocAttr, fz_hd, fz_frS, hfin, hlw, Nat.le_refl])
  ((refine gga0 ?_))
  ((repeat refine AW_seq ?_); (refine wta ?_); simp (disch := omega) only [retQ, resD, oneD, bb, bt, zDs, zD, eqCells, simprocAttr, Tryz.results53])
  exact rsv_tidy _ _ (by simp only [tidyD, tidyL, tidy_fr, Bool.not_false, Bool.and_self])
end Go.Proofs.YtcppnmohgaobdaaGreat.T

section
namespace Go.Proofs.YtcppnmohgaobdaaGreat.T
open Go Go.RowKit
end Go.Proofs.YtcppnmohgaobdaaGreat.T
end
section
namespace Go.Proofs.YtcppnmohgaobdaaGreat.T
open Go Go.RowKit Go.Shelf Go.Sort
end Go.Proofs.YtcppnmohgaobdaaGreat.T
end
section
namespace Go.Proofs.YtcppnmohgaobdaaGreat.T
open Go Go.RowKit Lin
def fixB (rs : List Rp) (but : Int) (i : Nat) : Bool := (match rs[i]? with | some r => !r.hl | none => false) && !((i : Int) == but)
def fixP (rs : List Rp) (but : Int) (k : Nat) : List Nat := (List.range k).filter (fixB rs but)
theorem fixP_step {rs : List Rp} {but : Int} {k : Nat} {r : Rp} (hr : rs[k]? = some r) : fixP rs but (k + 1) = if (!r.hl && !((k : Int) == but)) = true then fixP rs but k ++ [k] else fixP rs but k := by
  unfold fixP
  rw [List.range_succ, List.filter_append]
  have h : fixB rs but k = (!r.hl && !((k : Int) == but)) := by simp [fixB, hr]
  by_cases e : (!r.hl && !((k : Int) == but)) = true
  · rw [if_pos e, List.filter_cons_of_pos (by rw [h]; exact e)]; rfl
  · rw [if_neg e, List.filter_cons_of_neg (by rw [h]; exact e)]; simp
theorem fixP_mem {rs : List Rp} {but : Int} {k i : Nat} : i ∈ fixP rs but k ↔ i < k ∧ fixB rs but i = true := by simp [fixP]
theorem fixP_len (rs : List Rp) (but : Int) (k : Nat) : (fixP rs but k).length ≤ k := by
  have := List.length_filter_le (fixB rs but) (List.range k)
  simpa [fixP] using this
def nums (l : List Nat) : List Int := l.map fun i : Nat => (i : Int)
def rowsF (s : Sy) (l : List Nat) : List (List Int) := l.map fun i => (trS s).getD i []
theorem rowsF_len (s : Sy) (l : List Nat) : (rowsF s l).length = l.length := by simp [rowsF]
def fixA (s : Sy) : List Nat := fixP s.rs (-1) s.rs.length
theorem trS_at (s : Sy) {i : Nat} (h : i < s.rs.length) : (trS s)[i]? = some (colP (matS s) i) := by
  unfold trS turnP
  rw [List.getElem?_map, List.getElem?_range h]
  rfl
theorem trS_getD (s : Sy) {i : Nat} (h : i < s.rs.length) : (trS s).getD i [] = colP (matS s) i := by rw [List.getD_eq_getElem?_getD, trS_at s h]; rfl
end Go.Proofs.YtcppnmohgaobdaaGreat.T
end

section
section
namespace Go.Proofs.YtcppnmohgaobdaaGreat.T
open Go Go.RowKit Lin
def unitR (n i : Nat) : List (Int × Int) := (List.range n).map fun k => (if k = i then 1 else 0, 1)
def unitM (n : Nat) : List (List (Int × Int)) := (List.range n).map (unitR n)
def modesP (s : Sy) : List (List (Int × Int)) × Int := if validS s = true then (if fixA s = [] then (unitM s.bs.length, 0) else nullP (rowsF s (fixA s))) else ([], 1)
theorem fixP_lt {rs : List Rp} {but : Int} {k i : Nat} (h : i ∈ fixP rs but k) : i < k := (fixP_mem.1 h).1
theorem rowsF_valid {s : Sy} (ok : OkS s) {L : List Nat} (h0 : L ≠ []) (h1 : L.length ≤ 6) (h2 : ∀ i ∈ L, i < s.rs.length) : validP (rowsF s L) = true ∧ wid (rowsF s L) = s.bs.length ∧ ∀ r ∈ rowsF s L, r ∈ trS s ∧ r.length = s.bs.length := by
  obtain ⟨tv, tw⟩ := ok.tr_valid
  obtain ⟨m1, m2, m3⟩ := validP_iff.1 tv
  have hm : ∀ r ∈ rowsF s L, r ∈ trS s ∧ r.length = s.bs.length := fun r hr => by
    unfold rowsF at hr
    obtain ⟨i, hi, rfl⟩ := List.mem_map.1 hr
    have hlt : i < (trS s).length := by rw [ok.tr_len]; exact h2 i hi
    have e : (trS s).getD i [] = (trS s)[i] := by rw [List.getD_eq_getElem?_getD, List.getElem?_eq_getElem hlt]; rfl
    rw [e]
    exact ⟨List.getElem_mem _, by rw [(m3 _ (List.getElem_mem _)).1, tw]⟩
  have hw : wid (rowsF s L) = s.bs.length := by
    cases hL : L with
    | nil => exact absurd hL h0
    | cons i L' =>
      have := (hm ((trS s).getD i []) (by rw [hL]; simp [rowsF])).2
      rw [← this]
      rfl
  refine ⟨validP_iff.2 ⟨⟨?_, ?_⟩, ?_, fun r hr => ⟨?_, ?_⟩⟩, hw, hm⟩
  · rw [rowsF_len]
    exact List.length_pos_iff.2 h0
  · rw [rowsF_len]
    exact h1
  · rw [hw, ← tw]
    exact m2
  · rw [hw]
    exact (hm r hr).2
  · exact (m3 r (hm r hr).1).2
end Go.Proofs.YtcppnmohgaobdaaGreat.T
end
section
namespace Go.Proofs.YtcppnmohgaobdaaGreat.T
open Go Go.RowKit Lin
def unitC (k j : Nat) : List (Int × Int) := (List.range j).map fun i => (if i = k then 1 else 0, 1)
theorem unitC_len (k j : Nat) : (unitC k j).length = j := by simp [unitC]
def unitL (n k : Nat) : List (List (Int × Int)) := (List.range k).map (unitR n)
theorem unitL_succ (n k : Nat) : unitL n (k + 1) = unitL n k ++ [unitC k n] := by simp [unitL, List.range_succ, unitR, unitC]
theorem unitL_len (n k : Nat) : (unitL n k).length = k := by simp [unitL]
theorem fzS_fr (b g : Nat) (cs : List D) : ∀ l : List (Int × Int), fzL b g cs (frC l) = frC l
  | [] => rfl
  | x :: l => by
    show fzL b g cs (int x.1 :: int x.2 :: frC l) = _
    simp only [fzL, fz, fzS_fr b g cs l]
    rfl
theorem fzS_frss (b g : Nat) (cs : List D) : ∀ l : List (List (Int × Int)), fzL b g cs (l.map frs) = l.map frs
  | [] => rfl
  | x :: l => by simp only [List.map_cons, fzL, fz, fzS_fr, fzS_frss b g cs l]
theorem modesP_facts (s : Sy) : (∀ v ∈ (modesP s).1, v.length = s.bs.length) ∧ (modesP s).1.length ≤ 12 ∧ ((modesP s).2 = 0 ↔ validS s = true) := by
  unfold modesP
  cases hv : validS s
  · simp
  have ok := validS_ok hv
  have hr6 := ok.r6
  have hb6 := ok.b6
  simp only [if_true]
  by_cases h0 : fixA s = []
  · rw [if_pos h0]
    refine ⟨fun v hv => ?_, by simp [unitM]; omega, by simp⟩
    obtain ⟨i, _, rfl⟩ := List.mem_map.1 hv
    simp [unitR]
  · rw [if_neg h0]
    have hfl := fixP_len s.rs (-1) s.rs.length
    obtain ⟨rv, rw', rm⟩ := rowsF_valid ok h0 (by unfold fixA; omega) (fun i hi => fixP_lt hi)
    unfold nullP
    rw [if_pos rv]
    refine ⟨fun v hv => ?_, ?_, by simp⟩
    · obtain ⟨c, _, _, rfl⟩ := nulls_mem _ _ _ v hv
      rw [nvec_len, rw']
    · have := nulls_len (elim (rowsF s (fixA s)) (wid (rowsF s (fixA s)))) (wid (rowsF s (fixA s))) (wid (rowsF s (fixA s)))
      simp only
      omega
end Go.Proofs.YtcppnmohgaobdaaGreat.T
end
section
namespace Go.Proofs.YtcppnmohgaobdaaGreat.T
open Go Go.RowKit Lin
end Go.Proofs.YtcppnmohgaobdaaGreat.T
end
end
section
section
namespace Go.Proofs.YtcppnmohgaobdaaGreat.T
open Go Go.RowKit Lin
end Go.Proofs.YtcppnmohgaobdaaGreat.T
end
section
namespace Go.Proofs.YtcppnmohgaobdaaGreat.T
open Go Go.RowKit Lin
end Go.Proofs.YtcppnmohgaobdaaGreat.T
end
section
namespace Go.Proofs.YtcppnmohgaobdaaGreat.T
open Go Go.RowKit Lin
theorem modes_val {m : List (List Int)} (hv : validP m = true) {v : List (Int × Int)} (hmem : v ∈ (nullP m).1) : (v.any fun x => x.1 != 0) = true ∧ ∃ Z D, D ≠ 0 ∧ Ker m Z ∧ ∀ (k : Nat) (f : Int × Int), v[k]? = some f → Val f (Z k) D := by
  unfold nullP at hmem
  rw [if_pos hv] at hmem
  simp only at hmem
  obtain ⟨h1, h2, h3⟩ := validP_iff.1 hv
  have hs := valid_small hv
  have iv := elim_inv (ups_mover m (wid m)) hs.lens (wid m) (Nat.le_refl _)
  rw [← elim_by] at iv
  have in2 := iv.small2 hs (Nat.le_refl _)
  have hd2 := iv.den_small2 hs (Nat.le_refl _)
  generalize elim m (wid m) = f at *
  obtain ⟨c, hcn, hc, rfl⟩ := nulls_mem f (wid m) (wid m) v hmem
  have ok : ∀ k c, k < f.pivots.length → c < wid m → (makeP (-(Lin.at_ (Lin.row f.rows k) c)) f.den).2 = 0 := fun k c hk hc => by
    have := in2 k c hk hc
    exact makeP_ok (by omega) hd2 iv.den0
  obtain ⟨q1', q2'⟩ := nvec_q iv ok hcn f.pivots.length (Nat.le_refl _)
  have ho := nvec_one iv hcn hc f.pivots.length (Nat.le_refl _)
  refine ⟨List.any_eq_true.2 ⟨_, List.mem_of_getElem? ho, by decide⟩, nX f c f.pivots.length, f.den, iv.den0, fun r hr => ?_, fun k p hp => ⟨allV_at q1' hp, iv.den0, q2' k p hp⟩⟩
  rw [nX_sum iv hcn hc (Lin.at_ r) f.pivots.length (Nat.le_refl _), van_sum iv hcn (iv.van_lt hcn) hr]
  omega
end Go.Proofs.YtcppnmohgaobdaaGreat.T
end
end
section
namespace Go.Proofs.YtcppnmohgaobdaaGreat.T
open Go Go.RowKit Lin
theorem fixA_mem {s : Sy} {j : Nat} {r : Rp} (hr : s.rs[j]? = some r) : j ∈ fixA s ↔ r.hl = false := by
  have hj := (List.getElem?_eq_some_iff.1 hr).1
  unfold fixA
  rw [fixP_mem]
  unfold fixB
  rw [hr]
  have : ((j : Int) == -1) = false := by simp
  simp only [this, Bool.not_false, Bool.and_true, hj, true_and]
  cases r.hl <;> simp
end Go.Proofs.YtcppnmohgaobdaaGreat.T
end

namespace Go.Proofs.YtcppnmohgaobdaaGreat.T
open Go Go.RowKit Lin
theorem unitC_set {n k : Nat} (hk : k < n) : (List.replicate n ((0 : Int), (1 : Int))).set k (1, 1) = unitC k n := by
  refine List.ext_getElem? fun i => ?_
  unfold unitC
  rw [List.getElem?_set, List.getElem?_map]
  by_cases hi : i < n
  · by_cases hki : k = i
    · subst hki
      simp [hi]
    · have : ¬ i = k := fun h => hki h.symm
      simp [hi, hki, this]
  · have h1 : n ≤ i := by omega
    have h2 : ¬ k = i := by omega
    simp [h1, h2]
theorem mot_uniq {s : Sy} (hv : validS s = true) {h : Nat} (hh : hix s = (h : Int)) : (∃ q, s.rs[h]? = some q ∧ q.hl = true) ∧ ∀ (k : Nat) (r : Rp), s.rs[k]? = some r → r.hl = true → k = h := by
  obtain ⟨i, q, hi, hq, hqh⟩ := hix_hit (s := s) (by omega)
  have e : i = h := by omega
  subst e
  have hone : hauls s.rs ≤ 1 := by
    unfold validS at hv
    rw [Bool.and_eq_true, decide_eq_true_eq] at hv
    exact hv.2
  exact ⟨⟨q, hq, hqh⟩, fun k r hr hrl => filt_one (p := fun r : Rp => r.hl) s.rs k i r q hone hr hq hrl hqh⟩
set_option maxRecDepth 100000 in
set_option maxHeartbeats 16000000 in
theorem motions14 (s : Sy) (hf : Fits s) (hv : validS s = true) {h : Nat} (hh : hix s = (h : Int)) : PRet Tryz.prog 54 [syD s, int h] (.tup [frss (modesP s).1, int (modesP s).2]) := by
  refine PRet.intro 1 fun t => ACall.enter tab_ok Tryz.func54 rfl rfl Tryz.ntmps54 (by simp) ?_
  simp only [enterTM]
  have ok := validS_ok hv
  have hb1 := ok.b1
  have hb6 := ok.b6
  have hr6 := ok.r6
  have hr1 := ok.r1
  have hdb := bkC_div s.bs
  have hdr := rpC_div s.rs
  have hw0 := whole14 0
  have hw1 := whole14 1
  obtain ⟨⟨q, hq, hqh⟩, huniq⟩ := mot_uniq hv hh
  have hhr := (List.getElem?_eq_some_iff.1 hq).1
  by_cases h1 : s.rs.length = 1
  · have hfx : fixA s = [] := by
      cases hL : fixA s with
      | nil => rfl
      | cons a l =>
        have ha : a ∈ fixA s := by rw [hL]; simp
        have hal : a < s.rs.length := fixP_lt ha
        obtain ⟨r, hr⟩ : ∃ y, s.rs[a]? = some y := ⟨_, List.getElem?_eq_getElem hal⟩
        have hrl := (fixA_mem hr).1 ha
        have e : a = h := by omega
        subst e
        rw [hq, Option.some.injEq] at hr
        subst hr
        rw [hqh] at hrl
        cases hrl
    have e : modesP s = (unitL s.bs.length s.bs.length, 0) := by
      unfold modesP
      rw [if_pos hv, if_pos hfx]
      rfl
    have c1 : ((s.rs.length : Int) == 1) = true := by rw [h1]; rfl
    rw [e]
    have hz0 : ∀ n, unitL n 0 = [] := fun n => rfl
    ((refine ggb0 (F := _∧_∧_) ⟨hdb, hdr, c1⟩ ?_))
    generalize hn : s.bs.length = n at *
    have hRep := repeatFr 0 1 n (by omega) (by omega)
    rw [pairC_frC] at hRep
    refine AW.begin 7 1 72 rfl (by decide) ?_
    simp only [putTM, List.length_cons, List.length_nil, Nat.reduceEqDiff, ↓reduceIte, List.cons_append, List.nil_append]
    refine AW_mid (fun x : Nat × Nat => ⟨[(7, .own 1 1 x.1 0 n)], [none, some ⟨72, x.1, (unitL n n).map frs⟩], x.2⟩) (fun _ => True) ?_ ?_
    · refine AW_block ?_
      refine AW_loop_w (fun x : Nat × Nat × Nat => ⟨[(6, int n), (7, .own 1 1 x.2.1 0 x.1), (23, int n), (24, int x.1)], [none, some ⟨72, x.2.1, (unitL n x.1).map frs⟩], x.2.2⟩) (fun x => n - x.1) (fun x => x.1 ≤ n) (0, t + 1 + 1, t + 1 + 1) (Nat.zero_le _) (by (simp (disch := omega) only [StLe, tmLe, hpLe_refl, hpLe, bl, bb, bt, zDs, zD, eqCells, simprocAttr, hz0, List.map_nil])) ?_
      rintro ⟨k, g, tt⟩ hk
      simp only at hk
      have htl : (unitL n k).length = k := unitL_len n k
      by_cases hlt : k < n
      · have hset0 := frC_set (List.replicate n ((0 : Int), (1 : Int))) k 1 1 (by rw [List.length_replicate]; exact hlt)
        rw [unitC_set hlt] at hset0
        simp only [List.append_assoc, List.cons_append, List.nil_append] at hset0
        have hl0 := frC_len (List.replicate n ((0 : Int), (1 : Int)))
        rw [List.length_replicate] at hl0
        have hle0 : k * 2 + 2 ≤ n * 2 := by omega
        have hul := unitL_succ n k
        have hcl := unitC_len k n
        have hfl2 : (frC (unitC k n)).length = n * 2 := by rw [frC_len, hcl]
        have hfin : List.take (n * 2) (frC (unitC k n)) = frC (unitC k n) := List.take_of_length_le (by omega)
        ((refine ggb0 (F := _∧_) ⟨@Int.ofNat_lt, hlt⟩ ?_))
        ((repeat refine AW_seq ?_))
        refine AW_block ?_
        ((refine gga1 hw0 ?_))
        intro KR hKR
        ((first | refine awOps_nc fun KK hKK => ?_ | refine awOps_gc rfl fun KK hKK => ?_); simp (disch := omega) only [bb, bt, zDs, zD, eqCells, simprocAttr, goC, callO_fn, argsD, and_self]; refine ACall.of_fresh (hRep) (by first | (simp only [List.map_cons, List.map_nil, List.append_nil, List.nil_append, List.cons_append, ufa, uf]; done) | rfl) ?_; simp (disch := omega) only [bb, bt, zDs, zD, eqCells, simprocAttr, afterC]; refine hKK _ ?_; clear hKK KK)
        ((refine wra ?_)); ((refine wea ?_); (try clear hKR KR))
        ((repeat refine AW_seq ?_); (refine AW_region_k tab_ok fun KR hKR => ?_)); ((refine wra ?_)); ((refine wka1 hw1 ?_)); ((refine wrb (F := _∧_∧_∧_) ⟨hl0, hlt, hle0, hset0⟩ ?_)); ((refine wea ?_); (try clear hKR KR))
        generalize unitC k n = U at *
        ((refine AW.freeze (2) (by first | rfl | (simp only [setH, List.getElem?_cons_zero, List.getElem?_cons_succ, fzS_frss, fz_bk, fz_rp, hfl2, hfin, Nat.le_refl]; done)) ?_); simp (disch := omega) only [fzT, fz, fzL, fzL_ints, fzL_mat, fzH, fzB, eq_self, bb, bt, zDs, zD, eqCells, simprocAttr, fzS_frss, fz_bk, fz_rp, hfl2, hfin, Nat.le_refl])
        ((refine ggb0 htl ?_))
        refine ⟨(k + 1, tt + 1 + 1, tt + 1 + 1), hlt, by show n - (k + 1) < n - k; omega, ?_⟩
        simp only [hul, List.map_append, List.map_cons, List.map_nil]
        (simp (disch := omega) only [StLe, tmLe, hpLe_refl, hpLe, bl, bb, bt, zDs, zD, eqCells, simprocAttr])
      · have hke : k = n := by omega
        subst hke
        ((refine wqb @Int.lt_irrefl ?_))
        ((refine wia ?_))
        ((refine wxa ?_))
        exact ⟨(g, tt), trivial, by (simp (disch := omega) only [StLe, tmLe, hpLe_refl, hpLe, bl, bb, bt, zDs, zD, eqCells, simprocAttr])⟩
    rintro ⟨g, tt⟩ -
    have htl : (unitL n n).length = n := unitL_len n n
    generalize unitL n n = U at *
    have hfin : List.take n (U.map frs) = U.map frs := List.take_of_length_le (by simp [htl])
    ((refine AW.freeze (1) (by first | rfl | (simp only [setH, List.getElem?_cons_zero, List.getElem?_cons_succ, fzS_frss, hfin, htl, List.length_map, Nat.le_refl]; done)) ?_); simp (disch := omega) only [fzT, fz, fzL, fzL_ints, fzL_mat, fzH, fzB, eq_self, bb, bt, zDs, zD, eqCells, simprocAttr, fzS_frss, hfin, htl, List.length_map, Nat.le_refl])
    ((refine gga0 ?_))
    ((repeat refine AW_seq ?_); (refine wta ?_); simp (disch := omega) only [retQ, resD, oneD, bb, bt, zDs, zD, eqCells, simprocAttr, Tryz.results54])
    exact rsv_tidy _ _ (by simp only [tidyD, tidyL, tidy_frss, Bool.not_false, Bool.and_self])
  have c1 : ((s.rs.length : Int) == 1) = false := by simp; omega
  have hM := matrix_prog s hf
  rw [hv] at hM
  simp only [if_true] at hM
  have hrow := ok.rows
  have ml := ok.mat_len
  have mw := ok.mat_wid
  have hz0 : fixP s.rs (-1) 0 = [] := rfl
  have hcol : ∀ i, i < s.rs.length → (trS s).getD i [] = colP (matS s) i := fun i h => trS_getD s h
  have hne : fixA s ≠ [] := by
    intro h0
    obtain ⟨k, hk, hkh⟩ : ∃ k, k < s.rs.length ∧ k ≠ h := by
      by_cases h00 : h = 0
      · exact ⟨1, by omega, by omega⟩
      · exact ⟨0, by omega, by omega⟩
    obtain ⟨r, hr⟩ : ∃ y, s.rs[k]? = some y := ⟨_, List.getElem?_eq_getElem hk⟩
    have hm := (fixA_mem hr).2 (by
      cases hb : r.hl
      · rfl
      · exact absurd (huniq k r hr hb) hkh)
    rw [h0] at hm
    cases hm
  have e : modesP s = nullP (rowsF s (fixA s)) := by simp [modesP, hv, hne]
  obtain ⟨rv, rw', rm⟩ := rowsF_valid ok hne (by have := fixP_len s.rs (-1) s.rs.length; unfold fixA; omega) (fun i hi => fixP_lt hi)
  have hN := null (rowsF s (fixA s)) (by rw [rowsF_len]; have := fixP_len s.rs (-1) s.rs.length; unfold fixA; omega) (fun r hr => by rw [(rm r hr).2]; omega)
  rw [e]
  generalize nullP (rowsF s (fixA s)) = Y at *
  unfold fixA at hN
  generalize hm : matS s = m at *
  ((refine ggb1 (F := _∧_∧_) ⟨hdb, hdr, c1⟩ hM ?_))
  refine AW.begin 12 1 101 rfl (by decide) ?_
  simp only [putTM, List.length_cons, List.length_nil, Nat.reduceEqDiff, ↓reduceIte, List.cons_append, List.nil_append]
  refine AW_mid (fun x : Nat × Nat => ⟨[(12, .own 1 1 x.1 0 (fixP s.rs (-1) s.rs.length).length)], [none, some ⟨101, x.1, (rowsF s (fixP s.rs (-1) s.rs.length)).map ints⟩], x.2⟩) (fun _ => True) ?_ ?_
  · refine AW_block ?_
    refine AW_loop_w (fun x : Nat × Nat × Nat => ⟨[(1, int h), (6, int s.bs.length), (10, mat m), (12, .own 1 1 x.2.1 0 (fixP s.rs (-1) x.1).length), (51, int s.rs.length), (52, int x.1)], [none, some ⟨101, x.2.1, (rowsF s (fixP s.rs (-1) x.1)).map ints⟩], x.2.2⟩) (fun x => s.rs.length - x.1) (fun x => x.1 ≤ s.rs.length) (0, t + 1 + 1, t + 1 + 1) (Nat.zero_le _) (by (simp (disch := omega) only [StLe, tmLe, hpLe_refl, hpLe, bl, bb, bt, zDs, zD, eqCells, simprocAttr, hz0, nums, rowsF, List.map_nil, List.length_nil])) ?_
    rintro ⟨k, g1, tt⟩ hk
    simp only at hk
    by_cases hlt : k < s.rs.length
    · obtain ⟨r, hr⟩ : ∃ y, s.rs[k]? = some y := ⟨_, List.getElem?_eq_getElem hlt⟩
      have hst := fixP_step (but := -1) hr
      have hfl := fixP_len s.rs (-1) k
      have hrl := rowsF_len s (fixP s.rs (-1) k)
      generalize fixP s.rs (-1) k = L at *
      ((refine ggb0 (F := _∧_) ⟨@Int.ofNat_lt, hlt⟩ ?_))
      ((repeat refine AW_seq ?_))
      refine AW_block ?_
      by_cases hkh : k = h
      · have e0 : ((k : Int) == (h : Int)) = true := by simp [hkh]
        have hrl1 : r.hl = true := by
          subst hkh
          rw [hq, Option.some.injEq] at hr
          rw [← hr]
          exact hqh
        rw [hrl1, Bool.not_true, Bool.false_and, if_neg (by simp)] at hst
        ((refine ggb0 e0 ?_))
        refine ⟨(k + 1, g1, tt), hlt, by show s.rs.length - (k + 1) < s.rs.length - k; omega, ?_⟩
        simp only [hst]
        (simp (disch := omega) only [StLe, tmLe, hpLe_refl, hpLe, bl, bb, bt, zDs, zD, eqCells, simprocAttr])
      · have e0 : ((k : Int) == (h : Int)) = false := by simp; omega
        have hrl0 : r.hl = false := by
          cases hb : r.hl
          · rfl
          · exact absurd (huniq k r hr hb) hkh
        have hk1 : (!((k : Int) == -1)) = true := by simp
        rw [hrl0, Bool.not_false, Bool.true_and, if_pos hk1] at hst
        ((refine ggb0 e0 ?_))
        refine AW.begin 14 1 3 rfl (by decide) ?_
        simp only [putTM, List.length_cons, List.length_nil, Nat.reduceEqDiff, ↓reduceIte, List.cons_append, List.nil_append]
        refine AW_mid (fun x : Nat × Nat => ⟨[(1, int h), (6, int s.bs.length), (10, mat m), (12, .own 1 1 g1 0 L.length), (14, .own 1 2 x.1 0 m.length), (51, int s.rs.length), (52, int k)], [none, some ⟨101, g1, (rowsF s L).map ints⟩, some ⟨3, x.1, (colP m k).map int⟩], x.2⟩) (fun _ => True) ?_ ?_
        · refine AW_block ?_
          refine AW_loop_w (fun x : Nat × Nat × Nat => ⟨[(1, int h), (6, int s.bs.length), (10, mat m), (12, .own 1 1 g1 0 L.length), (13, int k), (14, .own 1 2 x.2.1 0 x.1), (51, int s.rs.length), (52, int k), (58, int s.bs.length), (59, int x.1)], [none, some ⟨101, g1, (rowsF s L).map ints⟩, some ⟨3, x.2.1, (colP (m.take x.1) k).map int⟩], x.2.2⟩) (fun x => m.length - x.1) (fun x => x.1 ≤ m.length) (0, tt + 1, tt + 1) (Nat.zero_le _) (by (simp (disch := omega) only [StLe, tmLe, hpLe_refl, hpLe, bl, bb, bt, zDs, zD, eqCells, simprocAttr, colP])) ?_
          rintro ⟨j, g, t2⟩ hj
          simp only at hj
          by_cases hlj : j < m.length
          · obtain ⟨q', hq'⟩ : ∃ y, m[j]? = some y := ⟨_, List.getElem?_eq_getElem hlj⟩
            have hql := (hrow q' (List.mem_of_getElem? hq')).1
            have hkr : k < q'.length := by omega
            obtain ⟨v, hv'⟩ : ∃ y, q'[k]? = some y := ⟨_, List.getElem?_eq_getElem hkr⟩
            have hct := colP_take hq' hv'
            have hcl : (colP (m.take j) k).length = j := by simp [colP]; omega
            have hlb : j < s.bs.length := by omega
            ((refine ggb0 (F := _∧_) ⟨@Int.ofNat_lt, hlb⟩ ?_))
            ((repeat refine AW_seq ?_))
            refine AW_block ?_
            ((refine ggb0 (F := _∧_∧_∧_∧_) ⟨hlj, hq', hkr, hv', hcl⟩ ?_))
            refine ⟨(j + 1, t2 + 1, t2 + 1), hlj, by show m.length - (j + 1) < m.length - j; omega, ?_⟩
            simp only [hct, List.map_append, List.map_cons, List.map_nil]
            (simp (disch := omega) only [StLe, tmLe, hpLe_refl, hpLe, bl, bb, bt, zDs, zD, eqCells, simprocAttr])
          · have hje : j = m.length := by omega
            subst hje
            rw [List.take_length]
            have hnl : ¬ m.length < s.bs.length := by omega
            ((refine wqb (F := _∧_) ⟨@Int.ofNat_lt, hnl⟩ ?_))
            ((refine wia ?_))
            ((refine wxa ?_))
            exact ⟨(g, t2), trivial, by (simp (disch := omega) only [StLe, tmLe, hpLe_refl, hpLe, bl, bb, bt, zDs, zD, eqCells, simprocAttr])⟩
        rintro ⟨g, t2⟩ -
        have hcl : (colP m k).length = m.length := by simp [colP]
        have hfin : List.take m.length ((colP m k).map int) = (colP m k).map int := List.take_of_length_le (by simp [hcl])
        have hro : rowsF s (L ++ [k]) = rowsF s L ++ [colP m k] := by unfold rowsF; rw [List.map_append, List.map_cons, List.map_nil, hcol k hlt]
        ((refine AW.freeze (2) (by first | rfl | (simp only [setH, List.getElem?_cons_zero, List.getElem?_cons_succ, fzL_ints, fzL_mat, hcl, hfin, List.length_map, Nat.le_refl]; done)) ?_); simp (disch := omega) only [fzT, fz, fzL, fzL_ints, fzL_mat, fzH, fzB, eq_self, bb, bt, zDs, zD, eqCells, simprocAttr, fzL_ints, fzL_mat, hcl, hfin, List.length_map, Nat.le_refl])
        ((refine ggb0 hrl ?_))
        refine ⟨(k + 1, t2 + 1, t2 + 1), hlt, by show s.rs.length - (k + 1) < s.rs.length - k; omega, ?_⟩
        simp only [hst, hro, List.length_append, List.length_cons, List.length_nil, List.map_append, List.map_cons, List.map_nil]
        (simp (disch := omega) only [StLe, tmLe, hpLe_refl, hpLe, bl, bb, bt, zDs, zD, eqCells, simprocAttr])
    · have hke : k = s.rs.length := by omega
      subst hke
      ((refine wqb @Int.lt_irrefl ?_))
      ((refine wia ?_))
      ((refine wxa ?_))
      exact ⟨(g1, tt), trivial, by (simp (disch := omega) only [StLe, tmLe, hpLe_refl, hpLe, bl, bb, bt, zDs, zD, eqCells, simprocAttr])⟩
  rintro ⟨g1, tt⟩ -
  have hrl := rowsF_len s (fixP s.rs (-1) s.rs.length)
  generalize fixP s.rs (-1) s.rs.length = L at *
  have hfin2 : List.take L.length ((rowsF s L).map ints) = (rowsF s L).map ints := List.take_of_length_le (by simp [rowsF])
  ((refine AW.freeze (1) (by first | rfl | (simp only [setH, List.getElem?_cons_zero, List.getElem?_cons_succ, fzL_ints, fzL_mat, hfin2, hrl, List.length_map, Nat.le_refl]; done)) ?_); simp (disch := omega) only [fzT, fz, fzL, fzL_ints, fzL_mat, fzH, fzB, eq_self, bb, bt, zDs, zD, eqCells, simprocAttr, fzL_ints, fzL_mat, hfin2, hrl, List.length_map, Nat.le_refl])
  ((refine gga1 hN ?_))
  ((repeat refine AW_seq ?_); (refine wta ?_); simp (disch := omega) only [retQ, resD, oneD, bb, bt, zDs, zD, eqCells, simprocAttr, Tryz.results54])
  exact rsv_tidy _ _ (by simp only [tidyD, tidyL, tidy_frss, Bool.not_false, Bool.and_self])
end Go.Proofs.YtcppnmohgaobdaaGreat.T

namespace Go.Proofs.YtcppnmohgaobdaaGreat.T
open Go Go.RowKit Lin
def hauR (s : Sy) : Rp := s.rs.getD (hix s).toNat ⟨ByteArray.empty, [], false⟩
def loadP (s : Sy) : List (Int × Int) := s.bs.map fun b => (b.w, 1)
def prsP (s : Sy) (up : Bool) : (List (Int × Int) × List (Int × Int)) × Int := pairA (loadP s) (gripsA (hauR s) up s.bs []).1 (modesP s).1 [] []
def firstP (s : Sy) (up : Bool) : (Int × Int) × List (Int × Int) × Int :=
  if givL s = 0 then (if (alongP (hauR s) up).2 = 0 then (if (gripsA (hauR s) up s.bs []).2 = 0 then (if (prsP s up).2 = 0 then ((balP (prsP s up).1.1 (prsP s up).1.2).1, (alongP (hauR s) up).1, (balP (prsP s up).1.1 (prsP s up).1.2).2) else ((0, 0), [], (prsP s up).2)) else ((0, 0), [], (gripsA (hauR s) up s.bs []).2)) else ((0, 0), [], (alongP (hauR s) up).2)) else ((0, 0), [], givL s)
theorem gripsA_len {r : Rp} {up : Bool} : ∀ (bs : List Bk) (acc : List (Int × Int)), (gripsA r up bs acc).2 = 0 → (gripsA r up bs acc).1.length = acc.length + bs.length
  | [], acc, _ => rfl
  | b :: l, acc, h => by
    simp only [gripsA] at h ⊢
    split at h
    · rename_i h0
      rw [if_pos h0, gripsA_len l _ h]
      simp
      omega
    · rename_i h0
      exact absurd h h0
theorem pairA_step {load grip x : List (Int × Int)} {L : List (List (Int × Int))} {k : Nat} (hx : L[k]? = some x) (w p : List (Int × Int)) : pairA load grip (L.drop k) w p = if (dotV x load (0, 1)).2 = 0 then (if (dotV x grip (0, 1)).2 = 0 then pairA load grip (L.drop (k + 1)) (w ++ [(dotV x load (0, 1)).1]) (p ++ [(dotV x grip (0, 1)).1]) else (([], []), (dotV x grip (0, 1)).2)) else (([], []), (dotV x load (0, 1)).2) := by
  rw [List.drop_eq_getElem_cons (List.getElem?_eq_some_iff.1 hx).1, (List.getElem?_eq_some_iff.1 hx).2]
  rfl
set_option maxRecDepth 100000 in
set_option maxHeartbeats 16000000 in
theorem first14 (s : Sy) (hf : Fits s) (up : Bool) : PRet Tryz.prog 42 [syD s, bool up] (.tup [frD (firstP s up).1, frs (firstP s up).2.1, int (firstP s up).2.2]) := by
  refine PRet.intro 1 fun t => ACall.enter tab_ok Tryz.func42 rfl rfl Tryz.ntmps42 (by simp) ?_
  simp only [enterTM]
  have hG := given14 s hf
  by_cases hg : givL s = 0
  rotate_left 1
  · have e : firstP s up = ((0, 0), [], givL s) := by unfold firstP; rw [if_neg hg]
    rw [e]
    rw [if_neg hg] at hG
    have e1 : (givL s != 0) = true := by simpa using hg
    generalize givL s = E at *
    ((refine ggb1 e1 hG ?_))
    ((repeat refine AW_seq ?_); (refine wta ?_); simp (disch := omega) only [retQ, resD, oneD, rsv, rs, rsL, rsL_eq_map, List.map_map, bb, bt, zDs, zD, eqCells, simprocAttr, Tryz.results42])
    rfl
  have hv : validS s = true := by
    cases hv : validS s
    · unfold givL at hg
      rw [if_neg (by simp [hv])] at hg
      cases hg
    · rfl
  have hix0 : ¬ hix s < 0 := by
    intro h
    unfold givL at hg
    rw [if_pos hv, if_pos h] at hg
    cases hg
  have ok := validS_ok hv
  have hb6 := ok.b6
  have hr6 := ok.r6
  obtain ⟨i, r, hi, hr, _⟩ := hix_hit hix0
  have ehr : hauR s = r := by unfold hauR; rw [hi, Int.toNat_natCast, List.getD_eq_getElem?_getD, hr]; rfl
  have hir := (List.getElem?_eq_some_iff.1 hr).1
  have hdr := rpC_div s.rs
  have hdb := bkC_div s.bs
  have hra := rpC_read s.rs i r hr
  have hrm := List.mem_of_getElem? hr
  have hA := along14 r up (hf.sr r hrm).2
  have hMo := motions14 s hf hv hi
  have m0 : (modesP s).2 = 0 := (modesP_facts s).2.2.2 hv
  obtain ⟨ml, mn, _⟩ := modesP_facts s
  rw [m0] at hMo
  rw [hg, if_pos rfl, hi] at hG
  unfold firstP
  rw [if_pos hg, ehr]
  have ep : prsP s up = pairA (loadP s) (gripsA r up s.bs []).1 (modesP s).1 [] [] := by unfold prsP; rw [ehr]
  rw [ep]
  by_cases ha : (alongP r up).2 = 0
  rotate_left 1
  · have e1 : ((alongP r up).2 != 0) = true := by simpa using ha
    rw [if_neg ha]
    generalize alongP r up = X at *
    ((refine ggb2 (F := _∧_∧_∧_) ⟨hir, hdr, hra, e1⟩ hG hA ?_))
    ((repeat refine AW_seq ?_); (refine wta ?_); simp (disch := omega) only [retQ, resD, oneD, rsv, rs, rsL, rsL_eq_map, List.map_map, bb, bt, zDs, zD, eqCells, simprocAttr, Tryz.results42])
    rfl
  have hright : rightR r = true := by
    cases h : rightR r
    · unfold alongP at ha
      rw [if_neg (by simp [h])] at ha
      cases ha
    · rfl
  have ea : alongP r up = (facL r up (r.hs.length - 1), 0) := by unfold alongP; rw [if_pos hright]
  have hGr := grips14 s r up hright (by omega) (fun h hh => ok.pulls r hrm h hh)
  rw [if_pos ha]
  rw [ea] at hA ⊢
  simp only at hA ⊢
  have hgl := gripsA_len (r := r) (up := up) s.bs []
  generalize gripsA r up s.bs [] = Gr at *
  generalize facL r up (r.hs.length - 1) = Fs at *
  by_cases hgr : Gr.2 = 0
  rotate_left 1
  · have e1 : (Gr.2 != 0) = true := by simpa using hgr
    rw [if_neg hgr]
    ((refine ggb3 (F := _∧_∧_∧_) ⟨hir, hdr, hra, e1⟩ hG hA hGr ?_))
    ((repeat refine AW_seq ?_); (refine wta ?_); simp (disch := omega) only [retQ, resD, oneD, rsv, rs, rsL, rsL_eq_map, List.map_map, bb, bt, zDs, zD, eqCells, simprocAttr, Tryz.results42])
    rfl
  have e1 : (Gr.2 != 0) = false := by simpa using hgr
  have hgl := hgl hgr
  rw [if_pos hgr]
  generalize (modesP s).1 = L at *
  have hz : frC [] = [] := rfl
  ((refine ggb4 (F := _∧_∧_∧_∧_) ⟨hir, hdr, hra, e1, hdb⟩ hG hA hGr hMo ?_))
  have hll : (loadP s).length = s.bs.length := by simp [loadP]
  have hl0 : ∀ l : List Bk, frC ((l.take 0).map fun b => (b.w, (1 : Int))) = [] := fun l => rfl
  generalize hPP : pairA (loadP s) Gr.1 L [] [] = PP at *
  refine AW.begin 13 2 27 rfl (by decide) ?_
  simp only [putTM, List.length_cons, List.length_nil, Nat.reduceEqDiff, ↓reduceIte, List.cons_append, List.nil_append]
  refine AW_mid (fun x : Nat × Nat => ⟨[(4, .ptr 1 (t + 1 + 1) 0), (10, frs Fs), (11, frs Gr.1), (12, frss L), (13, .own 2 3 x.1 0 s.bs.length)], [none, some ⟨27, t + 1 + 1, [int 0, int 0]⟩, none, some ⟨27, x.1, frC (loadP s)⟩], x.2⟩) (fun _ => True) ?_ ?_
  · refine AW_block ?_
    refine AW_loop_w (fun x : Nat × Nat × Nat => ⟨[(4, .ptr 1 (t + 1 + 1) 0), (10, frs Fs), (11, frs Gr.1), (12, frss L), (13, .own 2 3 x.2.1 0 x.1), (70, bks s.bs), (71, int s.bs.length), (72, int x.1)], [none, some ⟨27, t + 1 + 1, [int 0, int 0]⟩, none, some ⟨27, x.2.1, frC ((s.bs.take x.1).map fun b => (b.w, 1))⟩], x.2.2⟩) (fun x => s.bs.length - x.1) (fun x => x.1 ≤ s.bs.length) (0, t + 1 + 1 + 1 + 1, t + 1 + 1 + 1 + 1) (Nat.zero_le _) (by (simp (disch := omega) only [StLe, tmLe, hpLe_refl, hpLe, bl, bb, bt, zDs, zD, eqCells, simprocAttr, hl0, hz, List.take_zero, List.map_nil])) ?_
    rintro ⟨k, g, tt⟩ hk
    simp only at hk
    by_cases hlt : k < s.bs.length
    · obtain ⟨b, hb⟩ : ∃ y, s.bs[k]? = some y := ⟨_, List.getElem?_eq_getElem hlt⟩
      have hrb := bkC_read s.bs k b hb
      have hw := whole14 b.w
      have hst : frC ((s.bs.take (k + 1)).map fun b => (b.w, (1 : Int))) = frC ((s.bs.take k).map fun b => (b.w, 1)) ++ [int b.w, int 1] := by
        rw [List.take_add_one, hb, Option.toList_some, List.map_append]
        simp [frC]
      have hlk := frC_len ((s.bs.take k).map fun b => (b.w, (1 : Int)))
      rw [List.length_map, List.length_take, Nat.min_eq_left hk] at hlk
      ((refine ggb0 (F := _∧_) ⟨@Int.ofNat_lt, hlt⟩ ?_))
      ((repeat refine AW_seq ?_))
      refine AW_block ?_
      ((refine ggb1 (F := _∧_∧_∧_) ⟨hlt, hdb, hrb, hlk⟩ hw ?_))
      refine ⟨(k + 1, tt + 1 + 1, tt + 1 + 1), hlt, by show s.bs.length - (k + 1) < s.bs.length - k; omega, ?_⟩
      simp only [hst]
      (simp (disch := omega) only [StLe, tmLe, hpLe_refl, hpLe, bl, bb, bt, zDs, zD, eqCells, simprocAttr])
    · have hke : k = s.bs.length := by omega
      subst hke
      have hfull : frC ((s.bs.take s.bs.length).map fun b => (b.w, (1 : Int))) = frC (loadP s) := by rw [List.take_length]; rfl
      rw [hfull]
      ((refine wqb @Int.lt_irrefl ?_))
      ((refine wia ?_))
      ((refine wxa ?_))
      exact ⟨(g, tt), trivial, by (simp (disch := omega) only [StLe, tmLe, hpLe_refl, hpLe, bl, bb, bt, zDs, zD, eqCells, simprocAttr])⟩
  rintro ⟨g0, t1⟩ -
  generalize loadP s = ld at *
  have hlw := frC_len ld
  rw [hll] at hlw
  have hfin : List.take (s.bs.length * 2) (frC ld) = frC ld := List.take_of_length_le (by omega)
  ((refine AW.freeze (3) (by first | rfl | (simp only [setH, List.getElem?_cons_zero, List.getElem?_cons_succ, fz_bk, fz_rp, fz_frS, fzS_frss, hfin, hlw, Nat.le_refl]; done)) ?_); simp (disch := omega) only [fzT, fz, fzL, fzL_ints, fzL_mat, fzH, fzB, eq_self, bb, bt, zDs, zD, eqCells, simprocAttr, fz_bk, fz_rp, fz_frS, fzS_frss, hfin, hlw, Nat.le_refl])
  ((refine gga0 ?_))
  refine AW.begin 16 2 27 rfl (by decide) ?_
  simp only [putTM, List.length_cons, List.length_nil, Nat.reduceEqDiff, ↓reduceIte, List.cons_append, List.nil_append]
  refine AW.begin 17 2 27 rfl (by decide) ?_
  simp only [putTM, List.length_cons, List.length_nil, Nat.reduceEqDiff, ↓reduceIte, List.cons_append, List.nil_append]
  refine AW_mid (fun x : Nat × Nat × Nat => ⟨[(4, .ptr 1 (t + 1 + 1) 0), (10, frs Fs), (16, .own 2 4 x.1 0 L.length), (17, .own 2 5 x.2.1 0 L.length)], [none, some ⟨27, t + 1 + 1, [int 0, int 0]⟩, none, none, some ⟨27, x.1, frC PP.1.1⟩, some ⟨27, x.2.1, frC PP.1.2⟩], x.2.2⟩) (fun _ => PP.2 = 0 ∧ PP.1.1.length = L.length ∧ PP.1.2.length = L.length) ?_ ?_
  · refine AW_block ?_
    refine AW_loop_w (fun x : List (Int × Int) × List (Int × Int) × Nat × Nat × Nat × Nat => ⟨[(4, .ptr 1 (t + 1 + 1) 0), (10, frs Fs), (11, frs Gr.1), (13, frs ld), (16, .own 2 4 x.2.2.2.1 0 x.2.2.1), (17, .own 2 5 x.2.2.2.2.1 0 x.2.2.1), (83, frss L), (84, int L.length), (85, int x.2.2.1)], [none, some ⟨27, t + 1 + 1, [int 0, int 0]⟩, none, none, some ⟨27, x.2.2.2.1, frC x.1⟩, some ⟨27, x.2.2.2.2.1, frC x.2.1⟩], x.2.2.2.2.2⟩) (fun x => L.length - x.2.2.1) (fun x => x.2.2.1 ≤ L.length ∧ x.1.length = x.2.2.1 ∧ x.2.1.length = x.2.2.1 ∧ pairA ld Gr.1 (L.drop x.2.2.1) x.1 x.2.1 = PP) ([], [], 0, t1 + 1, t1 + 1 + 1, t1 + 1 + 1) ⟨Nat.zero_le _, rfl, rfl, hPP⟩ (by (simp (disch := omega) only [StLe, tmLe, hpLe_refl, hpLe, bl, bb, bt, zDs, zD, eqCells, simprocAttr, hz])) ?_
    rintro ⟨w, p, k, g1, g2, tt⟩ ⟨hk, hwl, hpl, hd⟩
    simp only at hk hwl hpl hd
    by_cases hlt : k < L.length
    · obtain ⟨v, hvk⟩ : ∃ y, L[k]? = some y := ⟨_, List.getElem?_eq_getElem hlt⟩
      have hvl := ml v (List.mem_of_getElem? hvk)
      have hS1 := sum14 v ld (by omega) (by omega)
      have hS2 := sum14 v Gr.1 (by rw [hgl, List.length_nil]; omega) (by rw [hgl, List.length_nil]; omega)
      rw [pairA_step hvk] at hd
      generalize dotV v ld (0, 1) = A at *
      generalize dotV v Gr.1 (0, 1) = B at *
      ((refine ggb0 (F := _∧_) ⟨@Int.ofNat_lt, hlt⟩ ?_))
      ((repeat refine AW_seq ?_))
      refine AW_block ?_
      by_cases ha0 : A.2 = 0
      rotate_left 1
      · have ea : (A.2 != 0) = true := by simpa using ha0
        rw [if_neg ha0] at hd
        rw [← hd, if_neg ha0]
        ((refine ggb1 (F := _∧_∧_) ⟨hlt, hvk, ea⟩ hS1 ?_))
        ((repeat refine AW_seq ?_); (refine wta ?_); simp (disch := omega) only [retQ, resD, oneD, rsv, rs, rsL, rsL_eq_map, List.map_map, bb, bt, zDs, zD, eqCells, simprocAttr, Tryz.results42])
        rfl
      have ea : (A.2 != 0) = false := by simpa using ha0
      rw [if_pos ha0] at hd
      by_cases hb0 : B.2 = 0
      rotate_left 1
      · have eb : (B.2 != 0) = true := by simpa using hb0
        rw [if_neg hb0] at hd
        rw [← hd, if_neg hb0]
        ((refine ggb2 (F := _∧_∧_∧_) ⟨hlt, hvk, ea, eb⟩ hS1 hS2 ?_))
        ((repeat refine AW_seq ?_); (refine wta ?_); simp (disch := omega) only [retQ, resD, oneD, rsv, rs, rsL, rsL_eq_map, List.map_map, bb, bt, zDs, zD, eqCells, simprocAttr, Tryz.results42])
        rfl
      have eb : (B.2 != 0) = false := by simpa using hb0
      rw [if_pos hb0] at hd
      have hap1 : frC w ++ [int A.1.1, int A.1.2] = frC (w ++ [A.1]) := by simp [frC]
      have hap2 : frC p ++ [int B.1.1, int B.1.2] = frC (p ++ [B.1]) := by simp [frC]
      have hlw1 := frC_len w
      rw [hwl] at hlw1
      have hlp1 := frC_len p
      rw [hpl] at hlp1
      ((refine ggb2 (F := _∧_∧_∧_) ⟨hlt, hvk, ea, eb⟩ hS1 hS2 ?_))
      ((repeat refine AW_seq ?_); (refine gdzb (F := _∧_∧_∧_) ⟨hap1, hap2, hlw1, hlp1⟩ ?_))
      ((refine gga0 ?_))
      refine ⟨(w ++ [A.1], p ++ [B.1], k + 1, tt + 1 + 1 + 1, tt + 1 + 1 + 1, tt + 1 + 1 + 1), ⟨hlt, by simp [hwl], by simp [hpl], hd⟩, by show L.length - (k + 1) < L.length - k; omega, ?_⟩
      (simp (disch := omega) only [StLe, tmLe, hpLe_refl, hpLe, bl, bb, bt, zDs, zD, eqCells, simprocAttr])
    · have hke : k = L.length := by omega
      subst hke
      have hde : pairA ld Gr.1 (L.drop L.length) w p = ((w, p), 0) := by rw [List.drop_eq_nil_of_le (Nat.le_refl _)]; try rfl
      rw [hde] at hd
      subst hd
      ((refine wqb @Int.lt_irrefl ?_))
      ((refine wia ?_))
      ((refine wxa ?_))
      exact ⟨(g1, g2, tt), ⟨rfl, hwl, hpl⟩, by (simp (disch := omega) only [StLe, tmLe, hpLe_refl, hpLe, bl, bb, bt, zDs, zD, eqCells, simprocAttr])⟩
  rintro ⟨g1, g2, tt⟩ ⟨hP0, hP1, hP2⟩
  rw [if_pos hP0]
  have hB := balance14 PP.1.1 PP.1.2 (by omega) (by omega)
  obtain ⟨⟨w, p⟩, pe⟩ := PP
  simp only at *
  generalize balP w p = Z at *
  have hlw1 := frC_len w
  rw [hP1] at hlw1
  have hlp1 := frC_len p
  rw [hP2] at hlp1
  have hf1 : List.take (L.length * 2) (frC w) = frC w := List.take_of_length_le (by omega)
  have hf2 : List.take (L.length * 2) (frC p) = frC p := List.take_of_length_le (by omega)
  ((refine AW.freeze (4) (by first | rfl | (simp only [setH, List.getElem?_cons_zero, List.getElem?_cons_succ, fz_frS, hf1, hlw1, Nat.le_refl]; done)) ?_); simp (disch := omega) only [fzT, fz, fzL, fzL_ints, fzL_mat, fzH, fzB, eq_self, bb, bt, zDs, zD, eqCells, simprocAttr, fz_frS, hf1, hlw1, Nat.le_refl])
  ((refine AW.freeze (5) (by first | rfl | (simp only [setH, List.getElem?_cons_zero, List.getElem?_cons_succ, fz_frS, hf2, hlp1, Nat.le_refl]; done)) ?_); simp (disch := omega) only [fzT, fz, fzL, fzL_ints, fzL_mat, fzH, fzB, eq_self, bb, bt, zDs, zD, eqCells, simprocAttr, fz_frS, hf2, hlp1, Nat.le_refl])
  ((refine gga1 hB ?_))
  ((repeat refine AW_seq ?_); (refine wta ?_); simp (disch := omega) only [retQ, resD, oneD, bb, bt, zDs, zD, eqCells, simprocAttr, Tryz.results42])
  exact rsv_tidy _ _ (by simp only [tidyD, tidyL, tidy_fr, Bool.not_false, Bool.and_self])
def forceP (s : Sy) (up : Bool) : (Int × Int) × Int := if (firstP s up).2.2 = 0 then mulP (firstP s up).1 ((firstP s up).2.1.getD ((firstP s up).2.1.length - 1) (0, 0)) else ((0, 0), (firstP s up).2.2)
theorem first_len {s : Sy} {up : Bool} (h : (firstP s up).2.2 = 0) : 1 ≤ (firstP s up).2.1.length ∧ (firstP s up).2.1.length ≤ 9 := by
  unfold firstP at h ⊢
  split at h
  · rename_i h1
    rw [if_pos h1]
    split at h
    · rename_i h2
      rw [if_pos h2]
      split at h
      · rename_i h3
        rw [if_pos h3]
        split at h
        · rename_i h4
          rw [if_pos h4]
          simp only
          have hr : rightR (hauR s) = true := by
            cases hr : rightR (hauR s)
            · unfold alongP at h2
              rw [if_neg (by simp [hr])] at h2
              cases h2
            · rfl
          unfold alongP
          rw [if_pos hr]
          simp only
          rw [facL_len]
          have := rightR_len hr
          omega
        · rename_i h4; exact absurd h h4
      · rename_i h3; exact absurd h h3
    · rename_i h2; exact absurd h h2
  · rename_i h1; exact absurd h h1
set_option maxHeartbeats 4000000 in
theorem force14 (s : Sy) (hf : Fits s) (up : Bool) : PRet Tryz.prog 24 [syD s, bool up] (fe (forceP s up)) := by
  refine PRet.intro 1 fun t => ACall.enter tab_ok Tryz.func24 rfl rfl Tryz.ntmps24 (by simp) ?_
  simp only [enterTM]
  have hF := first14 s hf up
  have hl := first_len (s := s) (up := up)
  unfold forceP
  generalize firstP s up = X at *
  obtain ⟨f, l, e⟩ := X
  simp only at *
  by_cases h0 : e = 0
  rotate_left 1
  · have e1 : (e != 0) = true := by simpa using h0
    rw [if_neg h0]
    ((refine ggb1 e1 hF ?_))
    ((repeat refine AW_seq ?_); (refine wta ?_); simp (disch := omega) only [retQ, resD, oneD, rsv, rs, rsL, rsL_eq_map, List.map_map, bb, bt, zDs, zD, eqCells, simprocAttr, Tryz.results24])
  subst h0
  obtain ⟨l1, l9⟩ := hl rfl
  rw [if_pos rfl]
  obtain ⟨x, hx⟩ : ∃ y, l[l.length - 1]? = some y := ⟨_, List.getElem?_eq_getElem (by omega)⟩
  have hr := frC_read l (l.length - 1) x hx
  have hd := frC_div l
  have hs : (l.length : Int) - 1 = ((l.length - 1 : Nat) : Int) := by omega
  have hlt : l.length - 1 < l.length := by omega
  rw [List.getD_eq_getElem?_getD, hx, Option.getD_some]
  have hM := rMul f x
  generalize mulP f x = M at *
  ((refine gga1 hF ?_))
  ((repeat refine AW_seq ?_); (refine gdzb1 (F := _∧_∧_∧_) ⟨hd, hs, hlt, hr⟩ hM ?_))
  ((refine gga0 ?_))
  ((repeat refine AW_seq ?_); (refine wta ?_); simp (disch := omega) only [retQ, resD, oneD, rsv, rs, rsL, rsL_eq_map, List.map_map, bb, bt, zDs, zD, eqCells, simprocAttr, Tryz.results24])
theorem raise14 (s : Sy) (hf : Fits s) : PRet Tryz.prog 8 [syD s] (fe (forceP s true)) := by
  refine PRet.intro 1 fun t => ACall.enter tab_ok Tryz.func8 rfl rfl Tryz.ntmps8 (by simp) ?_
  simp only [enterTM]
  have hF := force14 s hf true
  generalize forceP s true = M at *
  ((refine gga1 hF ?_))
  ((repeat refine AW_seq ?_); (refine wta ?_); simp (disch := omega) only [retQ, resD, oneD, rsv, rs, rsL, rsL_eq_map, List.map_map, bb, bt, zDs, zD, eqCells, simprocAttr, Tryz.results8])
theorem lower14 (s : Sy) (hf : Fits s) : PRet Tryz.prog 16 [syD s] (fe (forceP s false)) := by
  refine PRet.intro 1 fun t => ACall.enter tab_ok Tryz.func16 rfl rfl Tryz.ntmps16 (by simp) ?_
  simp only [enterTM]
  have hF := force14 s hf false
  generalize forceP s false = M at *
  ((refine gga1 hF ?_))
  ((repeat refine AW_seq ?_); (refine wta ?_); simp (disch := omega) only [retQ, resD, oneD, rsv, rs, rsL, rsL_eq_map, List.map_map, bb, bt, zDs, zD, eqCells, simprocAttr, Tryz.results16])
end Go.Proofs.YtcppnmohgaobdaaGreat.T

namespace Go.Proofs.YtcppnmohgaobdaaGreat.T
open Go Go.RowKit
theorem RepL_split {F : Mem} {G : Ghost} {d : D} {b : List D} : ∀ {a : List D} {us : List Value}, RepL F G (a ++ d :: b) us → ∃ ua u ub, us = ua ++ u :: ub ∧ RepL F G a ua ∧ Rep F G d u ∧ RepL F G b ub
  | [], us, h => by
    simp only [List.nil_append, RepL] at h
    obtain ⟨u, us', e, h1, h2⟩ := h
    exact ⟨[], u, us', e, by simp [RepL], h1, h2⟩
  | x :: a, us, h => by
    simp only [List.cons_append, RepL] at h
    obtain ⟨u, us', rfl, h1, h2⟩ := h
    obtain ⟨ua, v, ub, rfl, k1, k2, k3⟩ := RepL_split h2
    exact ⟨u :: ua, v, ub, rfl, by simp only [RepL]; exact ⟨u, ua, rfl, h1, k1⟩, k2, k3⟩
theorem RepL_join {F : Mem} {G : Ghost} {d : D} {b : List D} {u : Value} {ub : List Value} (h2 : Rep F G d u) (h3 : RepL F G b ub) : ∀ {a : List D} {ua : List Value}, RepL F G a ua → RepL F G (a ++ d :: b) (ua ++ u :: ub)
  | [], ua, h => by
    simp only [RepL] at h
    subst h
    simp only [List.nil_append, RepL]
    exact ⟨u, ub, rfl, h2, h3⟩
  | x :: a, ua, h => by
    simp only [RepL] at h
    obtain ⟨v, us', rfl, h1, h4⟩ := h
    simp only [List.cons_append, RepL]
    exact ⟨v, _, rfl, h1, RepL_join h2 h3 h4⟩
def wrapD (tup : Bool) (pre post : List D) (o : D) : D := if tup = true then .tup (pre ++ o :: post) else .agg (pre ++ o :: post)
theorem wrap_split {F : Mem} {G : Ghost} {tup : Bool} {pre post : List D} {o : D} {u : Value} (h1 : plainL pre = true) (h2 : plainL post = true) (h : Rep F G (wrapD tup pre post o) u) : ∃ v, Rep F G o v ∧ ∀ G' o', Rep F G' o' v → Rep F G' (wrapD tup pre post o') u := by
  unfold wrapD at h ⊢
  cases tup
  · simp only [Bool.false_eq_true, if_false, Rep] at h ⊢
    obtain ⟨vs, rfl, hL⟩ := h
    obtain ⟨ua, v, ub, rfl, k1, k2, k3⟩ := RepL_split hL
    exact ⟨v, k2, fun G' o' ho => ⟨_, rfl, RepL_join ho (plain_repL _ _ h2 k3) (plain_repL _ _ h1 k1)⟩⟩
  · simp only [if_true, Rep] at h ⊢
    obtain ⟨vs, rfl, hL⟩ := h
    obtain ⟨ua, v, ub, rfl, k1, k2, k3⟩ := RepL_split hL
    exact ⟨v, k2, fun G' o' ho => ⟨_, rfl, RepL_join ho (plain_repL _ _ h2 k3) (plain_repL _ _ h1 k1)⟩⟩
section
variable {P : Program}
theorem PFreshX.intro {f : FuncId} {ds : List D} {ty : TypeId} {sz n : Nat} {cells : List D} {tup : Bool} {pre post : List D} (hc : plainL cells = true) (h1 : plainL pre = true) (h2 : plainL post = true)
    (h : ∀ t, ACall P f ds [] t fun d H' _ => ∃ b g, d = wrapD tup pre post (.own sz b g 0 n) ∧ H'[b]? = some (some ⟨ty, g, cells⟩)) : PFreshX P f ds ty sz n cells (wrapD tup pre post) := by
  refine fun F G w us hF hL => ?_
  obtain ⟨t, ht⟩ := top_of G
  have R : Rel w F G [] t w := ⟨Below.refl _ _, hF, Nat.zero_le _, ht, fun i bl h => by simp at h, fun i j bi bj p q r s t u _ h => by simp at h⟩
  refine (h t w F G w us R hL).mono fun e w' hx => ?_
  obtain ⟨F', G', u, d', H', t', rfl, onw, R', hd, b, g, rfl, hb⟩ := hx
  obtain ⟨v, hv, hw⟩ := wrap_split h1 h2 hd
  obtain ⟨p, hp, hg, hl⟩ := R'.own b _ hb
  refine ⟨F', u, v, p, rfl, onw.mem, fun b o hb => onw.old b o hb, R'.mem, R'.below, ⟨rfl, ?_⟩, ?_, hw⟩
  · cases hr : p.r with
    | none => rw [hr] at hl; exact hl
    | some rs =>
      obtain ⟨r, s⟩ := rs
      rw [hr] at hl
      obtain ⟨k1, k2, hl⟩ := hl
      refine ⟨k1, k2, ?_⟩
      cases hpm : p.m with
      | false =>
        rw [hpm] at hl
        obtain ⟨vs, junk, k3, k4, k5⟩ := hl
        exact ⟨vs, junk, k3, k4, plain_repL _ _ hc k5⟩
      | true => rw [hpm] at hl; exact hl
  · simp only [Rep] at hv ⊢
    obtain ⟨k1, p', hp', k2, k3⟩ := hv
    rw [hp] at hp'; cases hp'
    exact ⟨k1, p, rfl, Nat.le_refl _, fun _ => k3 hg⟩
end
end Go.Proofs.YtcppnmohgaobdaaGreat.T

