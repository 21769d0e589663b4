import Derived.Test.YtpbpafmgkdihlaaGreatDoorQMGKALW
import Derived.Test.YtpbpafmgkdihlaaGreatDoorQVJAVP
import Derived.Test.YtpbpafmgkdihlaaGreatDoorQTB
import Derived.Test.YtpbpafmgkdihlaaGreatDoorQTTab
import Derived.Test.YtpbpafmgkdihlaaGreatDoorQTN
import Derived.Shelf.SlicesE.Delete
import Derived.Test.YtpbpafmgkdihlaaGreatDoorQWPJSNQ
import Derived.Test.YtpbpafmgkdihlaaGreatDoorQWN
import Derived.Test.YtpbpafmgkdihlaaGreatDoorQWRS
set_option linter.all false
namespace Go.Proofs.YtpbpafmgkdihlaaGreatDoor.T
open Go Go.RowKit Lin
theorem Yau {C1 C2 P Q : Prop} (c1 : C1) (c2 : C2) (q : Q) (h : C1 → C2 → Q → P := by
 intro cc1 cc2 hq
 (try with_reducible intro KR hKR)
 (repeat refine Y00 ?_); (repeat refine Y00 ?_); (refine Y0d tab_ok Y06 1 fun KR hKR => ?_); simp only [List.replicate_succ, List.replicate_zero, List.append_nil, List.nil_append, List.cons_append, List.length_cons, List.length_nil, Nat.reduceAdd]; (repeat' ((first | refine Y2s rfl fun KK hKK => ?_ | refine Y2t rfl rfl fun KK hKK => ?_ | refine Y15 rfl fun KK hKK => ?_ | refine Y14 fun KK hKK => ?_); simp (disch := omega) only [bb, bt, zDs, zD, Y01, simprocAttr, bne_self_eq_false, Int.reduceBNe, Int.reduceBEq, Bool.bne_false, Bool.bne_true, Bool.false_bne, Bool.true_bne, Y2a, Y0t, Y3y, Y0m, ufa, uf]; (try ((first | with_reducible refine PGive.ret (cc1) ?_ | with_reducible refine PGive.ret (cc2) ?_); simp (disch := omega) only [bb, bt, zDs, zD, Y01, simprocAttr, Y1d, bne_self_eq_false, Int.reduceBNe, Int.reduceBEq, Bool.bne_false, Bool.bne_true, Bool.false_bne, Bool.true_bne])); refine hKK _ _ _ ?_; clear hKK KK)); (refine Y0k ?_); simp only [List.reverse_cons, List.reverse_nil, List.nil_append, List.cons_append]; (refine hKR _ _ (by first | rfl | kernel_rfl) ?_); (try clear hKR KR); (refine qq1 ?_)
 (first | exact hq | (revert hKR; revert KR; exact hq))) : P := h c1 c2 q
theorem Ye0 {F P Q : Prop} (f : F) (q : Q) (h : F → Q → P := by
 intro ff  hq
 (try with_reducible intro KR hKR)
 (repeat refine Y00 ?_); (repeat refine Y00 ?_); (refine Y0d tab_ok Y06 1 fun KR hKR => ?_); simp only [List.replicate_succ, List.replicate_zero, List.append_nil, List.nil_append, List.cons_append, List.length_cons, List.length_nil, Nat.reduceAdd]; (repeat' ((first | refine Y2s rfl fun KK hKK => ?_ | refine Y2t rfl rfl fun KK hKK => ?_ | refine Y15 rfl fun KK hKK => ?_ | refine Y14 fun KK hKK => ?_); simp (disch := omega) only [bb, bt, zDs, zD, Y01, simprocAttr, ff, bne_self_eq_false, Int.reduceBNe, Int.reduceBEq, Bool.bne_false, Bool.bne_true, Bool.false_bne, Bool.true_bne]; refine hKK _ _ _ ?_; clear hKK KK)); (refine Y0k ?_); simp only [List.reverse_cons, List.reverse_nil, List.nil_append, List.cons_append]; (refine hKR _ _ (by first | rfl | kernel_rfl) ?_); (try clear hKR KR); (refine qq1 ?_)
 (first | exact hq | (revert hKR; revert KR; exact hq))) : P := h f  q
theorem Yi8 {r : Rp} {up : Bool} {bs : List Bk} {k : Nat} {b : Bk} (h : bs[k]? = some b) (acc : List (Int × Int)) : Y1i r up (bs.drop k) acc = if (Y3j r up b.nm).2 = 0 then Y1i r up (bs.drop (k + 1)) (acc ++ [(Y3j r up b.nm).1]) else ([], (Y3j r up b.nm).2) := by
 rw [List.drop_eq_getElem_cons (List.getElem?_eq_some_iff.1 h).1, (List.getElem?_eq_some_iff.1 h).2]
 rfl
theorem Ylu {n : Nat} {F : Nat → Int × Int} {nm : ByteArray} {hs : List Hd} {i : Nat} {h : Hd} (hx : hs[i]? = some h) (c : Int × Int) : Y6g n F nm (hs.drop i) i c = if h.b = nm then (if (Y3a n F i h).2 = 0 then (if (addP c (Y3a n F i h).1).2 = 0 then Y6g n F nm (hs.drop (i + 1)) (i + 1) (addP c (Y3a n F i h).1).1 else ((0, 0), (addP c (Y3a n F i h).1).2)) else ((0, 0), (Y3a n F i h).2)) else Y6g n F nm (hs.drop (i + 1)) (i + 1) c := by
 rw [List.drop_eq_getElem_cons (List.getElem?_eq_some_iff.1 hx).1, (List.getElem?_eq_some_iff.1 hx).2]
 rfl
set_option maxRecDepth 100000 in
set_option maxHeartbeats 16000000 in
theorem Yx3 (s : Sy) (r : Rp) (up : Bool) (hr : Y25 r = true) (hnb : s.bs.length ≤ 1000) (hp : ∀ h ∈ r.hs, -2 ≤ h.p ∧ h.p ≤ 2) : PRet Tryz.prog 97 [syD s, .agg (rp1 r), frs (facL r up (r.hs.length - 1))] (fse (Y1i r up s.bs [])) := by
 refine pri 1 Tryz.func97 Tryz.ntmps97 fun t => ?_
 simp only [Y04]
 have hdb := Y2p s.bs
 have hdh := Y4v r.hs
 have hw0 := Y4b 0
 obtain ⟨n2, n10⟩ := Y3e hr
 have hWl := Y7u r up (r.hs.length - 1)
 have hWa := fun i => Yay r up (k := r.hs.length - 1) (i := i)
 generalize facL r up (r.hs.length - 1) = W at *
 have hWd := Y70 W
 rw [hWl] at hWd
 have hz : frC [] = [] := rfl
 generalize hRR : Y1i r up s.bs [] = R
 refine ggb0 hdb ?_
 refine AW.begin 8 2 33 rfl (by decide) ?_
 simp only [Y1r, List.length_cons, List.length_nil, Nat.reduceEqDiff, ↓reduceIte, List.cons_append, List.nil_append]
 refine Y0i (fun x : Nat × Nat => ⟨[(8, .own 2 2 x.1 0 R.1.length)], [none, none, some ⟨33, x.1, frC R.1⟩], x.2⟩) (fun _ => R.2 = 0) ?_ ?_
 ·refine Y02 ?_
  refine Y05 (fun x : List (Int × Int) × Nat × Nat × Nat => ⟨[(2, frs W), (3, .ptr 0 (t + 1) 0), (4, .ptr 1 (t + 1 + 1) 0), (8, .own 2 2 x.2.2.1 0 x.1.length), (19, bks s.bs), (20, int s.bs.length), (21, int x.2.1)], [some ⟨25, t + 1, [bks s.bs, rps s.rs]⟩, some ⟨30, t + 1 + 1, rp1 r⟩, some ⟨33, x.2.2.1, frC x.1⟩], x.2.2.2⟩) (fun x => s.bs.length - x.2.1) (fun x => x.2.1 ≤ s.bs.length ∧ x.1.length = x.2.1 ∧ Y1i r up (s.bs.drop x.2.1) x.1 = R) ([], 0, t + 1 + 1 + 1, t + 1 + 1 + 1) ⟨Nat.zero_le _, rfl, hRR⟩ (by (simp (disch := omega) only [StLe, tmLe, Y0b, hpLe, bl, bb, bt, zDs, zD, Y01, simprocAttr, hz, List.length_nil])) ?_
  rintro ⟨acc, k, g, tt⟩ ⟨hk, hak, hd0⟩
  simp only at hk hak hd0
  by_cases hlt : k < s.bs.length
  ·obtain ⟨b, hb⟩ : ∃ y, s.bs[k]? = some y := ⟨_, List.getElem?_eq_getElem hlt⟩
   have hra := Y4r s.bs k b hb
   rw [Yi8 hb] at hd0
   have hGd : Y6g r.hs.length (facK r.hs up) b.nm r.hs 0 (0, 1) = Y3j r up b.nm := rfl
   generalize Y3j r up b.nm = G at *
   have hbad : G.2 ≠ 0 → R = ([], G.2) := fun h => by rw [← hd0, if_neg h]
   have hal := Y1s acc
   ((refine ggb0 (F := _∧_) ⟨@Int.ofNat_lt, hlt⟩ ?_))
   repeat refine Y00 ?_
   refine Y02 ?_
   ((refine ggb1 (F := _∧_∧_∧_) ⟨hlt, hdb, hra, hdh⟩ hw0 ?_))
   repeat refine Y00 ?_
   refine Y0i (fun x : Nat => ⟨[(2, frs W), (3, .ptr 0 (t + 1) 0), (4, .ptr 1 (t + 1 + 1) 0), (8, .own 2 2 g 0 acc.length), (11, .ptr 4 (tt + 1 + 1) 0), (19, bks s.bs), (20, int s.bs.length), (21, int k)], [some ⟨25, t + 1, [bks s.bs, rps s.rs]⟩, some ⟨30, t + 1 + 1, rp1 r⟩, some ⟨33, g, frC acc⟩, none, some ⟨33, tt + 1 + 1, [int G.1.1, int G.1.2]⟩], x⟩) (fun _ => G.2 = 0) ?_ ?_
   ·refine Y02 ?_
    refine Y05 (fun x : (Int × Int) × Nat × Nat => ⟨[(2, frs W), (3, .ptr 0 (t + 1) 0), (4, .ptr 1 (t + 1 + 1) 0), (8, .own 2 2 g 0 acc.length), (10, .ptr 3 (tt + 1) 0), (11, .ptr 4 (tt + 1 + 1) 0), (19, bks s.bs), (20, int s.bs.length), (21, int k), (27, hds r.hs), (28, int r.hs.length), (29, int x.2.1)], [some ⟨25, t + 1, [bks s.bs, rps s.rs]⟩, some ⟨30, t + 1 + 1, rp1 r⟩, some ⟨33, g, frC acc⟩, some ⟨48, tt + 1, bk1 b⟩, some ⟨33, tt + 1 + 1, [int x.1.1, int x.1.2]⟩], x.2.2⟩) (fun x => r.hs.length - x.2.1) (fun x => x.2.1 ≤ r.hs.length ∧ Y6g r.hs.length (facK r.hs up) b.nm (r.hs.drop x.2.1) x.2.1 x.1 = G) ((0, 1), 0, tt + 1 + 1) ⟨Nat.zero_le _, hGd⟩ ele ?_
    rintro ⟨c, i, t2⟩ ⟨hi, hd⟩
    simp only at hi hd
    by_cases hlt2 : i < r.hs.length
    ·obtain ⟨h, hx⟩ : ∃ y, r.hs[i]? = some y := ⟨_, List.getElem?_eq_getElem hlt2⟩
     have hrh := Y4m r.hs i h hx
     have hpp := hp h (List.mem_of_getElem? hx)
     rw [Ylu hx] at hd
     by_cases hnm : h.b = b.nm
     rotate_left 1
     ·rw [if_neg hnm] at hd
      have en : decide (h.b = b.nm) = false := decide_eq_false hnm
      have en2 : (h.b == b.nm) = false := by simpa using hnm
      ((refine ggb0 (F := _∧_) ⟨@Int.ofNat_lt, hlt2⟩ ?_))
      repeat refine Y00 ?_
      refine Y02 ?_
      ((refine ggb0 (F := _∧_∧_∧_∧_∧_) ⟨hlt2, hdh, hrh, hnm, en, en2⟩ ?_))
      refine ⟨(c, i + 1, t2 + 1), ⟨hlt2, hd⟩, by show r.hs.length - (i + 1) < r.hs.length - i; omega, ?_⟩
      exact ele
     rw [if_pos hnm] at hd
     have en : decide (h.b = b.nm) = true := decide_eq_true hnm
     by_cases hi0 : i = 0
     ·have hgt : Y3a r.hs.length (facK r.hs up) i h = mulP (h.p, 1) (facK r.hs up 0) := by unfold Y3a; rw [if_pos hi0]
      rw [hgt] at hd
      have hrf : ((frC W).drop (i * 2)).take 2 = [int (facK r.hs up 0).1, int (facK r.hs up 0).2] := by rw [hi0]; exact Y1p W 0 _ (hWa 0 (by omega))
      have hiW : i < r.hs.length - 1 := by omega
      have m0 : ¬ ((r.hs.length - 1 : Nat) : Int) - 1 < (i : Int) := by omega
      have c0 : ¬ (0 : Int) < (i : Int) := by omega
      generalize facK r.hs up 0 = f at *
      ((refine ggb0 (F := _∧_) ⟨@Int.ofNat_lt, hlt2⟩ ?_))
      repeat refine Y00 ?_
      refine Y02 ?_
      ((refine ggb0 (F := _∧_∧_∧_∧_) ⟨hlt2, hdh, hrh, hnm, en⟩ ?_))
      ((repeat refine Y00 ?_); (refine Ye0 (F := _∧_∧_∧_) ⟨m0, hiW, hWd, hrf⟩ ?_))
      refine ggb0 c0 ?_
      have hM := rMul (h.p, 1) f
      have hw := Y4b h.p
      generalize mulP (h.p, 1) f = M at *
      ((repeat refine Y00 ?_); (refine Yau hw hM ?_))
      by_cases hm0 : M.2 = 0
      rotate_left 1
      ·have e1 : (M.2 != 0) = true := by simpa using hm0
       rw [if_neg hm0] at hd
       have hR := hbad (by rw [← hd]; exact hm0)
       rw [hR, ← hd]
       refine ggb0 e1 ?_
       refine exq Tryz.results97 ?_
       rfl
      have e1 : (M.2 != 0) = false := by simpa using hm0
      rw [if_pos hm0] at hd
      have hA2 := rAdd c M.1
      generalize addP c M.1 = Q at *
      by_cases hq0 : Q.2 = 0
      rotate_left 1
      ·have e2 : (Q.2 != 0) = true := by simpa using hq0
       rw [if_neg hq0] at hd
       have hR := hbad (by rw [← hd]; exact hq0)
       rw [hR, ← hd]
       ((refine ggb1 (F := _∧_) ⟨e1, e2⟩ hA2 ?_))
       refine exq Tryz.results97 ?_
       rfl
      have e2 : (Q.2 != 0) = false := by simpa using hq0
      rw [if_pos hq0] at hd
      ((refine ggb1 (F := _∧_) ⟨e1, e2⟩ hA2 ?_))
      refine ⟨(Q.1, i + 1, t2 + 1 + 1 + 1), ⟨hlt2, hd⟩, by show r.hs.length - (i + 1) < r.hs.length - i; omega, ?_⟩
      exact ele
     by_cases hin : i + 1 = r.hs.length
     ·have hgt : Y3a r.hs.length (facK r.hs up) i h = mulP (h.p, 1) (facK r.hs up (r.hs.length - 2)) := by unfold Y3a; rw [if_neg hi0, if_pos hin]
      rw [hgt] at hd
      have hrf := Y1p W (r.hs.length - 2) _ (hWa (r.hs.length - 2) (by omega))
      have hjW : r.hs.length - 2 < r.hs.length - 1 := by omega
      have m1 : ((r.hs.length - 1 : Nat) : Int) - 1 < (i : Int) := by omega
      have hsub : ((r.hs.length - 1 : Nat) : Int) - 1 = ((r.hs.length - 2 : Nat) : Int) := by omega
      have m2 : ((r.hs.length - 2 : Nat) : Int) < (i : Int) := by omega
      have c0 : (0 : Int) < (i : Int) := by omega
      have c1 : ¬ (i : Int) < (r.hs.length : Int) - 1 := by omega
      generalize facK r.hs up (r.hs.length - 2) = f at *
      ((refine ggb0 (F := _∧_) ⟨@Int.ofNat_lt, hlt2⟩ ?_))
      repeat refine Y00 ?_
      refine Y02 ?_
      ((refine ggb0 (F := _∧_∧_∧_∧_) ⟨hlt2, hdh, hrh, hnm, en⟩ ?_))
      ((repeat refine Y00 ?_); (refine Ye0 (F := _∧_∧_∧_∧_) ⟨hsub, m2, hjW, hWd, hrf⟩ ?_))
      ((refine ggb0 (F := _∧_∧_) ⟨c0, c1, hdh⟩ ?_))
      have hM := rMul (h.p, 1) f
      have hw := Y4b h.p
      generalize mulP (h.p, 1) f = M at *
      ((repeat refine Y00 ?_); (refine Yau hw hM ?_))
      by_cases hm0 : M.2 = 0
      rotate_left 1
      ·have e1 : (M.2 != 0) = true := by simpa using hm0
       rw [if_neg hm0] at hd
       have hR := hbad (by rw [← hd]; exact hm0)
       rw [hR, ← hd]
       refine ggb0 e1 ?_
       refine exq Tryz.results97 ?_
       rfl
      have e1 : (M.2 != 0) = false := by simpa using hm0
      rw [if_pos hm0] at hd
      have hA2 := rAdd c M.1
      generalize addP c M.1 = Q at *
      by_cases hq0 : Q.2 = 0
      rotate_left 1
      ·have e2 : (Q.2 != 0) = true := by simpa using hq0
       rw [if_neg hq0] at hd
       have hR := hbad (by rw [← hd]; exact hq0)
       rw [hR, ← hd]
       ((refine ggb1 (F := _∧_) ⟨e1, e2⟩ hA2 ?_))
       refine exq Tryz.results97 ?_
       rfl
      have e2 : (Q.2 != 0) = false := by simpa using hq0
      rw [if_pos hq0] at hd
      ((refine ggb1 (F := _∧_) ⟨e1, e2⟩ hA2 ?_))
      refine ⟨(Q.1, i + 1, t2 + 1 + 1 + 1), ⟨hlt2, hd⟩, by show r.hs.length - (i + 1) < r.hs.length - i; omega, ?_⟩
      exact ele
     have hgt : Y3a r.hs.length (facK r.hs up) i h = if (addP (facK r.hs up (i - 1)) (facK r.hs up i)).2 = 0 then mulP (h.p.tdiv 2, 1) (addP (facK r.hs up (i - 1)) (facK r.hs up i)).1 else ((0, 0), (addP (facK r.hs up (i - 1)) (facK r.hs up i)).2) := by unfold Y3a; rw [if_neg hi0, if_neg hin]
     rw [hgt] at hd
     have hrf := Y1p W i _ (hWa i (by omega))
     have hrg := Y1p W (i - 1) _ (hWa (i - 1) (by omega))
     have hiW : i < r.hs.length - 1 := by omega
     have hiV : i - 1 < r.hs.length - 1 := by omega
     have m0 : ¬ ((r.hs.length - 1 : Nat) : Int) - 1 < (i : Int) := by omega
     have c0 : (0 : Int) < (i : Int) := by omega
     have c1 : (i : Int) < (r.hs.length : Int) - 1 := by omega
     have hs1 : (i : Int) - 1 = ((i - 1 : Nat) : Int) := by omega
     have hA := rAdd (facK r.hs up (i - 1)) (facK r.hs up i)
     have hq : -2 ≤ h.p.tdiv 2 ∧ h.p.tdiv 2 ≤ 2 := by
      rcases (show h.p = -2 ∨ h.p = -1 ∨ h.p = 0 ∨ h.p = 1 ∨ h.p = 2 by omega) with e | e | e | e | e <;> rw [e] <;> decide
     have hqw := wr64 (h.p.tdiv 2) (by omega)
     generalize addP (facK r.hs up (i - 1)) (facK r.hs up i) = Y at *
     generalize facK r.hs up (i - 1) = f1 at *
     generalize facK r.hs up i = f2 at *
     ((refine ggb0 (F := _∧_) ⟨@Int.ofNat_lt, hlt2⟩ ?_))
     repeat refine Y00 ?_
     refine Y02 ?_
     ((refine ggb0 (F := _∧_∧_∧_∧_) ⟨hlt2, hdh, hrh, hnm, en⟩ ?_))
     ((repeat refine Y00 ?_); (refine Ye0 (F := _∧_∧_∧_) ⟨m0, hiW, hWd, hrf⟩ ?_))
     ((refine ggb0 (F := _∧_∧_) ⟨c0, c1, hdh⟩ ?_))
     ((repeat refine Y00 ?_); (refine Y6h (F := _∧_∧_∧_∧_∧_) ⟨hs1, hiW, hiV, hWd, hrf, hrg⟩ hA ?_))
     by_cases hy0 : Y.2 = 0
     rotate_left 1
     ·have e0 : (Y.2 != 0) = true := by simpa using hy0
      rw [if_neg hy0] at hd
      rw [if_neg hy0] at hd
      have hR := hbad (by rw [← hd]; exact hy0)
      rw [hR, ← hd]
      ((refine ggb0 (F := _∧_) ⟨e0, hqw⟩ ?_))
      refine exq Tryz.results97 ?_
      rfl
     have e0 : (Y.2 != 0) = false := by simpa using hy0
     rw [if_pos hy0] at hd
     ((refine ggb0 (F := _∧_) ⟨e0, hqw⟩ ?_))
     obtain ⟨y, ye⟩ := Y
     simp only at *
     have hM := rMul ((h.p.tdiv 2), 1) y
     have hw := Y4b (h.p.tdiv 2)
     generalize mulP ((h.p.tdiv 2), 1) y = M at *
     ((repeat refine Y00 ?_); (refine Yau hw hM ?_))
     by_cases hm0 : M.2 = 0
     rotate_left 1
     ·have e1 : (M.2 != 0) = true := by simpa using hm0
      rw [if_neg hm0] at hd
      have hR := hbad (by rw [← hd]; exact hm0)
      rw [hR, ← hd]
      refine ggb0 e1 ?_
      refine exq Tryz.results97 ?_
      rfl
     have e1 : (M.2 != 0) = false := by simpa using hm0
     rw [if_pos hm0] at hd
     have hA2 := rAdd c M.1
     generalize addP c M.1 = Q at *
     by_cases hq0 : Q.2 = 0
     rotate_left 1
     ·have e2 : (Q.2 != 0) = true := by simpa using hq0
      rw [if_neg hq0] at hd
      have hR := hbad (by rw [← hd]; exact hq0)
      rw [hR, ← hd]
      ((refine ggb1 (F := _∧_) ⟨e1, e2⟩ hA2 ?_))
      refine exq Tryz.results97 ?_
      rfl
     have e2 : (Q.2 != 0) = false := by simpa using hq0
     rw [if_pos hq0] at hd
     ((refine ggb1 (F := _∧_) ⟨e1, e2⟩ hA2 ?_))
     refine ⟨(Q.1, i + 1, t2 + 1 + 1 + 1 + 1), ⟨hlt2, hd⟩, by show r.hs.length - (i + 1) < r.hs.length - i; omega, ?_⟩
     exact ele
    ·have hie : i = r.hs.length := by omega
     subst hie
     have hde : Y6g r.hs.length (facK r.hs up) b.nm (r.hs.drop r.hs.length) r.hs.length c = (c, 0) := by rw [List.drop_eq_nil_of_le (Nat.le_refl _)]; try rfl
     rw [hde] at hd
     subst hd
     refine wqb @Int.lt_irrefl ?_
     refine wia ?_
     refine wxa ?_
     exact ⟨t2, rfl, ele⟩
   rintro t3 hG
   rw [if_pos hG] at hd0
   have hap : frC acc ++ [int G.1.1, int G.1.2] = frC (acc ++ [G.1]) := by simp [frC]
   have hdv : (acc.length * 2 + 2) / 2 = acc.length + 1 := by omega
   ((refine ggb0 (F := _∧_∧_) ⟨hal, hap, hdv⟩ ?_))
   refine ⟨(acc ++ [G.1], k + 1, t3 + 1, t3 + 1), ⟨hlt, by simp [hak], hd0⟩, by show s.bs.length - (k + 1) < s.bs.length - k; omega, ?_⟩
   simp only [List.length_append, List.length_singleton]
   exact ele
  ·have hke : k = s.bs.length := by omega
   subst hke
   have hde : Y1i r up (s.bs.drop s.bs.length) acc = (acc, 0) := by rw [List.drop_eq_nil_of_le (Nat.le_refl _)]; try rfl
   rw [hde] at hd0
   subst hd0
   refine wqb @Int.lt_irrefl ?_
   refine wia ?_
   refine wxa ?_
   exact ⟨(g, tt), rfl, ele⟩
 rintro ⟨g, tt⟩ hR
 obtain ⟨L, e⟩ := R
 simp only at hR
 subst hR
 have hlw := Y1s L
 have hfin : List.take (L.length * 2) (frC L) = frC L := List.take_of_length_le (by omega)
 ((refine AW.freeze (2) (by first | rfl | (simp only [setH, List.getElem?_cons_zero, List.getElem?_cons_succ, Yly, Y5x, hfin, hlw, Nat.le_refl]; done)) ?_); simp (disch := omega) only [fzT, fz, fzL, Y0p, Y0y, fzH, fzB, eq_self, bb, bt, zDs, zD, Y01, simprocAttr, Yly, Y5x, hfin, hlw, Nat.le_refl])
 refine gga0 ?_
 ((repeat refine Y00 ?_); (refine wta ?_); simp (disch := omega) only [retQ, resD, oneD, bb, bt, zDs, zD, Y01, simprocAttr, Tryz.results97])
 exact Y2c _ _ (by simp only [Y2w, Y37, Y8a, Bool.not_false, Bool.and_self])
end Go.Proofs.YtpbpafmgkdihlaaGreatDoor.T
namespace Go.Proofs.YtpbpafmgkdihlaaGreatDoor.T
open Go Go.RowKit
end Go.Proofs.YtpbpafmgkdihlaaGreatDoor.T
namespace Go.Proofs.YtpbpafmgkdihlaaGreatDoor.T
open Go Go.RowKit Go.Shelf Go.Sort
end Go.Proofs.YtpbpafmgkdihlaaGreatDoor.T
namespace Go.Proofs.YtpbpafmgkdihlaaGreatDoor.T
open Go Go.RowKit Lin
def fixB (rs : List Rp) (but : Int) (i : Nat) : Bool := (match rs[i]? with | some r => !r.hl | none => false) && !((i : Int) == but)
def fixP (rs : List Rp) (but : Int) (k : Nat) : List Nat := (List.range k).filter (fixB rs but)
theorem Yq2 {rs : List Rp} {but : Int} {k : Nat} {r : Rp} (hr : rs[k]? = some r) : fixP rs but (k + 1) = if (!r.hl && !((k : Int) == but)) = true then fixP rs but k ++ [k] else fixP rs but k := by
 unfold fixP
 rw [List.range_succ, List.filter_append]
 have h : fixB rs but k = (!r.hl && !((k : Int) == but)) := by simp [fixB, hr]
 by_cases e : (!r.hl && !((k : Int) == but)) = true
 ·rw [if_pos e, List.filter_cons_of_pos (by rw [h]; exact e)]; rfl
 ·rw [if_neg e, List.filter_cons_of_neg (by rw [h]; exact e)]; simp
theorem Yk0 {rs : List Rp} {but : Int} {k i : Nat} : i ∈ fixP rs but k ↔ i < k ∧ fixB rs but i = true := by simp [fixP]
theorem Y6b (rs : List Rp) (but : Int) (k : Nat) : (fixP rs but k).length ≤ k := by
 have := List.length_filter_le (fixB rs but) (List.range k)
 simpa [fixP] using this
def nums (l : List Nat) : List Int := l.map fun i : Nat => (i : Int)
def Y2m (s : Sy) (l : List Nat) : List (List Int) := l.map fun i => (trS s).getD i []
theorem Y5o (s : Sy) (l : List Nat) : (Y2m s l).length = l.length := by simp [Y2m]
def fixA (s : Sy) : List Nat := fixP s.rs (-1) s.rs.length
theorem Yv0 (s : Sy) {i : Nat} (h : i < s.rs.length) : (trS s)[i]? = some (colP (matS s) i) := by
 unfold trS Y5j
 rw [List.getElem?_map, List.getElem?_range h]
 rfl
theorem Yj4 (s : Sy) {i : Nat} (h : i < s.rs.length) : (trS s).getD i [] = colP (matS s) i := by rw [List.getD_eq_getElem?_getD, Yv0 s h]; rfl
end Go.Proofs.YtpbpafmgkdihlaaGreatDoor.T
section
namespace Go.Proofs.YtpbpafmgkdihlaaGreatDoor.T
open Go Go.RowKit Lin
def Yne (n i : Nat) : List (Int × Int) := (List.range n).map fun k => (if k = i then 1 else 0, 1)
def Yyh (n : Nat) : List (List (Int × Int)) := (List.range n).map (Yne n)
def Y12 (s : Sy) : List (List (Int × Int)) × Int := if Y0g s = true then (if fixA s = [] then (Yyh s.bs.length, 0) else Ydm (Y2m s (fixA s))) else ([], 1)
theorem Y8k {rs : List Rp} {but : Int} {k i : Nat} (h : i ∈ fixP rs but k) : i < k := (Yk0.1 h).1
theorem Y54 {s : Sy} (ok : OkS s) {L : List Nat} (h0 : L ≠ []) (h1 : L.length ≤ 6) (h2 : ∀ i ∈ L, i < s.rs.length) : Y1c (Y2m s L) = true ∧ wid (Y2m s L) = s.bs.length ∧ ∀ r ∈ Y2m s L, r ∈ trS s ∧ r.length = s.bs.length := by
 obtain ⟨tv, tw⟩ := ok.tr_valid
 obtain ⟨m1, m2, m3⟩ := Y0v.1 tv
 have hm : ∀ r ∈ Y2m s L, r ∈ trS s ∧ r.length = s.bs.length := fun r hr => by
  unfold Y2m at hr
  obtain ⟨i, hi, rfl⟩ := List.mem_map.1 hr
  have hlt : i < (trS s).length := by rw [ok.tr_len]; exact h2 i hi
  have e : (trS s).getD i [] = (trS s)[i] := by rw [List.getD_eq_getElem?_getD, List.getElem?_eq_getElem hlt]; rfl
  rw [e]
  exact ⟨List.getElem_mem _, by rw [(m3 _ (List.getElem_mem _)).1, tw]⟩
 have hw : wid (Y2m s L) = s.bs.length := by
  cases hL : L with
  | nil => exact absurd hL h0
  | cons i L' =>
   have := (hm ((trS s).getD i []) (by rw [hL]; simp [Y2m])).2
   rw [← this]
   rfl
 refine ⟨Y0v.2 ⟨⟨?_, ?_⟩, ?_, fun r hr => ⟨?_, ?_⟩⟩, hw, hm⟩
 ·rw [Y5o]
  exact List.length_pos_iff.2 h0
 ·rw [Y5o]
  exact h1
 ·rw [hw, ← tw]
  exact m2
 ·rw [hw]
  exact (hm r hr).2
 ·exact (m3 r (hm r hr).1).2
def Ybd (k j : Nat) : List (Int × Int) := (List.range j).map fun i => (if i = k then 1 else 0, 1)
theorem Yng (k j : Nat) : (Ybd k j).length = j := by simp [Ybd]
def Y91 (n k : Nat) : List (List (Int × Int)) := (List.range k).map (Yne n)
theorem Ykw (n k : Nat) : Y91 n (k + 1) = Y91 n k ++ [Ybd k n] := by simp [Y91, List.range_succ, Yne, Ybd]
theorem Yeu (n k : Nat) : (Y91 n k).length = k := by simp [Y91]
theorem Yve (b g : Nat) (cs : List D) : ∀ l : List (Int × Int), fzL b g cs (frC l) = frC l
 | [] => rfl
 | x :: l => by
  show fzL b g cs (int x.1 :: int x.2 :: frC l) = _
  simp only [fzL, fz, Yve b g cs l]
  rfl
theorem Y59 (b g : Nat) (cs : List D) : ∀ l : List (List (Int × Int)), fzL b g cs (l.map frs) = l.map frs
 | [] => rfl
 | x :: l => by simp only [List.map_cons, fzL, fz, Yve, Y59 b g cs l]
theorem Y5s (s : Sy) : (∀ v ∈ (Y12 s).1, v.length = s.bs.length) ∧ (Y12 s).1.length ≤ 12 ∧ ((Y12 s).2 = 0 ↔ Y0g s = true) := by
 unfold Y12
 cases hv : Y0g s
 ·simp
 have ok := Y0h hv
 have hr6 := ok.r6
 have hb6 := ok.b6
 simp only [if_true]
 by_cases h0 : fixA s = []
 ·rw [if_pos h0]
  refine ⟨fun v hv => ?_, by simp [Yyh]; omega, by simp⟩
  obtain ⟨i, _, rfl⟩ := List.mem_map.1 hv
  simp [Yne]
 ·rw [if_neg h0]
  have hfl := Y6b s.rs (-1) s.rs.length
  obtain ⟨rv, rw', rm⟩ := Y54 ok h0 (by unfold fixA; omega) (fun i hi => Y8k hi)
  unfold Ydm
  rw [if_pos rv]
  refine ⟨fun v hv => ?_, ?_, by simp⟩
  ·obtain ⟨c, _, _, rfl⟩ := Y7k _ _ _ v hv
   rw [Y9f, rw']
  ·have := Yae (elim (Y2m s (fixA s)) (wid (Y2m s (fixA s)))) (wid (Y2m s (fixA s))) (wid (Y2m s (fixA s)))
   simp only
   omega
end Go.Proofs.YtpbpafmgkdihlaaGreatDoor.T
end
section
namespace Go.Proofs.YtpbpafmgkdihlaaGreatDoor.T
open Go Go.RowKit Lin
theorem Yfz {m : List (List Int)} (hv : Y1c m = true) {v : List (Int × Int)} (hmem : v ∈ (Ydm m).1) : (v.any fun x => x.1 != 0) = true ∧ ∃ Z D, D ≠ 0 ∧ Ker m Z ∧ ∀ (k : Nat) (f : Int × Int), v[k]? = some f → Val f (Z k) D := by
 unfold Ydm at hmem
 rw [if_pos hv] at hmem
 simp only at hmem
 obtain ⟨h1, h2, h3⟩ := Y0v.1 hv
 have hs := Y6o hv
 have iv := Y42 (Y3p m (wid m)) hs.lens (wid m) (Nat.le_refl _)
 rw [← Y5a] at iv
 have in2 := iv.small2 hs (Nat.le_refl _)
 have hd2 := iv.den_small2 hs (Nat.le_refl _)
 generalize elim m (wid m) = f at *
 obtain ⟨c, hcn, hc, rfl⟩ := Y7k f (wid m) (wid m) v hmem
 have ok : ∀ k c, k < f.pivots.length → c < wid m → (Y1b (-(Lin.at_ (Lin.row f.rows k) c)) f.den).2 = 0 := fun k c hk hc => by
  have := in2 k c hk hc
  exact Y58 (by omega) hd2 iv.den0
 obtain ⟨q1', q2'⟩ := Yv7 iv ok hcn f.pivots.length (Nat.le_refl _)
 have ho := Yjm iv hcn hc f.pivots.length (Nat.le_refl _)
 refine ⟨List.any_eq_true.2 ⟨_, List.mem_of_getElem? ho, by decide⟩, nX f c f.pivots.length, f.den, iv.den0, fun r hr => ?_, fun k p hp => ⟨Yy1 q1' hp, iv.den0, q2' k p hp⟩⟩
 rw [Yv8 iv hcn hc (Lin.at_ r) f.pivots.length (Nat.le_refl _), Yn9 iv hcn (iv.van_lt hcn) hr]
 omega
end Go.Proofs.YtpbpafmgkdihlaaGreatDoor.T
end
namespace Go.Proofs.YtpbpafmgkdihlaaGreatDoor.T
open Go Go.RowKit Lin
theorem Yk1 {s : Sy} {j : Nat} {r : Rp} (hr : s.rs[j]? = some r) : j ∈ fixA s ↔ r.hl = false := by
 have hj := (List.getElem?_eq_some_iff.1 hr).1
 unfold fixA
 rw [Yk0]
 unfold fixB
 rw [hr]
 have : ((j : Int) == -1) = false := by simp
 simp only [this, Bool.not_false, Bool.and_true, hj, true_and]
 cases r.hl <;> simp
theorem Ynf {n k : Nat} (hk : k < n) : (List.replicate n ((0 : Int), (1 : Int))).set k (1, 1) = Ybd k n := by
 refine List.ext_getElem? fun i => ?_
 unfold Ybd
 rw [List.getElem?_set, List.getElem?_map]
 by_cases hi : i < n
 ·by_cases hki : k = i
  ·subst hki
   simp [hi]
  ·have : ¬ i = k := fun h => hki h.symm
   simp [hi, hki, this]
 ·have h1 : n ≤ i := by omega
  have h2 : ¬ k = i := by omega
  simp [h1, h2]
theorem Ysz {s : Sy} (hv : Y0g s = true) {h : Nat} (hh : hix s = (h : Int)) : (∃ q, s.rs[h]? = some q ∧ q.hl = true) ∧ ∀ (k : Nat) (r : Rp), s.rs[k]? = some r → r.hl = true → k = h := by
 obtain ⟨i, q, hi, hq, hqh⟩ := Y5v (s := s) (by omega)
 have e : i = h := by omega
 subst e
 have hone : Y3v s.rs ≤ 1 := by
  unfold Y0g at hv
  rw [Bool.and_eq_true, decide_eq_true_eq] at hv
  exact hv.2
 exact ⟨⟨q, hq, hqh⟩, fun k r hr hrl => Ye6 (p := fun r : Rp => r.hl) s.rs k i r q hone hr hq hrl hqh⟩
set_option maxRecDepth 100000 in
set_option maxHeartbeats 16000000 in
theorem Yp7 (s : Sy) (hf : Fits s) (hv : Y0g s = true) {h : Nat} (hh : hix s = (h : Int)) : PRet Tryz.prog 98 [syD s, int h] (.tup [frss (Y12 s).1, int (Y12 s).2]) := by
 refine pri 1 Tryz.func98 Tryz.ntmps98 fun t => ?_
 simp only [Y04]
 have ok := Y0h hv
 have hb1 := ok.b1
 have hb6 := ok.b6
 have hr6 := ok.r6
 have hr1 := ok.r1
 have hdb := Y2p s.bs
 have hdr := Y1q s.rs
 have hw0 := Y4b 0
 have hw1 := Y4b 1
 obtain ⟨⟨q, hq, hqh⟩, huniq⟩ := Ysz hv hh
 have hhr := (List.getElem?_eq_some_iff.1 hq).1
 by_cases h1 : s.rs.length = 1
 ·have hfx : fixA s = [] := by
   cases hL : fixA s with
   | nil => rfl
   | cons a l =>
    have ha : a ∈ fixA s := by rw [hL]; simp
    have hal : a < s.rs.length := Y8k ha
    obtain ⟨r, hr⟩ : ∃ y, s.rs[a]? = some y := ⟨_, List.getElem?_eq_getElem hal⟩
    have hrl := (Yk1 hr).1 ha
    have e : a = h := by omega
    subst e
    rw [hq, Option.some.injEq] at hr
    subst hr
    rw [hqh] at hrl
    cases hrl
  have e : Y12 s = (Y91 s.bs.length s.bs.length, 0) := by
   unfold Y12
   rw [if_pos hv, if_pos hfx]
   rfl
  have c1 : ((s.rs.length : Int) == 1) = true := by rw [h1]; rfl
  rw [e]
  have hz0 : ∀ n, Y91 n 0 = [] := fun n => rfl
  ((refine ggb0 (F := _∧_∧_) ⟨hdb, hdr, c1⟩ ?_))
  generalize hn : s.bs.length = n at *
  have hRep := Yjh 0 1 n (by omega) (by omega)
  rw [Yfn] at hRep
  refine AW.begin 7 1 51 rfl (by decide) ?_
  simp only [Y1r, List.length_cons, List.length_nil, Nat.reduceEqDiff, ↓reduceIte, List.cons_append, List.nil_append]
  refine Y0i (fun x : Nat × Nat => ⟨[(7, .own 1 1 x.1 0 n)], [none, some ⟨51, x.1, (Y91 n n).map frs⟩], x.2⟩) (fun _ => True) ?_ ?_
  ·refine Y02 ?_
   refine Y05 (fun x : Nat × Nat × Nat => ⟨[(6, int n), (7, .own 1 1 x.2.1 0 x.1), (23, int n), (24, int x.1)], [none, some ⟨51, x.2.1, (Y91 n x.1).map frs⟩], x.2.2⟩) (fun x => n - x.1) (fun x => x.1 ≤ n) (0, t + 1 + 1, t + 1 + 1) (Nat.zero_le _) (by (simp (disch := omega) only [StLe, tmLe, Y0b, hpLe, bl, bb, bt, zDs, zD, Y01, simprocAttr, hz0, List.map_nil])) ?_
   rintro ⟨k, g, tt⟩ hk
   simp only at hk
   have htl : (Y91 n k).length = k := Yeu n k
   by_cases hlt : k < n
   ·have hset0 := Ye2 (List.replicate n ((0 : Int), (1 : Int))) k 1 1 (by rw [List.length_replicate]; exact hlt)
    rw [Ynf hlt] at hset0
    simp only [List.append_assoc, List.cons_append, List.nil_append] at hset0
    have hl0 := Y1s (List.replicate n ((0 : Int), (1 : Int)))
    rw [List.length_replicate] at hl0
    have hle0 : k * 2 + 2 ≤ n * 2 := by omega
    have hul := Ykw n k
    have hcl := Yng k n
    have hfl2 : (frC (Ybd k n)).length = n * 2 := by rw [Y1s, hcl]
    have hfin : List.take (n * 2) (frC (Ybd k n)) = frC (Ybd k n) := List.take_of_length_le (by omega)
    ((refine ggb0 (F := _∧_) ⟨@Int.ofNat_lt, hlt⟩ ?_))
    repeat refine Y00 ?_
    refine Y02 ?_
    refine gga1 hw0 ?_
    intro KR hKR
    ((first | refine Y0f fun KK hKK => ?_ | refine Y08 rfl fun KK hKK => ?_); simp (disch := omega) only [bb, bt, zDs, zD, Y01, simprocAttr, goC, Y0e, Y0m, and_self]; refine ACall.of_fresh (hRep) (by first | (simp only [List.map_cons, List.map_nil, List.append_nil, List.nil_append, List.cons_append, ufa, uf]; done) | rfl) ?_; simp (disch := omega) only [bb, bt, zDs, zD, Y01, simprocAttr, Y0n]; refine hKK _ ?_; clear hKK KK)
    ((refine wra ?_)); ((refine wea ?_); (try clear hKR KR))
    ((repeat refine Y00 ?_); (refine Y03 tab_ok fun KR hKR => ?_)); ((refine wra ?_)); ((refine wka1 hw1 ?_)); ((refine wrb (F := _∧_∧_∧_) ⟨hl0, hlt, hle0, hset0⟩ ?_)); ((refine wea ?_); (try clear hKR KR))
    generalize Ybd k n = U at *
    ((refine AW.freeze (2) (by first | rfl | (simp only [setH, List.getElem?_cons_zero, List.getElem?_cons_succ, Y59, Y5h, Y5g, hfl2, hfin, Nat.le_refl]; done)) ?_); simp (disch := omega) only [fzT, fz, fzL, Y0p, Y0y, fzH, fzB, eq_self, bb, bt, zDs, zD, Y01, simprocAttr, Y59, Y5h, Y5g, hfl2, hfin, Nat.le_refl])
    refine ggb0 htl ?_
    refine ⟨(k + 1, tt + 1 + 1, tt + 1 + 1), hlt, by show n - (k + 1) < n - k; omega, ?_⟩
    simp only [hul, List.map_append, List.map_cons, List.map_nil]
    exact ele
   ·have hke : k = n := by omega
    subst hke
    refine wqb @Int.lt_irrefl ?_
    refine wia ?_
    refine wxa ?_
    exact ⟨(g, tt), trivial, ele⟩
  rintro ⟨g, tt⟩ -
  have htl : (Y91 n n).length = n := Yeu n n
  generalize Y91 n n = U at *
  have hfin : List.take n (U.map frs) = U.map frs := List.take_of_length_le (by simp [htl])
  ((refine AW.freeze (1) (by first | rfl | (simp only [setH, List.getElem?_cons_zero, List.getElem?_cons_succ, Y59, hfin, htl, List.length_map, Nat.le_refl]; done)) ?_); simp (disch := omega) only [fzT, fz, fzL, Y0p, Y0y, fzH, fzB, eq_self, bb, bt, zDs, zD, Y01, simprocAttr, Y59, hfin, htl, List.length_map, Nat.le_refl])
  refine gga0 ?_
  ((repeat refine Y00 ?_); (refine wta ?_); simp (disch := omega) only [retQ, resD, oneD, bb, bt, zDs, zD, Y01, simprocAttr, Tryz.results98])
  exact Y2c _ _ (by simp only [Y2w, Y37, Yf0, Bool.not_false, Bool.and_self])
 have c1 : ((s.rs.length : Int) == 1) = false := by simp; omega
 have hM := Y57 s hf
 rw [hv] at hM
 simp only [if_true] at hM
 have hrow := ok.rows
 have ml := ok.mat_len
 have mw := ok.mat_wid
 have hz0 : fixP s.rs (-1) 0 = [] := rfl
 have hcol : ∀ i, i < s.rs.length → (trS s).getD i [] = colP (matS s) i := fun i h => Yj4 s h
 have hne : fixA s ≠ [] := by
  intro h0
  obtain ⟨k, hk, hkh⟩ : ∃ k, k < s.rs.length ∧ k ≠ h := by
   by_cases h00 : h = 0
   ·exact ⟨1, by omega, by omega⟩
   ·exact ⟨0, by omega, by omega⟩
  obtain ⟨r, hr⟩ : ∃ y, s.rs[k]? = some y := ⟨_, List.getElem?_eq_getElem hk⟩
  have hm := (Yk1 hr).2 (by
   cases hb : r.hl
   ·rfl
   ·exact absurd (huniq k r hr hb) hkh)
  rw [h0] at hm
  cases hm
 have e : Y12 s = Ydm (Y2m s (fixA s)) := by simp [Y12, hv, hne]
 obtain ⟨rv, rw', rm⟩ := Y54 ok hne (by have := Y6b s.rs (-1) s.rs.length; unfold fixA; omega) (fun i hi => Y8k hi)
 have hN := null (Y2m s (fixA s)) (by rw [Y5o]; have := Y6b s.rs (-1) s.rs.length; unfold fixA; omega) (fun r hr => by rw [(rm r hr).2]; omega)
 rw [e]
 generalize Ydm (Y2m s (fixA s)) = Y at *
 unfold fixA at hN
 generalize hm : matS s = m at *
 ((refine ggb1 (F := _∧_∧_) ⟨hdb, hdr, c1⟩ hM ?_))
 refine AW.begin 12 1 59 rfl (by decide) ?_
 simp only [Y1r, List.length_cons, List.length_nil, Nat.reduceEqDiff, ↓reduceIte, List.cons_append, List.nil_append]
 refine Y0i (fun x : Nat × Nat => ⟨[(12, .own 1 1 x.1 0 (fixP s.rs (-1) s.rs.length).length)], [none, some ⟨59, x.1, (Y2m s (fixP s.rs (-1) s.rs.length)).map ints⟩], x.2⟩) (fun _ => True) ?_ ?_
 ·refine Y02 ?_
  refine Y05 (fun x : Nat × Nat × Nat => ⟨[(1, int h), (6, int s.bs.length), (10, mat m), (12, .own 1 1 x.2.1 0 (fixP s.rs (-1) x.1).length), (51, int s.rs.length), (52, int x.1)], [none, some ⟨59, x.2.1, (Y2m s (fixP s.rs (-1) x.1)).map ints⟩], x.2.2⟩) (fun x => s.rs.length - x.1) (fun x => x.1 ≤ s.rs.length) (0, t + 1 + 1, t + 1 + 1) (Nat.zero_le _) (by (simp (disch := omega) only [StLe, tmLe, Y0b, hpLe, bl, bb, bt, zDs, zD, Y01, simprocAttr, hz0, nums, Y2m, List.map_nil, List.length_nil])) ?_
  rintro ⟨k, g1, tt⟩ hk
  simp only at hk
  by_cases hlt : k < s.rs.length
  ·obtain ⟨r, hr⟩ : ∃ y, s.rs[k]? = some y := ⟨_, List.getElem?_eq_getElem hlt⟩
   have hst := Yq2 (but := -1) hr
   have hfl := Y6b s.rs (-1) k
   have hrl := Y5o s (fixP s.rs (-1) k)
   generalize fixP s.rs (-1) k = L at *
   ((refine ggb0 (F := _∧_) ⟨@Int.ofNat_lt, hlt⟩ ?_))
   repeat refine Y00 ?_
   refine Y02 ?_
   by_cases hkh : k = h
   ·have e0 : ((k : Int) == (h : Int)) = true := by simp [hkh]
    have hrl1 : r.hl = true := by
     subst hkh
     rw [hq, Option.some.injEq] at hr
     rw [← hr]
     exact hqh
    rw [hrl1, Bool.not_true, Bool.false_and, if_neg (by simp)] at hst
    refine ggb0 e0 ?_
    refine ⟨(k + 1, g1, tt), hlt, by show s.rs.length - (k + 1) < s.rs.length - k; omega, ?_⟩
    simp only [hst]
    exact ele
   ·have e0 : ((k : Int) == (h : Int)) = false := by simp; omega
    have hrl0 : r.hl = false := by
     cases hb : r.hl
     ·rfl
     ·exact absurd (huniq k r hr hb) hkh
    have hk1 : (!((k : Int) == -1)) = true := by simp
    rw [hrl0, Bool.not_false, Bool.true_and, if_pos hk1] at hst
    refine ggb0 e0 ?_
    refine AW.begin 14 1 3 rfl (by decide) ?_
    simp only [Y1r, List.length_cons, List.length_nil, Nat.reduceEqDiff, ↓reduceIte, List.cons_append, List.nil_append]
    refine Y0i (fun x : Nat × Nat => ⟨[(1, int h), (6, int s.bs.length), (10, mat m), (12, .own 1 1 g1 0 L.length), (14, .own 1 2 x.1 0 m.length), (51, int s.rs.length), (52, int k)], [none, some ⟨59, g1, (Y2m s L).map ints⟩, some ⟨3, x.1, (colP m k).map int⟩], x.2⟩) (fun _ => True) ?_ ?_
    ·refine Y02 ?_
     refine Y05 (fun x : Nat × Nat × Nat => ⟨[(1, int h), (6, int s.bs.length), (10, mat m), (12, .own 1 1 g1 0 L.length), (13, int k), (14, .own 1 2 x.2.1 0 x.1), (51, int s.rs.length), (52, int k), (58, int s.bs.length), (59, int x.1)], [none, some ⟨59, g1, (Y2m s L).map ints⟩, some ⟨3, x.2.1, (colP (m.take x.1) k).map int⟩], x.2.2⟩) (fun x => m.length - x.1) (fun x => x.1 ≤ m.length) (0, tt + 1, tt + 1) (Nat.zero_le _) (by (simp (disch := omega) only [StLe, tmLe, Y0b, hpLe, bl, bb, bt, zDs, zD, Y01, simprocAttr, colP])) ?_
     rintro ⟨j, g, t2⟩ hj
     simp only at hj
     by_cases hlj : j < m.length
     ·obtain ⟨q', hq'⟩ : ∃ y, m[j]? = some y := ⟨_, List.getElem?_eq_getElem hlj⟩
      have hql := (hrow q' (List.mem_of_getElem? hq')).1
      have hkr : k < q'.length := by omega
      obtain ⟨v, hv'⟩ : ∃ y, q'[k]? = some y := ⟨_, List.getElem?_eq_getElem hkr⟩
      have hct := Ygk hq' hv'
      have hcl : (colP (m.take j) k).length = j := by simp [colP]; omega
      have hlb : j < s.bs.length := by omega
      ((refine ggb0 (F := _∧_) ⟨@Int.ofNat_lt, hlb⟩ ?_))
      repeat refine Y00 ?_
      refine Y02 ?_
      ((refine ggb0 (F := _∧_∧_∧_∧_) ⟨hlj, hq', hkr, hv', hcl⟩ ?_))
      refine ⟨(j + 1, t2 + 1, t2 + 1), hlj, by show m.length - (j + 1) < m.length - j; omega, ?_⟩
      simp only [hct, List.map_append, List.map_cons, List.map_nil]
      exact ele
     ·have hje : j = m.length := by omega
      subst hje
      rw [List.take_length]
      have hnl : ¬ m.length < s.bs.length := by omega
      ((refine wqb (F := _∧_) ⟨@Int.ofNat_lt, hnl⟩ ?_))
      refine wia ?_
      refine wxa ?_
      exact ⟨(g, t2), trivial, ele⟩
    rintro ⟨g, t2⟩ -
    have hcl : (colP m k).length = m.length := by simp [colP]
    have hfin : List.take m.length ((colP m k).map int) = (colP m k).map int := List.take_of_length_le (by simp [hcl])
    have hro : Y2m s (L ++ [k]) = Y2m s L ++ [colP m k] := by unfold Y2m; rw [List.map_append, List.map_cons, List.map_nil, hcol k hlt]
    ((refine AW.freeze (2) (by first | rfl | (simp only [setH, List.getElem?_cons_zero, List.getElem?_cons_succ, Y0p, Y0y, hcl, hfin, List.length_map, Nat.le_refl]; done)) ?_); simp (disch := omega) only [fzT, fz, fzL, Y0p, Y0y, fzH, fzB, eq_self, bb, bt, zDs, zD, Y01, simprocAttr, Y0p, Y0y, hcl, hfin, List.length_map, Nat.le_refl])
    refine ggb0 hrl ?_
    refine ⟨(k + 1, t2 + 1, t2 + 1), hlt, by show s.rs.length - (k + 1) < s.rs.length - k; omega, ?_⟩
    simp only [hst, hro, List.length_append, List.length_cons, List.length_nil, List.map_append, List.map_cons, List.map_nil]
    exact ele
  ·have hke : k = s.rs.length := by omega
   subst hke
   refine wqb @Int.lt_irrefl ?_
   refine wia ?_
   refine wxa ?_
   exact ⟨(g1, tt), trivial, ele⟩
 rintro ⟨g1, tt⟩ -
 have hrl := Y5o s (fixP s.rs (-1) s.rs.length)
 generalize fixP s.rs (-1) s.rs.length = L at *
 have hfin2 : List.take L.length ((Y2m s L).map ints) = (Y2m s L).map ints := List.take_of_length_le (by simp [Y2m])
 ((refine AW.freeze (1) (by first | rfl | (simp only [setH, List.getElem?_cons_zero, List.getElem?_cons_succ, Y0p, Y0y, hfin2, hrl, List.length_map, Nat.le_refl]; done)) ?_); simp (disch := omega) only [fzT, fz, fzL, Y0p, Y0y, fzH, fzB, eq_self, bb, bt, zDs, zD, Y01, simprocAttr, Y0p, Y0y, hfin2, hrl, List.length_map, Nat.le_refl])
 refine gga1 hN ?_
 ((repeat refine Y00 ?_); (refine wta ?_); simp (disch := omega) only [retQ, resD, oneD, bb, bt, zDs, zD, Y01, simprocAttr, Tryz.results98])
 exact Y2c _ _ (by simp only [Y2w, Y37, Yf0, Bool.not_false, Bool.and_self])
def hauR (s : Sy) : Rp := s.rs.getD (hix s).toNat ⟨ByteArray.empty, [], false⟩
def Y6w (s : Sy) : List (Int × Int) := s.bs.map fun b => (b.w, 1)
def prsP (s : Sy) (up : Bool) : (List (Int × Int) × List (Int × Int)) × Int := Y2n (Y6w s) (Y1i (hauR s) up s.bs []).1 (Y12 s).1 [] []
def Y0r (s : Sy) (up : Bool) : (Int × Int) × List (Int × Int) × Int :=
 if givL s = 0 then (if (Y1u (hauR s) up).2 = 0 then (if (Y1i (hauR s) up s.bs []).2 = 0 then (if (prsP s up).2 = 0 then ((balP (prsP s up).1.1 (prsP s up).1.2).1, (Y1u (hauR s) up).1, (balP (prsP s up).1.1 (prsP s up).1.2).2) else ((0, 0), [], (prsP s up).2)) else ((0, 0), [], (Y1i (hauR s) up s.bs []).2)) else ((0, 0), [], (Y1u (hauR s) up).2)) else ((0, 0), [], givL s)
theorem Ycd {r : Rp} {up : Bool} : ∀ (bs : List Bk) (acc : List (Int × Int)), (Y1i r up bs acc).2 = 0 → (Y1i r up bs acc).1.length = acc.length + bs.length
 | [], acc, _ => rfl
 | b :: l, acc, h => by
  simp only [Y1i] at h ⊢
  split at h
  ·rename_i h0
   rw [if_pos h0, Ycd l _ h]
   simp
   omega
  ·rename_i h0
   exact absurd h h0
theorem Yli {load grip x : List (Int × Int)} {L : List (List (Int × Int))} {k : Nat} (hx : L[k]? = some x) (w p : List (Int × Int)) : Y2n load grip (L.drop k) w p = if (dotV x load (0, 1)).2 = 0 then (if (dotV x grip (0, 1)).2 = 0 then Y2n load grip (L.drop (k + 1)) (w ++ [(dotV x load (0, 1)).1]) (p ++ [(dotV x grip (0, 1)).1]) else (([], []), (dotV x grip (0, 1)).2)) else (([], []), (dotV x load (0, 1)).2) := by
 rw [List.drop_eq_getElem_cons (List.getElem?_eq_some_iff.1 hx).1, (List.getElem?_eq_some_iff.1 hx).2]
 rfl
set_option maxRecDepth 100000 in
set_option maxHeartbeats 16000000 in
theorem Yx9 (s : Sy) (hf : Fits s) (up : Bool) : PRet Tryz.prog 67 [syD s, bool up] (.tup [frD (Y0r s up).1, frs (Y0r s up).2.1, int (Y0r s up).2.2]) := by
 refine pri 1 Tryz.func67 Tryz.ntmps67 fun t => ?_
 simp only [Y04]
 have hG := Yx5 s hf
 by_cases hg : givL s = 0
 rotate_left 1
 ·have e : Y0r s up = ((0, 0), [], givL s) := by unfold Y0r; rw [if_neg hg]
  rw [e]
  rw [if_neg hg] at hG
  have e1 : (givL s != 0) = true := by simpa using hg
  generalize givL s = E at *
  refine ggb1 e1 hG ?_
  refine exq Tryz.results67 ?_
  rfl
 have hv : Y0g s = true := by
  cases hv : Y0g s
  ·unfold givL at hg
   rw [if_neg (by simp [hv])] at hg
   cases hg
  ·rfl
 have hix0 : ¬ hix s < 0 := by
  intro h
  unfold givL at hg
  rw [if_pos hv, if_pos h] at hg
  cases hg
 have ok := Y0h hv
 have hb6 := ok.b6
 have hr6 := ok.r6
 obtain ⟨i, r, hi, hr, _⟩ := Y5v hix0
 have ehr : hauR s = r := by unfold hauR; rw [hi, Int.toNat_natCast, List.getD_eq_getElem?_getD, hr]; rfl
 have hir := (List.getElem?_eq_some_iff.1 hr).1
 have hdr := Y1q s.rs
 have hdb := Y2p s.bs
 have hra := Y2z s.rs i r hr
 have hrm := List.mem_of_getElem? hr
 have hA := Yxz r up (hf.sr r hrm).2
 have hMo := Yp7 s hf hv hi
 have m0 : (Y12 s).2 = 0 := (Y5s s).2.2.2 hv
 obtain ⟨ml, mn, _⟩ := Y5s s
 rw [m0] at hMo
 rw [hg, if_pos rfl, hi] at hG
 unfold Y0r
 rw [if_pos hg, ehr]
 have ep : prsP s up = Y2n (Y6w s) (Y1i r up s.bs []).1 (Y12 s).1 [] [] := by unfold prsP; rw [ehr]
 rw [ep]
 by_cases ha : (Y1u r up).2 = 0
 rotate_left 1
 ·have e1 : ((Y1u r up).2 != 0) = true := by simpa using ha
  rw [if_neg ha]
  generalize Y1u r up = X at *
  ((refine ggb2 (F := _∧_∧_∧_) ⟨hir, hdr, hra, e1⟩ hG hA ?_))
  refine exq Tryz.results67 ?_
  rfl
 have hright : Y25 r = true := by
  cases h : Y25 r
  ·unfold Y1u at ha
   rw [if_neg (by simp [h])] at ha
   cases ha
  ·rfl
 have ea : Y1u r up = (facL r up (r.hs.length - 1), 0) := by unfold Y1u; rw [if_pos hright]
 have hGr := Yx3 s r up hright (by omega) (fun h hh => ok.pulls r hrm h hh)
 rw [if_pos ha]
 rw [ea] at hA ⊢
 simp only at hA ⊢
 have hgl := Ycd (r := r) (up := up) s.bs []
 generalize Y1i r up s.bs [] = Gr at *
 generalize facL r up (r.hs.length - 1) = Fs at *
 by_cases hgr : Gr.2 = 0
 rotate_left 1
 ·have e1 : (Gr.2 != 0) = true := by simpa using hgr
  rw [if_neg hgr]
  ((refine ggb3 (F := _∧_∧_∧_) ⟨hir, hdr, hra, e1⟩ hG hA hGr ?_))
  refine exq Tryz.results67 ?_
  rfl
 have e1 : (Gr.2 != 0) = false := by simpa using hgr
 have hgl := hgl hgr
 rw [if_pos hgr]
 generalize (Y12 s).1 = L at *
 have hz : frC [] = [] := rfl
 ((refine ggb4 (F := _∧_∧_∧_∧_) ⟨hir, hdr, hra, e1, hdb⟩ hG hA hGr hMo ?_))
 have hll : (Y6w s).length = s.bs.length := by simp [Y6w]
 have hl0 : ∀ l : List Bk, frC ((l.take 0).map fun b => (b.w, (1 : Int))) = [] := fun l => rfl
 generalize hPP : Y2n (Y6w s) Gr.1 L [] [] = PP at *
 refine AW.begin 13 2 33 rfl (by decide) ?_
 simp only [Y1r, List.length_cons, List.length_nil, Nat.reduceEqDiff, ↓reduceIte, List.cons_append, List.nil_append]
 refine Y0i (fun x : Nat × Nat => ⟨[(4, .ptr 1 (t + 1 + 1) 0), (10, frs Fs), (11, frs Gr.1), (12, frss L), (13, .own 2 3 x.1 0 s.bs.length)], [none, some ⟨33, t + 1 + 1, [int 0, int 0]⟩, none, some ⟨33, x.1, frC (Y6w s)⟩], x.2⟩) (fun _ => True) ?_ ?_
 ·refine Y02 ?_
  refine Y05 (fun x : Nat × Nat × Nat => ⟨[(4, .ptr 1 (t + 1 + 1) 0), (10, frs Fs), (11, frs Gr.1), (12, frss L), (13, .own 2 3 x.2.1 0 x.1), (70, bks s.bs), (71, int s.bs.length), (72, int x.1)], [none, some ⟨33, t + 1 + 1, [int 0, int 0]⟩, none, some ⟨33, x.2.1, frC ((s.bs.take x.1).map fun b => (b.w, 1))⟩], x.2.2⟩) (fun x => s.bs.length - x.1) (fun x => x.1 ≤ s.bs.length) (0, t + 1 + 1 + 1 + 1, t + 1 + 1 + 1 + 1) (Nat.zero_le _) (by (simp (disch := omega) only [StLe, tmLe, Y0b, hpLe, bl, bb, bt, zDs, zD, Y01, simprocAttr, hl0, hz, List.take_zero, List.map_nil])) ?_
  rintro ⟨k, g, tt⟩ hk
  simp only at hk
  by_cases hlt : k < s.bs.length
  ·obtain ⟨b, hb⟩ : ∃ y, s.bs[k]? = some y := ⟨_, List.getElem?_eq_getElem hlt⟩
   have hrb := Y4r s.bs k b hb
   have hw := Y4b b.w
   have hst : frC ((s.bs.take (k + 1)).map fun b => (b.w, (1 : Int))) = frC ((s.bs.take k).map fun b => (b.w, 1)) ++ [int b.w, int 1] := by
    rw [List.take_add_one, hb, Option.toList_some, List.map_append]
    simp [frC]
   have hlk := Y1s ((s.bs.take k).map fun b => (b.w, (1 : Int)))
   rw [List.length_map, List.length_take, Nat.min_eq_left hk] at hlk
   ((refine ggb0 (F := _∧_) ⟨@Int.ofNat_lt, hlt⟩ ?_))
   repeat refine Y00 ?_
   refine Y02 ?_
   ((refine ggb1 (F := _∧_∧_∧_) ⟨hlt, hdb, hrb, hlk⟩ hw ?_))
   refine ⟨(k + 1, tt + 1 + 1, tt + 1 + 1), hlt, by show s.bs.length - (k + 1) < s.bs.length - k; omega, ?_⟩
   simp only [hst]
   exact ele
  ·have hke : k = s.bs.length := by omega
   subst hke
   have hfull : frC ((s.bs.take s.bs.length).map fun b => (b.w, (1 : Int))) = frC (Y6w s) := by rw [List.take_length]; rfl
   rw [hfull]
   refine wqb @Int.lt_irrefl ?_
   refine wia ?_
   refine wxa ?_
   exact ⟨(g, tt), trivial, ele⟩
 rintro ⟨g0, t1⟩ -
 generalize Y6w s = ld at *
 have hlw := Y1s ld
 rw [hll] at hlw
 have hfin : List.take (s.bs.length * 2) (frC ld) = frC ld := List.take_of_length_le (by omega)
 ((refine AW.freeze (3) (by first | rfl | (simp only [setH, List.getElem?_cons_zero, List.getElem?_cons_succ, Y5h, Y5g, Y5x, Y59, hfin, hlw, Nat.le_refl]; done)) ?_); simp (disch := omega) only [fzT, fz, fzL, Y0p, Y0y, fzH, fzB, eq_self, bb, bt, zDs, zD, Y01, simprocAttr, Y5h, Y5g, Y5x, Y59, hfin, hlw, Nat.le_refl])
 refine gga0 ?_
 refine AW.begin 16 2 33 rfl (by decide) ?_
 simp only [Y1r, List.length_cons, List.length_nil, Nat.reduceEqDiff, ↓reduceIte, List.cons_append, List.nil_append]
 refine AW.begin 17 2 33 rfl (by decide) ?_
 simp only [Y1r, List.length_cons, List.length_nil, Nat.reduceEqDiff, ↓reduceIte, List.cons_append, List.nil_append]
 refine Y0i (fun x : Nat × Nat × Nat => ⟨[(4, .ptr 1 (t + 1 + 1) 0), (10, frs Fs), (16, .own 2 4 x.1 0 L.length), (17, .own 2 5 x.2.1 0 L.length)], [none, some ⟨33, t + 1 + 1, [int 0, int 0]⟩, none, none, some ⟨33, x.1, frC PP.1.1⟩, some ⟨33, x.2.1, frC PP.1.2⟩], x.2.2⟩) (fun _ => PP.2 = 0 ∧ PP.1.1.length = L.length ∧ PP.1.2.length = L.length) ?_ ?_
 ·refine Y02 ?_
  refine Y05 (fun x : List (Int × Int) × List (Int × Int) × Nat × Nat × Nat × Nat => ⟨[(4, .ptr 1 (t + 1 + 1) 0), (10, frs Fs), (11, frs Gr.1), (13, frs ld), (16, .own 2 4 x.2.2.2.1 0 x.2.2.1), (17, .own 2 5 x.2.2.2.2.1 0 x.2.2.1), (83, frss L), (84, int L.length), (85, int x.2.2.1)], [none, some ⟨33, t + 1 + 1, [int 0, int 0]⟩, none, none, some ⟨33, x.2.2.2.1, frC x.1⟩, some ⟨33, x.2.2.2.2.1, frC x.2.1⟩], x.2.2.2.2.2⟩) (fun x => L.length - x.2.2.1) (fun x => x.2.2.1 ≤ L.length ∧ x.1.length = x.2.2.1 ∧ x.2.1.length = x.2.2.1 ∧ Y2n ld Gr.1 (L.drop x.2.2.1) x.1 x.2.1 = PP) ([], [], 0, t1 + 1, t1 + 1 + 1, t1 + 1 + 1) ⟨Nat.zero_le _, rfl, rfl, hPP⟩ (by (simp (disch := omega) only [StLe, tmLe, Y0b, hpLe, bl, bb, bt, zDs, zD, Y01, simprocAttr, hz])) ?_
  rintro ⟨w, p, k, g1, g2, tt⟩ ⟨hk, hwl, hpl, hd⟩
  simp only at hk hwl hpl hd
  by_cases hlt : k < L.length
  ·obtain ⟨v, hvk⟩ : ∃ y, L[k]? = some y := ⟨_, List.getElem?_eq_getElem hlt⟩
   have hvl := ml v (List.mem_of_getElem? hvk)
   have hS1 := Yyw v ld (by omega) (by omega)
   have hS2 := Yyw v Gr.1 (by rw [hgl, List.length_nil]; omega) (by rw [hgl, List.length_nil]; omega)
   rw [Yli hvk] at hd
   generalize dotV v ld (0, 1) = A at *
   generalize dotV v Gr.1 (0, 1) = B at *
   ((refine ggb0 (F := _∧_) ⟨@Int.ofNat_lt, hlt⟩ ?_))
   repeat refine Y00 ?_
   refine Y02 ?_
   by_cases ha0 : A.2 = 0
   rotate_left 1
   ·have ea : (A.2 != 0) = true := by simpa using ha0
    rw [if_neg ha0] at hd
    rw [← hd, if_neg ha0]
    ((refine ggb1 (F := _∧_∧_) ⟨hlt, hvk, ea⟩ hS1 ?_))
    refine exq Tryz.results67 ?_
    rfl
   have ea : (A.2 != 0) = false := by simpa using ha0
   rw [if_pos ha0] at hd
   by_cases hb0 : B.2 = 0
   rotate_left 1
   ·have eb : (B.2 != 0) = true := by simpa using hb0
    rw [if_neg hb0] at hd
    rw [← hd, if_neg hb0]
    ((refine ggb2 (F := _∧_∧_∧_) ⟨hlt, hvk, ea, eb⟩ hS1 hS2 ?_))
    refine exq Tryz.results67 ?_
    rfl
   have eb : (B.2 != 0) = false := by simpa using hb0
   rw [if_pos hb0] at hd
   have hap1 : frC w ++ [int A.1.1, int A.1.2] = frC (w ++ [A.1]) := by simp [frC]
   have hap2 : frC p ++ [int B.1.1, int B.1.2] = frC (p ++ [B.1]) := by simp [frC]
   have hlw1 := Y1s w
   rw [hwl] at hlw1
   have hlp1 := Y1s p
   rw [hpl] at hlp1
   ((refine ggb2 (F := _∧_∧_∧_) ⟨hlt, hvk, ea, eb⟩ hS1 hS2 ?_))
   ((repeat refine Y00 ?_); (refine gdzb (F := _∧_∧_∧_) ⟨hap1, hap2, hlw1, hlp1⟩ ?_))
   refine gga0 ?_
   refine ⟨(w ++ [A.1], p ++ [B.1], k + 1, tt + 1 + 1 + 1, tt + 1 + 1 + 1, tt + 1 + 1 + 1), ⟨hlt, by simp [hwl], by simp [hpl], hd⟩, by show L.length - (k + 1) < L.length - k; omega, ?_⟩
   exact ele
  ·have hke : k = L.length := by omega
   subst hke
   have hde : Y2n ld Gr.1 (L.drop L.length) w p = ((w, p), 0) := by rw [List.drop_eq_nil_of_le (Nat.le_refl _)]; try rfl
   rw [hde] at hd
   subst hd
   refine wqb @Int.lt_irrefl ?_
   refine wia ?_
   refine wxa ?_
   exact ⟨(g1, g2, tt), ⟨rfl, hwl, hpl⟩, ele⟩
 rintro ⟨g1, g2, tt⟩ ⟨hP0, hP1, hP2⟩
 rw [if_pos hP0]
 have hB := Yre PP.1.1 PP.1.2 (by omega) (by omega)
 obtain ⟨⟨w, p⟩, pe⟩ := PP
 simp only at *
 generalize balP w p = Z at *
 have hlw1 := Y1s w
 rw [hP1] at hlw1
 have hlp1 := Y1s p
 rw [hP2] at hlp1
 have hf1 : List.take (L.length * 2) (frC w) = frC w := List.take_of_length_le (by omega)
 have hf2 : List.take (L.length * 2) (frC p) = frC p := List.take_of_length_le (by omega)
 ((refine AW.freeze (4) (by first | rfl | (simp only [setH, List.getElem?_cons_zero, List.getElem?_cons_succ, Y5x, hf1, hlw1, Nat.le_refl]; done)) ?_); simp (disch := omega) only [fzT, fz, fzL, Y0p, Y0y, fzH, fzB, eq_self, bb, bt, zDs, zD, Y01, simprocAttr, Y5x, hf1, hlw1, Nat.le_refl])
 ((refine AW.freeze (5) (by first | rfl | (simp only [setH, List.getElem?_cons_zero, List.getElem?_cons_succ, Y5x, hf2, hlp1, Nat.le_refl]; done)) ?_); simp (disch := omega) only [fzT, fz, fzL, Y0p, Y0y, fzH, fzB, eq_self, bb, bt, zDs, zD, Y01, simprocAttr, Y5x, hf2, hlp1, Nat.le_refl])
 refine gga1 hB ?_
 ((repeat refine Y00 ?_); (refine wta ?_); simp (disch := omega) only [retQ, resD, oneD, bb, bt, zDs, zD, Y01, simprocAttr, Tryz.results67])
 exact Y2c _ _ (by simp only [Y2w, Y37, Y8a, Bool.not_false, Bool.and_self])
def Y07 (s : Sy) (up : Bool) : (Int × Int) × Int := if (Y0r s up).2.2 = 0 then mulP (Y0r s up).1 ((Y0r s up).2.1.getD ((Y0r s up).2.1.length - 1) (0, 0)) else ((0, 0), (Y0r s up).2.2)
theorem Yq4 {s : Sy} {up : Bool} (h : (Y0r s up).2.2 = 0) : 1 ≤ (Y0r s up).2.1.length ∧ (Y0r s up).2.1.length ≤ 9 := by
 unfold Y0r at h ⊢
 split at h
 ·rename_i h1
  rw [if_pos h1]
  split at h
  ·rename_i h2
   rw [if_pos h2]
   split at h
   ·rename_i h3
    rw [if_pos h3]
    split at h
    ·rename_i h4
     rw [if_pos h4]
     simp only
     have hr : Y25 (hauR s) = true := by
      cases hr : Y25 (hauR s)
      ·unfold Y1u at h2
       rw [if_neg (by simp [hr])] at h2
       cases h2
      ·rfl
     unfold Y1u
     rw [if_pos hr]
     simp only
     rw [Y7u]
     have := Y3e hr
     omega
    ·rename_i h4; exact absurd h h4
   ·rename_i h3; exact absurd h h3
  ·rename_i h2; exact absurd h h2
 ·rename_i h1; exact absurd h h1
set_option maxHeartbeats 4000000 in
theorem Yq1 (s : Sy) (hf : Fits s) (up : Bool) : PRet Tryz.prog 35 [syD s, bool up] (fe (Y07 s up)) := by
 refine pri 1 Tryz.func35 Tryz.ntmps35 fun t => ?_
 simp only [Y04]
 have hF := Yx9 s hf up
 have hl := Yq4 (s := s) (up := up)
 unfold Y07
 generalize Y0r s up = X at *
 obtain ⟨f, l, e⟩ := X
 simp only at *
 by_cases h0 : e = 0
 rotate_left 1
 ·have e1 : (e != 0) = true := by simpa using h0
  rw [if_neg h0]
  refine ggb1 e1 hF ?_
  exact exx Tryz.results35
 subst h0
 obtain ⟨l1, l9⟩ := hl rfl
 rw [if_pos rfl]
 obtain ⟨x, hx⟩ : ∃ y, l[l.length - 1]? = some y := ⟨_, List.getElem?_eq_getElem (by omega)⟩
 have hr := Y1p l (l.length - 1) x hx
 have hd := Y70 l
 have hs : (l.length : Int) - 1 = ((l.length - 1 : Nat) : Int) := by omega
 have hlt : l.length - 1 < l.length := by omega
 rw [List.getD_eq_getElem?_getD, hx, Option.getD_some]
 have hM := rMul f x
 generalize mulP f x = M at *
 refine gga1 hF ?_
 ((repeat refine Y00 ?_); (refine Y6h (F := _∧_∧_∧_) ⟨hd, hs, hlt, hr⟩ hM ?_))
 refine gga0 ?_
 exact exx Tryz.results35
theorem Ya8 (s : Sy) (hf : Fits s) : PRet Tryz.prog 11 [syD s] (fe (Y07 s true)) := by
 refine pri 1 Tryz.func11 Tryz.ntmps11 fun t => ?_
 simp only [Y04]
 have hF := Yq1 s hf true
 generalize Y07 s true = M at *
 refine gga1 hF ?_
 exact exx Tryz.results11
theorem Yph (s : Sy) (hf : Fits s) : PRet Tryz.prog 12 [syD s] (fe (Y07 s false)) := by
 refine pri 1 Tryz.func12 Tryz.ntmps12 fun t => ?_
 simp only [Y04]
 have hF := Yq1 s hf false
 generalize Y07 s false = M at *
 refine gga1 hF ?_
 exact exx Tryz.results12
end Go.Proofs.YtpbpafmgkdihlaaGreatDoor.T
namespace Go.Proofs.YtpbpafmgkdihlaaGreatDoor.T
open Go Go.RowKit
theorem Y8q {F : Mem} {G : Ghost} {d : D} {b : List D} : ∀ {a : List D} {us : List Value}, RepL F G (a ++ d :: b) us → ∃ ua u ub, us = ua ++ u :: ub ∧ RepL F G a ua ∧ Rep F G d u ∧ RepL F G b ub
 | [], us, h => by
  simp only [List.nil_append, RepL] at h
  obtain ⟨u, us', e, h1, h2⟩ := h
  exact ⟨[], u, us', e, by simp [RepL], h1, h2⟩
 | x :: a, us, h => by
  simp only [List.cons_append, RepL] at h
  obtain ⟨u, us', rfl, h1, h2⟩ := h
  obtain ⟨ua, v, ub, rfl, k1, k2, k3⟩ := Y8q h2
  exact ⟨u :: ua, v, ub, rfl, by simp only [RepL]; exact ⟨u, ua, rfl, h1, k1⟩, k2, k3⟩
theorem Ybb {F : Mem} {G : Ghost} {d : D} {b : List D} {u : Value} {ub : List Value} (h2 : Rep F G d u) (h3 : RepL F G b ub) : ∀ {a : List D} {ua : List Value}, RepL F G a ua → RepL F G (a ++ d :: b) (ua ++ u :: ub)
 | [], ua, h => by
  simp only [RepL] at h
  subst h
  simp only [List.nil_append, RepL]
  exact ⟨u, ub, rfl, h2, h3⟩
 | x :: a, ua, h => by
  simp only [RepL] at h
  obtain ⟨v, us', rfl, h1, h4⟩ := h
  simp only [List.cons_append, RepL]
  exact ⟨v, _, rfl, h1, Ybb h2 h3 h4⟩
def Yn1 (tup : Bool) (pre post : List D) (o : D) : D := if tup = true then .tup (pre ++ o :: post) else .agg (pre ++ o :: post)
theorem Ykq {F : Mem} {G : Ghost} {tup : Bool} {pre post : List D} {o : D} {u : Value} (h1 : Y11 pre = true) (h2 : Y11 post = true) (h : Rep F G (Yn1 tup pre post o) u) : ∃ v, Rep F G o v ∧ ∀ G' o', Rep F G' o' v → Rep F G' (Yn1 tup pre post o') u := by
 unfold Yn1 at h ⊢
 cases tup
 ·simp only [Bool.false_eq_true, if_false, Rep] at h ⊢
  obtain ⟨vs, rfl, hL⟩ := h
  obtain ⟨ua, v, ub, rfl, k1, k2, k3⟩ := Y8q hL
  exact ⟨v, k2, fun G' o' ho => ⟨_, rfl, Ybb ho (Y1f _ _ h2 k3) (Y1f _ _ h1 k1)⟩⟩
 ·simp only [if_true, Rep] at h ⊢
  obtain ⟨vs, rfl, hL⟩ := h
  obtain ⟨ua, v, ub, rfl, k1, k2, k3⟩ := Y8q hL
  exact ⟨v, k2, fun G' o' ho => ⟨_, rfl, Ybb ho (Y1f _ _ h2 k3) (Y1f _ _ h1 k1)⟩⟩
section
variable {P : Program}
theorem PFreshX.intro {f : FuncId} {ds : List D} {ty : TypeId} {sz n : Nat} {cells : List D} {tup : Bool} {pre post : List D} (hc : Y11 cells = true) (h1 : Y11 pre = true) (h2 : Y11 post = true)
    (h : ∀ t, ACall P f ds [] t fun d H' _ => ∃ b g, d = Yn1 tup pre post (.own sz b g 0 n) ∧ H'[b]? = some (some ⟨ty, g, cells⟩)) : PFreshX P f ds ty sz n cells (Yn1 tup pre post) := by
  refine fun F G w us hF hC hL => ?_
  obtain ⟨t, ht⟩ := Yj5 G
  have R : Rel w F G [] t w := ⟨Below.refl _ _, hF, Nat.zero_le _, ht, fun i bl h => by simp at h, fun i j bi bj p q r s t u _ h => by simp at h, hC⟩
  refine (h t w F G w us R hL).mono fun e w' hx => ?_
  obtain ⟨F', G', u, d', H', t', rfl, onw, R', hd, b, g, rfl, hb⟩ := hx
  obtain ⟨v, hv, hw⟩ := Ykq h1 h2 hd
  obtain ⟨p, hp, hg, hl⟩ := R'.own b _ hb
  refine ⟨F', u, v, p, rfl, onw.mem, fun b o hb => onw.old b o hb, R'.mem, R'.below, ⟨rfl, ?_⟩, ?_, hw⟩
  · cases hr : p.r with
    | none => rw [hr] at hl; exact hl
    | some rs =>
      obtain ⟨r, s⟩ := rs
      rw [hr] at hl
      obtain ⟨k1, k2, hl⟩ := hl
      refine ⟨k1, k2, ?_⟩
      cases hpm : p.m with
      | false =>
        rw [hpm] at hl
        obtain ⟨vs, junk, k3, k4, k5⟩ := hl
        exact ⟨vs, junk, k3, k4, Y1f _ _ hc k5⟩
      | true => rw [hpm] at hl; exact hl
  · simp only [Rep] at hv ⊢
    obtain ⟨k1, p', hp', k2, k3⟩ := hv
    rw [hp] at hp'; cases hp'
    exact ⟨k1, p, rfl, Nat.le_refl _, fun _ => k3 hg⟩
end
end Go.Proofs.YtpbpafmgkdihlaaGreatDoor.T
