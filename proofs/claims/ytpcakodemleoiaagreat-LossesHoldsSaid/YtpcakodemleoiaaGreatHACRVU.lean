import Derived.Test.YtpcakodemleoiaaGreatHMGWAVR
import Derived.Test.YtpcakodemleoiaaGreatHALMALR
import Derived.Test.YtpcakodemleoiaaGreatHALPMQX
import Derived.Test.YtpcakodemleoiaaGreatHALNARD
import Derived.Test.YtpcakodemleoiaaGreatHFWALT
import Derived.Test.YtpcakodemleoiaaGreatHWE
set_option linter.all false
namespace Go.Proofs.YtpcakodemleoiaaGreat.T
open Go Go.RowKit Lin
theorem gdta6_ACR {C1 C2 C3 C4 C5 C6 P Q : Prop} (c1 : C1) (c2 : C2) (c3 : C3) (c4 : C4) (c5 : C5) (c6 : C6) (q : Q) (h : C1 → C2 → C3 → C4 → C5 → C6 → Q → P := by
 intro cc1 cc2 cc3 cc4 cc5 cc6 hq
 (try with_reducible intro KR hKR)
 (repeat refine Y01 ?_); (repeat refine Y01 ?_); (refine Y0a tab_ok Y08 2 fun KR hKR => ?_); simp only [List.replicate_succ, List.replicate_zero, List.append_nil, List.nil_append, List.cons_append, List.length_cons, List.length_nil, Nat.reduceAdd]; (repeat' ((first | refine awD_n rfl fun KK hKK => ?_ | refine awD_g rfl rfl fun KK hKK => ?_ | refine Y1a rfl fun KK hKK => ?_ | refine Y19 fun KK hKK => ?_); simp (disch := omega) only [bb, bt, zDs, zD, Y00, simprocAttr, bne_self_eq_false, Int.reduceBNe, Int.reduceBEq, Bool.bne_false, Bool.bne_true, Bool.false_bne, Bool.true_bne, goCDS, Y0e, argsZ, argsD, ufa, uf]; (try ((first | with_reducible refine PGive.ret (cc1) ?_ | with_reducible refine PGive.ret (cc2) ?_ | with_reducible refine PGive.ret (cc3) ?_ | with_reducible refine PGive.ret (cc4) ?_ | with_reducible refine PGive.ret (cc5) ?_ | with_reducible refine PGive.ret (cc6) ?_); simp (disch := omega) only [bb, bt, zDs, zD, Y00, simprocAttr, Y0x, bne_self_eq_false, Int.reduceBNe, Int.reduceBEq, Bool.bne_false, Bool.bne_true, Bool.false_bne, Bool.true_bne])); refine hKK _ _ _ ?_; clear hKK KK)); (refine Y0n ?_); simp only [List.reverse_cons, List.reverse_nil, List.nil_append, List.cons_append]; (refine hKR _ _ (by first | rfl | kernel_rfl) ?_); (try clear hKR KR); (repeat (with_reducible first | refine q1 ?_ | refine q2 ?_ | refine q3 ?_ | refine q4 ?_ | refine q5 ?_ | refine q6 ?_ | (refine q7 ?_ ?_; (focus (with_unfolding_all rfl)))))
 (first | exact hq | (revert hKR; revert KR; exact hq))) : P := h c1 c2 c3 c4 c5 c6 q
theorem u_eq (x y : Nat) : (uh x == uh y && ul x == ul y) = decide (x = y) := by
 by_cases h : x = y
 ·subst h
  simp
 ·rw [decide_eq_false h, Bool.and_eq_false_iff]
  by_cases h1 : uh x = uh y
  ·right
   rw [beq_eq_false_iff_ne]
   intro h2
   apply h
   unfold uh ul at *
   omega
  ·left
   rw [beq_eq_false_iff_ne]
   exact h1
set_option maxHeartbeats 2000000 in
theorem Yfa (a b : Int × Int) (ha : vfrac a.1 a.2 = true) (hb : vfrac b.1 b.2 = true) : PRet Tryz.prog 35 [frD a, frD b] (int (cmpV a b)) := by
 obtain ⟨a1, a2, a3, a4, a5⟩ := Y09 ha
 obtain ⟨b1, b2, b3, b4, b5⟩ := Y09 hb
 obtain ⟨n, d⟩ := a
 obtain ⟨u, v⟩ := b
 simp only at *
 obtain ⟨D, rfl⟩ : ∃ D : Nat, d = (D : Int) := ⟨d.toNat, by omega⟩
 obtain ⟨V, rfl⟩ : ∃ V : Nat, v = (V : Int) := ⟨v.toNat, by omega⟩
 obtain ⟨g1, g2⟩ := Yce (n := n) (u := u) (D := (D : Int)) (V := (V : Int)) (by omega) (by omega)
 have hpos := fun h1 h2 => Yg7 (n := n) (u := u) (D := D) (V := V) h1 h2
 have hneg := fun h1 h2 => Yg8 (n := n) (u := u) (D := D) (V := V) h1 h2
 have s1 := Y17 n (by omega)
 have s2 := Y17 u (by omega)
 have s3 := Y17 (D : Int) (by omega)
 have s4 := Y17 (V : Int) (by omega)
 rw [Int.natAbs_natCast] at s3 s4
 have m1 := Y3w n.natAbs V (by omega)
 have m2 := Y3w u.natAbs D (by omega)
 have c1 : n.natAbs * V ≤ 1152921504606846976 * 1152921504606846976 := Nat.mul_le_mul (by omega) (by omega)
 have c2 : u.natAbs * D ≤ 1152921504606846976 * 1152921504606846976 := Nat.mul_le_mul (by omega) (by omega)
 have l1 := Yaf (n.natAbs * V) (u.natAbs * D) (by omega)
 have huv := u_eq (n.natAbs * V) (u.natAbs * D)
 generalize cmpV (n, (D : Int)) (u, (V : Int)) = c at *
 generalize n.natAbs * V = x at *
 generalize u.natAbs * D = y at *
 refine PRet.intro 2 fun t => ACall.enter tab_ok Tryz.func35 rfl rfl Tryz.ntmps35 (by simp) ?_
 simp only [Y06]
 ((refine gga0 ?_))
 ((repeat refine Y01 ?_); (refine gdta6_ACR s1 s2 s3 s4 m1 m2 ?_))
 have htf : (true == false) = false := rfl
 have hft : (false == true) = false := rfl
 by_cases hn : n < 0
 ·by_cases hu : u < 0
  ·rw [hneg hn hu]
   have hn' : ¬ 0 ≤ n := by omega
   have hu' : ¬ 0 ≤ u := by omega
   by_cases hxy : x = y
   ·rw [decide_eq_true hxy] at huv
    rw [if_neg (by omega), if_neg (by omega)]
    ((refine ggb0 (F := _∧_∧_∧_∧_) ⟨hn, hu, hn', hu', huv⟩ ?_))
    ((repeat refine Y01 ?_); (refine wta ?_); simp (disch := omega) only [retQ, resD, oneD, rsv, rs, rsL, Y02, List.map_map, bb, bt, zDs, zD, Y00, simprocAttr, Tryz.results35])
   ·rw [decide_eq_false hxy] at huv
    by_cases hlt : x < y
    ·rw [decide_eq_true hlt] at l1
     rw [if_neg (by omega), if_pos (by omega)]
     ((refine ggb0 (F := _∧_∧_∧_∧_) ⟨hn, hu, hn', hu', huv⟩ ?_))
     ((repeat refine Y01 ?_); (refine gdzb1 (F := _∧_∧_∧_) ⟨hn, hn', htf, hft⟩ l1 ?_))
     ((refine ggb0 (F := _∧_) ⟨htf, hft⟩ ?_))
     ((repeat refine Y01 ?_); (refine wta ?_); simp (disch := omega) only [retQ, resD, oneD, rsv, rs, rsL, Y02, List.map_map, bb, bt, zDs, zD, Y00, simprocAttr, Tryz.results35])
    ·rw [decide_eq_false hlt] at l1
     rw [if_pos (by omega)]
     ((refine ggb0 (F := _∧_∧_∧_∧_) ⟨hn, hu, hn', hu', huv⟩ ?_))
     ((repeat refine Y01 ?_); (refine gdzb1 (F := _∧_∧_∧_) ⟨hn, hn', htf, hft⟩ l1 ?_))
     ((refine ggb0 (F := _∧_) ⟨htf, hft⟩ ?_))
     ((repeat refine Y01 ?_); (refine wta ?_); simp (disch := omega) only [retQ, resD, oneD, rsv, rs, rsL, Y02, List.map_map, bb, bt, zDs, zD, Y00, simprocAttr, Tryz.results35])
  ·rw [g1 ⟨hn, hu⟩]
   have hu' : 0 ≤ u := by omega
   ((refine ggb0 (F := _∧_∧_) ⟨hn, hu, hu'⟩ ?_))
   ((repeat refine Y01 ?_); (refine wta ?_); simp (disch := omega) only [retQ, resD, oneD, rsv, rs, rsL, Y02, List.map_map, bb, bt, zDs, zD, Y00, simprocAttr, Tryz.results35])
 ·have hn' : 0 ≤ n := by omega
  by_cases hu : u < 0
  ·rw [g2 ⟨hn, hu⟩]
   ((refine ggb0 (F := _∧_∧_) ⟨hn, hu, hn'⟩ ?_))
   ((repeat refine Y01 ?_); (refine wta ?_); simp (disch := omega) only [retQ, resD, oneD, rsv, rs, rsL, Y02, List.map_map, bb, bt, zDs, zD, Y00, simprocAttr, Tryz.results35])
  ·rw [hpos hn hu]
   have hu' : 0 ≤ u := by omega
   by_cases hxy : x = y
   ·rw [decide_eq_true hxy] at huv
    rw [if_neg (by omega), if_neg (by omega)]
    ((refine ggb0 (F := _∧_∧_∧_∧_) ⟨hn, hu, hn', hu', huv⟩ ?_))
    ((repeat refine Y01 ?_); (refine wta ?_); simp (disch := omega) only [retQ, resD, oneD, rsv, rs, rsL, Y02, List.map_map, bb, bt, zDs, zD, Y00, simprocAttr, Tryz.results35])
   ·rw [decide_eq_false hxy] at huv
    by_cases hlt : x < y
    ·rw [decide_eq_true hlt] at l1
     rw [if_pos (by omega)]
     ((refine ggb0 (F := _∧_∧_∧_∧_) ⟨hn, hu, hn', hu', huv⟩ ?_))
     ((repeat refine Y01 ?_); (refine gdzb1 (F := _∧_∧_∧_) ⟨hn, hn', htf, hft⟩ l1 ?_))
     ((refine ggb0 (F := _∧_) ⟨htf, hft⟩ ?_))
     ((repeat refine Y01 ?_); (refine wta ?_); simp (disch := omega) only [retQ, resD, oneD, rsv, rs, rsL, Y02, List.map_map, bb, bt, zDs, zD, Y00, simprocAttr, Tryz.results35])
    ·rw [decide_eq_false hlt] at l1
     rw [if_neg (by omega), if_pos (by omega)]
     ((refine ggb0 (F := _∧_∧_∧_∧_) ⟨hn, hu, hn', hu', huv⟩ ?_))
     ((repeat refine Y01 ?_); (refine gdzb1 (F := _∧_∧_∧_) ⟨hn, hn', htf, hft⟩ l1 ?_))
     ((refine ggb0 (F := _∧_) ⟨htf, hft⟩ ?_))
     ((repeat refine Y01 ?_); (refine wta ?_); simp (disch := omega) only [retQ, resD, oneD, rsv, rs, rsL, Y02, List.map_map, bb, bt, zDs, zD, Y00, simprocAttr, Tryz.results35])
theorem Ygr {a b : Int × Int} (ha : vfrac a.1 a.2 = true) (hb : vfrac b.1 b.2 = true) : PRet Tryz.prog 68 [frD a, frD b] (fe (divP a b)) := by
 rw [Y8i ha hb]
 exact Yf8 a b ha hb
end Go.Proofs.YtpcakodemleoiaaGreat.T

namespace Go.Proofs.YtpcakodemleoiaaGreat.T
open Go Go.RowKit Lin
theorem Y8n {α : Type} (p : α → Bool) {l : List α} {k : Nat} {x : α} (h : l[k]? = some x) : (l.take (k + 1)).any p = ((l.take k).any p || p x) := by
 rw [List.take_add_one, h, Option.toList_some, List.any_append]
 simp
set_option maxRecDepth 100000 in
set_option maxHeartbeats 16000000 in
theorem given14_ref (s : Sy) (hf : Fits s) : PRet Tryz.prog 90 [syD s] (int (givL s)) := by
 refine PRet.intro 1 fun t => ACall.enter tab_ok Tryz.func90 rfl rfl Tryz.ntmps90 (by simp) ?_
 simp only [Y06]
 have hV := valid_ref s hf
 cases hv : Y0f s
 ·rw [hv] at hV
  have e : givL s = 1 := by unfold givL; rw [if_neg (by simp [hv])]
  rw [e]
  ((refine gga1 hV ?_))
  ((repeat refine Y01 ?_); (refine wta ?_); simp (disch := omega) only [retQ, resD, oneD, rsv, rs, rsL, Y02, List.map_map, bb, bt, zDs, zD, Y00, simprocAttr, Tryz.results90])
 rw [hv] at hV
 have hH := Ycr s (by have := hf.nr; omega)
 by_cases hx : hix s < 0
 ·have e : givL s = 12 := by unfold givL; rw [if_pos hv, if_pos hx]
  rw [e]
  ((refine ggb2 hx hV hH ?_))
  ((repeat refine Y01 ?_); (refine wta ?_); simp (disch := omega) only [retQ, resD, oneD, rsv, rs, rsL, Y02, List.map_map, bb, bt, zDs, zD, Y00, simprocAttr, Tryz.results90])
 have hdr := Y1l s.rs
 have hlr := Y23 s.rs
 have o1 := refOf 1
 have hnr := hf.nr
 ((refine ggb2 hx hV hH ?_))
 ((repeat refine Y01 ?_))
 refine Y0j (fun x : Nat => ⟨[], [], x⟩) (fun _ => (s.rs.any fun r => !r.hl && lossR r) = false) ?_ ?_
 ·refine Y04 ?_
  refine Y07 (fun x : Nat × Nat => ⟨[(1, .ptr 0 (t + 1) 0), (3, int x.1)], [some ⟨25, t + 1, [bks s.bs, rps s.rs]⟩], x.2⟩) (fun x => s.rs.length - x.1) (fun x => x.1 ≤ s.rs.length ∧ ((s.rs.take x.1).any fun r => !r.hl && lossR r) = false) (0, t + 1) ⟨Nat.zero_le _, rfl⟩ (by (simp (disch := omega) only [StLe, tmLe, Y03, hpLe, bl, bb, bt, zDs, zD, Y00, simprocAttr])) ?_
  rintro ⟨i, tt⟩ ⟨hi, ha⟩
  simp only at hi ha
  by_cases hlt : i < s.rs.length
  ·obtain ⟨r, hr⟩ : ∃ y, s.rs[i]? = some y := ⟨_, List.getElem?_eq_getElem hlt⟩
   have hr1 : (rpC s.rs)[i * 3 + 1]? = some (hds r.hs) := Y4c s.rs i r hr 1 (by decide)
   have hr2 : (rpC s.rs)[i * 3 + 2]? = some (bool r.hl) := Y4c s.rs i r hr 2 (by decide)
   have hdh := Y2a r.hs
   have hsr := (hf.sr r (List.mem_of_getElem? hr)).2
   have hst := Y8n (fun r : Rp => !r.hl && lossR r) hr
   rw [ha, Bool.false_or] at hst
   ((refine ggb0 (F := _∧_∧_) ⟨@Int.ofNat_lt, hlt, hdr⟩ ?_))
   ((repeat refine Y01 ?_))
   refine Y04 ?_
   ((refine gga0 ?_))
   refine Y04 ?_
   refine Y07 (fun x : Nat × Nat => ⟨[(1, .ptr 0 (t + 1) 0), (3, int i), (4, int x.1)], [some ⟨25, t + 1, [bks s.bs, rps s.rs]⟩], x.2⟩) (fun x => r.hs.length - x.1) (fun x => x.1 ≤ r.hs.length ∧ (!r.hl && (r.hs.take x.1).any fun h => !(h.n == 1 && h.d == 1)) = false) (0, tt) ⟨Nat.zero_le _, by simp⟩ (by (simp (disch := omega) only [StLe, tmLe, Y03, hpLe, bl, bb, bt, zDs, zD, Y00, simprocAttr])) ?_
   rintro ⟨j, t2⟩ ⟨hj, hb⟩
   simp only at hj hb
   by_cases hlj : j < r.hs.length
   ·obtain ⟨h, hh⟩ : ∃ y, r.hs[j]? = some y := ⟨_, List.getElem?_eq_getElem hlj⟩
    have hrl := hdC_loss hh
    have hsj := Y8n (fun h : Hd => !(h.n == 1 && h.d == 1)) hh
    cases hhl : r.hl
    ·rw [hhl] at hr2 hb
     rw [Bool.not_false, Bool.true_and] at hb
     rw [hb, Bool.false_or] at hsj
     cases hc : (h.n == 1 && h.d == 1)
     ·have e : givL s = 11 := by
       unfold givL
       rw [if_pos hv, if_neg hx, if_pos]
       refine List.any_eq_true.2 ⟨r, List.mem_of_getElem? hr, ?_⟩
       rw [hhl, Bool.not_false, Bool.true_and]
       exact List.any_eq_true.2 ⟨h, List.mem_of_getElem? hh, by rw [hc]; rfl⟩
      rw [e]
      ((refine ggb0 (F := _∧_∧_∧_∧_∧_) ⟨@Int.ofNat_lt, hlj, hlt, hdr, hr1, hdh⟩ ?_))
      ((repeat refine Y01 ?_))
      refine Y04 ?_
      ((repeat refine Y01 ?_); (refine gdzb1 (F := _∧_∧_∧_∧_∧_∧_∧_) ⟨hlt, hlj, hdr, hdh, hr1, hr2, hrl, hc⟩ o1 ?_))
      ((refine gga0 ?_))
      ((repeat refine Y01 ?_); (refine wta ?_); simp (disch := omega) only [retQ, resD, oneD, rsv, rs, rsL, Y02, List.map_map, bb, bt, zDs, zD, Y00, simprocAttr, Tryz.results90])
     ·rw [hc, Bool.not_true] at hsj
      ((refine ggb0 (F := _∧_∧_∧_∧_∧_) ⟨@Int.ofNat_lt, hlj, hlt, hdr, hr1, hdh⟩ ?_))
      ((repeat refine Y01 ?_))
      refine Y04 ?_
      ((repeat refine Y01 ?_); (refine gdzb1 (F := _∧_∧_∧_∧_∧_∧_∧_) ⟨hlt, hlj, hdr, hdh, hr1, hr2, hrl, hc⟩ o1 ?_))
      ((refine gga0 ?_))
      refine ⟨(j + 1, t2 + 1), ⟨hlj, by rw [hsj, Bool.and_false]⟩, by show r.hs.length - (j + 1) < r.hs.length - j; omega, ?_⟩
      (simp (disch := omega) only [StLe, tmLe, Y03, hpLe, bl, bb, bt, zDs, zD, Y00, simprocAttr])
    ·rw [hhl] at hr2 hb
     ((refine ggb0 (F := _∧_∧_∧_∧_∧_) ⟨@Int.ofNat_lt, hlj, hlt, hdr, hr1, hdh⟩ ?_))
     ((repeat refine Y01 ?_))
     refine Y04 ?_
     ((repeat refine Y01 ?_); (refine gdzb1 (F := _∧_∧_∧_∧_∧_∧_) ⟨hlt, hlj, hdr, hdh, hr1, hr2, hrl⟩ o1 ?_))
     ((refine gga0 ?_))
     refine ⟨(j + 1, t2 + 1), ⟨hlj, by rw [Bool.not_true, Bool.false_and]⟩, by show r.hs.length - (j + 1) < r.hs.length - j; omega, ?_⟩
     (simp (disch := omega) only [StLe, tmLe, Y03, hpLe, bl, bb, bt, zDs, zD, Y00, simprocAttr])
   ·have hje : j = r.hs.length := by omega
    subst hje
    rw [List.take_length] at hb
    ((refine wqb (F := _∧_∧_∧_∧_) ⟨@Int.lt_irrefl, hlt, hdr, hr1, hdh⟩ ?_))
    ((refine wia ?_))
    ((refine wxa ?_))
    have hb' : (!r.hl && lossR r) = false := hb
    rw [hb'] at hst
    ((refine gga0 ?_))
    refine ⟨(i + 1, t2), ⟨hlt, hst⟩, by show s.rs.length - (i + 1) < s.rs.length - i; omega, ?_⟩
    (simp (disch := omega) only [StLe, tmLe, Y03, hpLe, bl, bb, bt, zDs, zD, Y00, simprocAttr])
  ·have hie : i = s.rs.length := by omega
   subst hie
   rw [List.take_length] at ha
   ((refine wqb (F := _∧_) ⟨@Int.lt_irrefl, hdr⟩ ?_))
   ((refine wia ?_))
   ((refine wxa ?_))
   exact ⟨tt, ha, by (simp (disch := omega) only [StLe, tmLe, Y03, hpLe, bl, bb, bt, zDs, zD, Y00, simprocAttr])⟩
 rintro tt ha
 have e : givL s = 0 := by unfold givL; rw [if_pos hv, if_neg hx, if_neg (by rw [ha]; decide)]
 rw [e]
 ((refine gga0 ?_))
 ((repeat refine Y01 ?_); (refine wta ?_); simp (disch := omega) only [retQ, resD, oneD, rsv, rs, rsL, Y02, List.map_map, bb, bt, zDs, zD, Y00, simprocAttr, Tryz.results90])
def nzK (l : List (Int × Int)) (k : Nat) : Int := idx (fun x => x.1 != 0) (l.take k) 0
theorem Ydv {α : Type} (p : α → Bool) (x : α) : ∀ (l : List α) (n : Nat), (idx p l n < 0 → idx p (l ++ [x]) n = if p x = true then ((n + l.length : Nat) : Int) else -1) ∧ (¬ idx p l n < 0 → idx p (l ++ [x]) n = idx p l n)
 | [], n => ⟨fun _ => by simp [idx], fun h => absurd (show idx p ([] : List α) n < 0 by simp [idx]) h⟩
 | y :: l, n => by
  obtain ⟨a, b⟩ := Ydv p x l (n + 1)
  by_cases hy : p y = true
  ·have e : idx p (y :: l) n = (n : Int) := by simp [idx, hy]
   have e2 : idx p (y :: l ++ [x]) n = (n : Int) := by simp [idx, hy]
   exact ⟨fun h => by rw [e] at h; omega, fun _ => by rw [e, e2]⟩
  ·have e : idx p (y :: l) n = idx p l (n + 1) := by simp [idx, hy]
   have e2 : idx p (y :: l ++ [x]) n = idx p (l ++ [x]) (n + 1) := by simp [idx, hy]
   rw [e, e2]
   refine ⟨fun h => ?_, b⟩
   rw [a h, show n + 1 + l.length = n + (y :: l).length by simp; omega]
theorem nzK_step {l : List (Int × Int)} {k : Nat} {x : Int × Int} (h : l[k]? = some x) : nzK l (k + 1) = if nzK l k < 0 then (if (x.1 != 0) = true then (k : Int) else -1) else nzK l k := by
 have hk := (List.getElem?_eq_some_iff.1 h).1
 obtain ⟨a, b⟩ := Ydv (fun x : Int × Int => x.1 != 0) x (l.take k) 0
 have e : nzK l (k + 1) = idx (fun x => x.1 != 0) (l.take k ++ [x]) 0 := by unfold nzK; rw [List.take_add_one, h, Option.toList_some]
 rw [e]
 by_cases hn : nzK l k < 0
 ·rw [if_pos hn, a hn, List.length_take, Nat.min_eq_left (by omega), Nat.zero_add]
 ·rw [if_neg hn]
  exact b hn
theorem nzK_cases (l : List (Int × Int)) (k : Nat) : nzK l k = -1 ∨ 0 ≤ nzK l k := by
 unfold nzK
 obtain ⟨h1, h2⟩ := Y6l (fun x : Int × Int => x.1 != 0) (l.take k) 0
 cases h : (l.take k).any fun x => x.1 != 0
 ·exact .inl (h2 h)
 ·obtain ⟨j, x, e, _, _⟩ := h1 h
  right
  rw [e]
  omega
theorem Yh1 {l : List (Int × Int)} {i : Nat} {p : Int × Int} (h : l[i]? = some p) : (frC l)[i * 2]? = some (int p.1) := Yfu l i p h
theorem balR_stepR {t x y : Int × Int} {p w : List (Int × Int)} {k : Nat} (hx : p[k]? = some x) (hy : w[k]? = some y) (ok : Bool) : balR t (p.drop k) (w.drop k) ok = if (mulP x t).2 = 0 then balR t (p.drop (k + 1)) (w.drop (k + 1)) (ok && decide ((mulP x t).1 = y)) else (false, (mulP x t).2) := by
 rw [List.drop_eq_getElem_cons (List.getElem?_eq_some_iff.1 hx).1, List.drop_eq_getElem_cons (List.getElem?_eq_some_iff.1 hy).1, (List.getElem?_eq_some_iff.1 hx).2, (List.getElem?_eq_some_iff.1 hy).2]
 rfl
set_option maxRecDepth 100000 in
set_option maxHeartbeats 16000000 in
theorem quot_ref (w p : List (Int × Int)) (hl : w.length = p.length) (h6 : p.length ≤ 1000) (vw : ∀ x ∈ w, vfrac x.1 x.2 = true) (vp : ∀ x ∈ p, vfrac x.1 x.2 = true) : PRet Tryz.prog 94 [frs w, frs p] (fe (balP w p)) := by
 refine PRet.intro 1 fun t => ACall.enter tab_ok Tryz.func94 rfl rfl Tryz.ntmps94 (by simp) ?_
 simp only [Y06]
 have hdw := Y2q w
 have hdp := Y2q p
 have hz0 : nzK p 0 = -1 := rfl
 ((refine gga0 ?_))
 ((repeat refine Y01 ?_))
 refine Y0j (fun x : Nat => ⟨[(0, frs w), (1, frs p), (4, .ptr 0 (t + 1) 0), (6, int (nzI p)), (7, bool (w.any fun x => x.1 != 0))], [some ⟨33, t + 1, [int 0, int 0]⟩], x⟩) (fun _ => True) ?_ ?_
 ·refine Y04 ?_
  refine Y07 (fun x : Nat × Nat => ⟨[(0, frs w), (1, frs p), (4, .ptr 0 (t + 1) 0), (6, int (nzK p x.1)), (7, bool ((w.take x.1).any fun x => x.1 != 0)), (8, int x.1)], [some ⟨33, t + 1, [int 0, int 0]⟩], x.2⟩) (fun x => p.length - x.1) (fun x => x.1 ≤ p.length) (0, t + 1) (Nat.zero_le _) (by (simp (disch := omega) only [StLe, tmLe, Y03, hpLe, bl, bb, bt, zDs, zD, Y00, simprocAttr, hz0, List.take_zero, List.any_nil])) ?_
  rintro ⟨k, tt⟩ hk
  simp only at hk
  by_cases hlt : k < p.length
  ·have hlw : k < w.length := by omega
   obtain ⟨x, hx⟩ : ∃ y, p[k]? = some y := ⟨_, List.getElem?_eq_getElem hlt⟩
   obtain ⟨y, hy⟩ : ∃ y, w[k]? = some y := ⟨_, List.getElem?_eq_getElem hlw⟩
   have hrx := Yh1 hx
   have hry := Yh1 hy
   have hst := nzK_step hx
   have hsw := Y8n (fun x : Int × Int => x.1 != 0) hy
   have hcs := nzK_cases p k
   generalize nzK p k = K at *
   ((refine ggb0 (F := _∧_∧_) ⟨@Int.ofNat_lt, hlt, hdp⟩ ?_))
   ((repeat refine Y01 ?_))
   refine Y04 ?_
   cases ha : (w.take k).any fun x => x.1 != 0
   all_goals
    rw [ha] at hsw
    simp only [Bool.true_or, Bool.false_or] at hsw
    by_cases hK : K < 0
    ·rw [if_pos hK] at hst
     cases hxx : (x.1 != 0)
     ·rw [hxx, if_neg (by decide)] at hst
      have eK : K = -1 := by omega
      ((refine ggb0 (F := _∧_∧_∧_∧_∧_∧_∧_) ⟨hlt, hlw, hdp, hdw, hrx, hry, hxx, hK⟩ ?_))
      refine ⟨(k + 1, tt), hlt, by show p.length - (k + 1) < p.length - k; omega, ?_⟩
      simp only [hst, hsw, eK]
      (simp (disch := omega) only [StLe, tmLe, Y03, hpLe, bl, bb, bt, zDs, zD, Y00, simprocAttr])
     ·rw [hxx, if_pos rfl] at hst
      ((refine ggb0 (F := _∧_∧_∧_∧_∧_∧_∧_) ⟨hlt, hlw, hdp, hdw, hrx, hry, hxx, hK⟩ ?_))
      refine ⟨(k + 1, tt), hlt, by show p.length - (k + 1) < p.length - k; omega, ?_⟩
      simp only [hst, hsw]
      (simp (disch := omega) only [StLe, tmLe, Y03, hpLe, bl, bb, bt, zDs, zD, Y00, simprocAttr])
    ·rw [if_neg hK] at hst
     cases hxx : (x.1 != 0)
     all_goals
      ((refine ggb0 (F := _∧_∧_∧_∧_∧_∧_∧_) ⟨hlt, hlw, hdp, hdw, hrx, hry, hxx, hK⟩ ?_))
      refine ⟨(k + 1, tt), hlt, by show p.length - (k + 1) < p.length - k; omega, ?_⟩
      simp only [hst, hsw]
      (simp (disch := omega) only [StLe, tmLe, Y03, hpLe, bl, bb, bt, zDs, zD, Y00, simprocAttr])
  ·have hke : k = p.length := by omega
   subst hke
   have e1 : nzK p p.length = nzI p := by unfold nzK nzI; rw [List.take_length]
   have e2 : w.take p.length = w := List.take_of_length_le (by omega)
   rw [e1, e2]
   ((refine wqb (F := _∧_) ⟨@Int.lt_irrefl, hdp⟩ ?_))
   ((refine wia ?_))
   ((refine wxa ?_))
   exact ⟨tt, trivial, by (simp (disch := omega) only [StLe, tmLe, Y03, hpLe, bl, bb, bt, zDs, zD, Y00, simprocAttr])⟩
 rintro tt -
 unfold balP
 by_cases hn : nzI p < 0
 ·rw [if_pos hn]
  have hw := Yal w
  cases hg : w.any fun x => x.1 != 0
  ·rw [if_pos (hw.2 hg)]
   ((refine ggb0 hn ?_))
   ((repeat refine Y01 ?_); (refine wta ?_); simp (disch := omega) only [retQ, resD, oneD, rsv, rs, rsL, Y02, List.map_map, bb, bt, zDs, zD, Y00, simprocAttr, Tryz.results94])
  ·rw [if_neg (by rw [hw, hg]; decide)]
   ((refine ggb0 hn ?_))
   ((repeat refine Y01 ?_); (refine wta ?_); simp (disch := omega) only [retQ, resD, oneD, rsv, rs, rsL, Y02, List.map_map, bb, bt, zDs, zD, Y00, simprocAttr, Tryz.results94])
 rw [if_neg hn]
 obtain ⟨hk, hnz, hmem⟩ := Yfh hn
 obtain ⟨K, eK⟩ : ∃ K : Nat, nzI p = (K : Int) := ⟨(nzI p).toNat, by omega⟩
 rw [eK] at hn hk hnz hmem ⊢
 rw [Int.toNat_natCast] at hk hnz hmem ⊢
 have hkw : K < w.length := by omega
 obtain ⟨x, hx⟩ : ∃ y, p[K]? = some y := ⟨_, List.getElem?_eq_getElem hk⟩
 obtain ⟨y, hy⟩ : ∃ y, w[K]? = some y := ⟨_, List.getElem?_eq_getElem hkw⟩
 have hrx := Y0p p K x hx
 have hry := Y0p w K y hy
 have ex : p.getD K (0, 0) = x := by rw [List.getD_eq_getElem?_getD, hx]; rfl
 have ey : w.getD K (0, 0) = y := by rw [List.getD_eq_getElem?_getD, hy]; rfl
 rw [ex] at hnz
 rw [ex, ey]
 have vx := vp x (List.mem_of_getElem? hx)
 have vy := vw y (List.mem_of_getElem? hy)
 have hD := Ygr (a := y) (b := x) vy vx
 have hDv : (divP y x).2 = 0 → vfrac (divP y x).1.1 (divP y x).1.2 = true := fun h => (Val.divP (Val.self vy) (Val.self vx) h).v
 generalize divP y x = Q at *
 by_cases h0 : Q.2 = 0
 rotate_left 1
 ·have e1 : (Q.2 != 0) = true := by simpa using h0
  rw [if_neg h0]
  ((refine ggb0 hn ?_))
  ((repeat refine Y01 ?_); (refine gdob1 (F := _∧_∧_∧_∧_∧_) ⟨hk, hkw, hdp, hdw, hrx, hry⟩ hD ?_))
  ((refine ggb0 e1 ?_))
  ((repeat refine Y01 ?_); (refine wta ?_); simp (disch := omega) only [retQ, resD, oneD, rsv, rs, rsL, Y02, List.map_map, bb, bt, zDs, zD, Y00, simprocAttr, Tryz.results94])
 have e1 : (Q.2 != 0) = false := by simpa using h0
 rw [if_pos h0]
 have hv := hDv h0
 generalize hB : balR Q.1 p w true = B
 ((refine ggb0 hn ?_))
 ((repeat refine Y01 ?_); (refine gdob1 (F := _∧_∧_∧_∧_∧_) ⟨hk, hkw, hdp, hdw, hrx, hry⟩ hD ?_))
 ((refine ggb0 e1 ?_))
 ((repeat refine Y01 ?_))
 refine Y0j (fun x : Nat => ⟨[(4, .ptr 0 (t + 1) 0), (7, bool (!B.1)), (9, .ptr 1 (tt + 1) 0)], [some ⟨33, t + 1, [int 0, int 0]⟩, some ⟨33, tt + 1, [int Q.1.1, int Q.1.2]⟩], x⟩) (fun _ => B.2 = 0) ?_ ?_
 ·refine Y04 ?_
  refine Y07 (fun x : Bool × Nat × Nat => ⟨[(0, frs w), (1, frs p), (4, .ptr 0 (t + 1) 0), (7, bool (!x.1)), (9, .ptr 1 (tt + 1) 0), (11, int x.2.1)], [some ⟨33, t + 1, [int 0, int 0]⟩, some ⟨33, tt + 1, [int Q.1.1, int Q.1.2]⟩], x.2.2⟩) (fun x => p.length - x.2.1) (fun x => x.2.1 ≤ p.length ∧ balR Q.1 (p.drop x.2.1) (w.drop x.2.1) x.1 = B) (true, 0, tt + 1) ⟨Nat.zero_le _, hB⟩ (by (simp (disch := omega) only [StLe, tmLe, Y03, hpLe, bl, bb, bt, zDs, zD, Y00, simprocAttr])) ?_
  rintro ⟨o, k, t2⟩ ⟨hk2, hd⟩
  simp only at hk2 hd
  by_cases hlt : k < p.length
  ·have hlw : k < w.length := by omega
   obtain ⟨a, ha⟩ : ∃ y, p[k]? = some y := ⟨_, List.getElem?_eq_getElem hlt⟩
   obtain ⟨b, hb⟩ : ∃ y, w[k]? = some y := ⟨_, List.getElem?_eq_getElem hlw⟩
   have hra := Y0p p k a ha
   have hrb := Y0p w k b hb
   have va := vp a (List.mem_of_getElem? ha)
   have hM := Y5h a Q.1 va hv
   rw [balR_stepR ha hb, Y41 va hv] at hd
   generalize mulR a Q.1 = M at *
   ((refine ggb0 (F := _∧_∧_) ⟨@Int.ofNat_lt, hlt, hdp⟩ ?_))
   ((repeat refine Y01 ?_))
   refine Y04 ?_
   by_cases h1 : M.2 = 0
   rotate_left 1
   ·have e2 : (M.2 != 0) = true := by simpa using h1
    rw [if_neg h1] at hd
    subst hd
    rw [if_neg h1]
    ((repeat refine Y01 ?_); (refine gdob1 (F := _∧_∧_) ⟨hlt, hdp, hra⟩ hM ?_))
    ((refine ggb0 e2 ?_))
    ((repeat refine Y01 ?_); (refine wta ?_); simp (disch := omega) only [retQ, resD, oneD, rsv, rs, rsL, Y02, List.map_map, bb, bt, zDs, zD, Y00, simprocAttr, Tryz.results94])
   have e2 : (M.2 != 0) = false := by simpa using h1
   rw [if_pos h1] at hd
   cases o
   ·rw [Bool.false_and] at hd
    ((repeat refine Y01 ?_); (refine gdob1 (F := _∧_∧_) ⟨hlt, hdp, hra⟩ hM ?_))
    ((refine ggb0 e2 ?_))
    ((repeat refine Y01 ?_); (refine gdzb (F := _∧_∧_) ⟨hlw, hdw, hrb⟩ ?_))
    ((refine gga0 ?_))
    refine ⟨(false, k + 1, t2 + 1 + 1), ⟨hlt, hd⟩, by show p.length - (k + 1) < p.length - k; omega, ?_⟩
    (simp (disch := omega) only [StLe, tmLe, Y03, hpLe, bl, bb, bt, zDs, zD, Y00, simprocAttr])
   ·rw [Bool.true_and] at hd
    have e3 : decide (M.1 = b) = (M.1.1 == b.1 && M.1.2 == b.2) := by
     rw [Bool.eq_iff_iff, decide_eq_true_eq, Bool.and_eq_true, beq_iff_eq, beq_iff_eq]
     exact ⟨fun h => by rw [h]; exact ⟨rfl, rfl⟩, fun h => Prod.ext h.1 h.2⟩
    rw [e3] at hd
    ((repeat refine Y01 ?_); (refine gdob1 (F := _∧_∧_) ⟨hlt, hdp, hra⟩ hM ?_))
    ((refine ggb0 e2 ?_))
    ((repeat refine Y01 ?_); (refine gdzb (F := _∧_∧_) ⟨hlw, hdw, hrb⟩ ?_))
    ((refine gga0 ?_))
    refine ⟨((M.1.1 == b.1 && M.1.2 == b.2), k + 1, t2 + 1 + 1), ⟨hlt, hd⟩, by show p.length - (k + 1) < p.length - k; omega, ?_⟩
    (simp (disch := omega) only [StLe, tmLe, Y03, hpLe, bl, bb, bt, zDs, zD, Y00, simprocAttr])
  ·have hke : k = p.length := by omega
   subst hke
   have hde : balR Q.1 (p.drop p.length) (w.drop p.length) o = (o, 0) := by rw [List.drop_eq_nil_of_le (Nat.le_refl _)]; cases w.drop p.length <;> rfl
   rw [hde] at hd
   subst hd
   ((refine wqb (F := _∧_) ⟨@Int.lt_irrefl, hdp⟩ ?_))
   ((refine wia ?_))
   ((refine wxa ?_))
   exact ⟨t2, rfl, by (simp (disch := omega) only [StLe, tmLe, Y03, hpLe, bl, bb, bt, zDs, zD, Y00, simprocAttr])⟩
 rintro t2 hB0
 rw [if_pos hB0]
 cases hb1 : B.1
 ·rw [if_pos rfl]
  ((refine gga0 ?_))
  ((repeat refine Y01 ?_); (refine wta ?_); simp (disch := omega) only [retQ, resD, oneD, rsv, rs, rsL, Y02, List.map_map, bb, bt, zDs, zD, Y00, simprocAttr, Tryz.results94])
 rw [if_neg (by decide)]
 by_cases hs : Q.1.1 < 0
 ·rw [if_pos hs]
  ((refine ggb0 hs ?_))
  ((repeat refine Y01 ?_); (refine wta ?_); simp (disch := omega) only [retQ, resD, oneD, rsv, rs, rsL, Y02, List.map_map, bb, bt, zDs, zD, Y00, simprocAttr, Tryz.results94])
 ·rw [if_neg hs]
  ((refine ggb0 hs ?_))
  ((repeat refine Y01 ?_); (refine wta ?_); simp (disch := omega) only [retQ, resD, oneD, rsv, rs, rsL, Y02, List.map_map, bb, bt, zDs, zD, Y00, simprocAttr, Tryz.results94])
end Go.Proofs.YtpcakodemleoiaaGreat.T

namespace Go.Proofs.YtpcakodemleoiaaGreat.T
open Go Go.RowKit Lin
set_option maxRecDepth 100000 in
set_option maxHeartbeats 16000000 in
theorem motions_ref (s : Sy) (hv : Y0f s = true) : PRet Tryz.prog 92 [syD s] (frss (Y1c s).1) := by
 refine PRet.intro 1 fun t => ACall.enter tab_ok Tryz.func92 rfl rfl Tryz.ntmps92 (by simp) ?_
 simp only [Y06]
 have ok := Y1b hv
 have hb6 := ok.b6
 have hr6 := ok.r6
 have hdb := Y2k s.bs
 have hdr := Y1l s.rs
 have hrow := ok.rows
 have ml := ok.mat_len
 have mw := ok.mat_wid
 have hz0 : fixP s.rs (-1) 0 = [] := rfl
 have hcol : ∀ i, i < s.rs.length → (trS s).getD i [] = colP (matS s) i := fun i h => Yd7 s h
 have hat : ∀ (j k : Nat) (b : Bk) (r : Rp), s.bs[j]? = some b → s.rs[k]? = some r → ∃ q, (matS s)[j]? = some q ∧ q[k]? = some (pull b.nm r.hs) := fun j k b r hb hr => ⟨s.rs.map fun r => pull b.nm r.hs, by unfold matS; rw [List.getElem?_map, hb]; rfl, by rw [List.getElem?_map, hr]; rfl⟩
 generalize hm : matS s = m at *
 ((refine gga0 ?_))
 refine AW.begin 3 1 126 rfl (by decide) ?_
 simp only [putTM, List.length_cons, List.length_nil, Nat.reduceEqDiff, ↓reduceIte, List.cons_append, List.nil_append]
 refine Y0j (fun x : Nat × Nat => ⟨[(1, .ptr 0 (t + 1) 0), (3, .own 1 1 x.1 0 (fixP s.rs (-1) s.rs.length).length)], [some ⟨25, t + 1, [bks s.bs, rps s.rs]⟩, some ⟨126, x.1, (rowsF s (fixP s.rs (-1) s.rs.length)).map ints⟩], x.2⟩) (fun _ => True) ?_ ?_
 ·refine Y04 ?_
  refine Y07 (fun x : Nat × Nat × Nat => ⟨[(1, .ptr 0 (t + 1) 0), (3, .own 1 1 x.2.1 0 (fixP s.rs (-1) x.1).length), (4, int x.1)], [some ⟨25, t + 1, [bks s.bs, rps s.rs]⟩, some ⟨126, x.2.1, (rowsF s (fixP s.rs (-1) x.1)).map ints⟩], x.2.2⟩) (fun x => s.rs.length - x.1) (fun x => x.1 ≤ s.rs.length) (0, t + 1 + 1, t + 1 + 1) (Nat.zero_le _) (by (simp (disch := omega) only [StLe, tmLe, Y03, hpLe, bl, bb, bt, zDs, zD, Y00, simprocAttr, hz0, rowsF, List.map_nil, List.length_nil])) ?_
  rintro ⟨k, g1, tt⟩ hk
  simp only at hk
  by_cases hlt : k < s.rs.length
  ·obtain ⟨r, hr⟩ : ∃ y, s.rs[k]? = some y := ⟨_, List.getElem?_eq_getElem hlt⟩
   have hst := Yc6 (but := -1) hr
   have hfl := Y3m s.rs (-1) k
   have hrl := Y2u s (fixP s.rs (-1) k)
   have hra := Y1s s.rs k r hr
   have hr2 : (rpC s.rs)[k * 3 + 2]? = some (bool r.hl) := Y4c s.rs k r hr 2 (by decide)
   have hk1 : (!((k : Int) == -1)) = true := by simp
   have hrm := List.mem_of_getElem? hr
   have hho := (ok.holds r hrm).2.1
   have hpu := ok.pulls r hrm
   generalize fixP s.rs (-1) k = L at *
   ((refine ggb0 (F := _∧_∧_) ⟨@Int.ofNat_lt, hlt, hdr⟩ ?_))
   ((repeat refine Y01 ?_))
   refine Y04 ?_
   cases hrl0 : r.hl
   rotate_left 1
   ·rw [hrl0] at hr2
    rw [hrl0, Bool.not_true, Bool.false_and, if_neg (by simp)] at hst
    ((refine ggb0 (F := _∧_∧_) ⟨hlt, hdr, hr2⟩ ?_))
    refine ⟨(k + 1, g1, tt), hlt, by show s.rs.length - (k + 1) < s.rs.length - k; omega, ?_⟩
    simp only [hst]
    (simp (disch := omega) only [StLe, tmLe, Y03, hpLe, bl, bb, bt, zDs, zD, Y00, simprocAttr])
   ·have hr2' := hr2
    rw [hrl0] at hr2
    rw [hrl0, Bool.not_false, Bool.true_and, if_pos hk1] at hst
    ((refine ggb0 (F := _∧_∧_) ⟨hlt, hdr, hr2⟩ ?_))
    refine AW.begin 5 1 3 rfl (by decide) ?_
    simp only [putTM, List.length_cons, List.length_nil, Nat.reduceEqDiff, ↓reduceIte, List.cons_append, List.nil_append]
    ((repeat refine Y01 ?_))
    refine Y0j (fun x : Nat × Nat => ⟨[(1, .ptr 0 (t + 1) 0), (3, .own 1 1 g1 0 L.length), (4, int k), (5, .own 1 2 x.1 0 m.length)], [some ⟨25, t + 1, [bks s.bs, rps s.rs]⟩, some ⟨126, g1, (rowsF s L).map ints⟩, some ⟨3, x.1, (colP m k).map int⟩], x.2⟩) (fun _ => True) ?_ ?_
    ·refine Y04 ?_
     refine Y07 (fun x : Nat × Nat × Nat => ⟨[(1, .ptr 0 (t + 1) 0), (3, .own 1 1 g1 0 L.length), (4, int k), (5, .own 1 2 x.2.1 0 x.1), (6, int x.1)], [some ⟨25, t + 1, [bks s.bs, rps s.rs]⟩, some ⟨126, g1, (rowsF s L).map ints⟩, some ⟨3, x.2.1, (colP (m.take x.1) k).map int⟩], x.2.2⟩) (fun x => s.bs.length - x.1) (fun x => x.1 ≤ s.bs.length) (0, tt + 1, tt + 1) (Nat.zero_le _) (by (simp (disch := omega) only [StLe, tmLe, Y03, hpLe, bl, bb, bt, zDs, zD, Y00, simprocAttr, colP])) ?_
     rintro ⟨j, g, t2⟩ hj
     simp only at hj
     by_cases hlj : j < s.bs.length
     ·obtain ⟨b, hb⟩ : ∃ y, s.bs[j]? = some y := ⟨_, List.getElem?_eq_getElem hlj⟩
      obtain ⟨q, hq, hqk⟩ := hat j k b r hb hr
      have hct := Ycd hq hqk
      have hcl : (colP (m.take j) k).length = j := by simp [colP]; omega
      have hrb := Y75 s.bs j b hb
      have hrb1 := Ygd hb
      have hP := pull_ref r b.nm (by omega) hpu
      ((refine ggb0 (F := _∧_∧_) ⟨@Int.ofNat_lt, hlj, hdb⟩ ?_))
      ((repeat refine Y01 ?_))
      refine Y04 ?_
      ((repeat refine Y01 ?_); (refine gdob1 (F := _∧_∧_∧_∧_∧_∧_∧_) ⟨hlt, hlj, hdr, hdb, hra, hrb, hrb1, hcl⟩ hP ?_))
      ((refine gga0 ?_))
      refine ⟨(j + 1, t2 + 1, t2 + 1 + 1), hlj, by show s.bs.length - (j + 1) < s.bs.length - j; omega, ?_⟩
      simp only [hct, List.map_append, List.map_cons, List.map_nil]
      (simp (disch := omega) only [StLe, tmLe, Y03, hpLe, bl, bb, bt, zDs, zD, Y00, simprocAttr])
     ·have hje : j = s.bs.length := by omega
      subst hje
      have hme : m.take s.bs.length = m := List.take_of_length_le (by omega)
      rw [hme]
      ((refine wqb (F := _∧_) ⟨@Int.lt_irrefl, hdb⟩ ?_))
      ((refine wia ?_))
      ((refine wxa ?_))
      exact ⟨(g, t2), trivial, by (simp (disch := omega) only [StLe, tmLe, Y03, hpLe, bl, bb, bt, zDs, zD, Y00, simprocAttr, ml])⟩
    rintro ⟨g, t2⟩ -
    have hcl : (colP m k).length = m.length := by simp [colP]
    have hfin : List.take m.length ((colP m k).map int) = (colP m k).map int := List.take_of_length_le (by simp [hcl])
    have hro : rowsF s (L ++ [k]) = rowsF s L ++ [colP m k] := by unfold rowsF; rw [List.map_append, List.map_cons, List.map_nil, hcol k hlt]
    ((refine AW.freeze (2) (by first | rfl | (simp only [setH, List.getElem?_cons_zero, List.getElem?_cons_succ, Y0d, Y0m, fz_bk, fz_rp, hcl, hfin, List.length_map, Nat.le_refl]; done)) ?_); simp (disch := omega) only [fzT, fz, fzL, Y0d, Y0m, fzH, fzB, eq_self, bb, bt, zDs, zD, Y00, simprocAttr, Y0d, Y0m, fz_bk, fz_rp, hcl, hfin, List.length_map, Nat.le_refl])
    ((refine ggb0 hrl ?_))
    refine ⟨(k + 1, t2 + 1, t2 + 1), hlt, by show s.rs.length - (k + 1) < s.rs.length - k; omega, ?_⟩
    simp only [hst, hro, List.length_append, List.length_cons, List.length_nil, List.map_append, List.map_cons, List.map_nil]
    (simp (disch := omega) only [StLe, tmLe, Y03, hpLe, bl, bb, bt, zDs, zD, Y00, simprocAttr])
  ·have hke : k = s.rs.length := by omega
   subst hke
   ((refine wqb (F := _∧_) ⟨@Int.lt_irrefl, hdr⟩ ?_))
   ((refine wia ?_))
   ((refine wxa ?_))
   exact ⟨(g1, tt), trivial, by (simp (disch := omega) only [StLe, tmLe, Y03, hpLe, bl, bb, bt, zDs, zD, Y00, simprocAttr])⟩
 rintro ⟨g1, tt⟩ -
 by_cases h0 : fixA s = []
 rotate_left 1
 ·obtain ⟨rv, rw', rm⟩ := Y3k ok h0 (by have := Y3m s.rs (-1) s.rs.length; unfold fixA; omega) (fun i hi => Y88 hi)
  have e : Y1c s = nullP (rowsF s (fixA s)) := by simp [Y1c, hv, h0]
  have hN := null_ref rv
  have hp : (0 : Int) < ((fixA s).length : Int) := by
   have := List.length_pos_iff.2 h0
   omega
  rw [e]
  have hrl := Y2u s (fixA s)
  have hgf : fixP s.rs (-1) s.rs.length = fixA s := rfl
  simp only [hgf]
  generalize fixA s = L at *
  generalize (nullP (rowsF s L)).1 = Y at *
  have hfin2 : List.take L.length ((rowsF s L).map ints) = (rowsF s L).map ints := List.take_of_length_le (by simp [rowsF])
  ((refine AW.freeze (1) (by first | rfl | (simp only [setH, List.getElem?_cons_zero, List.getElem?_cons_succ, Y0d, Y0m, fz_bk, fz_rp, hfin2, hrl, List.length_map, Nat.le_refl]; done)) ?_); simp (disch := omega) only [fzT, fz, fzL, Y0d, Y0m, fzH, fzB, eq_self, bb, bt, zDs, zD, Y00, simprocAttr, Y0d, Y0m, fz_bk, fz_rp, hfin2, hrl, List.length_map, Nat.le_refl])
  ((refine ggb1 (F := _∧_) ⟨hp, hrl⟩ hN ?_))
  ((repeat refine Y01 ?_); (refine wta ?_); simp (disch := omega) only [retQ, resD, oneD, bb, bt, zDs, zD, Y00, simprocAttr, Tryz.results92])
  exact Y2m _ _ (by simp only [tidyD, Y58, Bool.not_false, Bool.and_self])
 have e : Y1c s = (unitM s.bs.length, 0) := by simp [Y1c, hv, h0]
 have eM : unitM s.bs.length = unitL s.bs.length s.bs.length := rfl
 have hgf : fixP s.rs (-1) s.rs.length = [] := h0
 simp only [hgf, List.length_nil]
 rw [e]
 simp only [eM]
 have o0 := refOf 0
 have o1 := refOf 1
 have hzL : ∀ n, unitL n 0 = [] := fun n => rfl
 have hz1 : ∀ k, frC (unitC k 0) = [] := fun k => rfl
 ((refine gga0 ?_))
 refine AW.less ⟨[(1, .ptr 0 (t + 1) 0), (7, .sl 1 [] true), (8, int 0)], [some ⟨25, t + 1, [bks s.bs, rps s.rs]⟩], tt⟩ (by (simp (disch := omega) only [StLe, tmLe, Y03, hpLe, bl, bb, bt, zDs, zD, Y00, simprocAttr])) ?_
 generalize hn : s.bs.length = n at *
 refine AW.begin 7 1 28 rfl (by decide) ?_
 simp only [putTM, List.length_cons, List.length_nil, Nat.reduceEqDiff, ↓reduceIte, List.cons_append, List.nil_append]
 refine Y0j (fun x : Nat × Nat => ⟨[(7, .own 1 1 x.1 0 n)], [none, some ⟨28, x.1, (unitL n n).map frs⟩], x.2⟩) (fun _ => True) ?_ ?_
 ·refine Y04 ?_
  refine Y07 (fun x : Nat × Nat × Nat => ⟨[(1, .ptr 0 (t + 1) 0), (7, .own 1 1 x.2.1 0 x.1), (8, int x.1)], [some ⟨25, t + 1, [bks s.bs, rps s.rs]⟩, some ⟨28, x.2.1, (unitL n x.1).map frs⟩], x.2.2⟩) (fun x => n - x.1) (fun x => x.1 ≤ n) (0, tt + 1, tt + 1) (Nat.zero_le _) (by (simp (disch := omega) only [StLe, tmLe, Y03, hpLe, bl, bb, bt, zDs, zD, Y00, simprocAttr, hzL, List.map_nil])) ?_
  rintro ⟨k, g, tt⟩ hk
  simp only at hk
  have htl : (unitL n k).length = k := Y56 n k
  by_cases hlt : k < n
  ·((refine ggb0 (F := _∧_∧_) ⟨@Int.ofNat_lt, hlt, hdb⟩ ?_))
   ((repeat refine Y01 ?_))
   refine Y04 ?_
   ((refine gga0 ?_))
   refine AW.begin 9 2 33 rfl (by decide) ?_
   simp only [putTM, List.length_cons, List.length_nil, Nat.reduceEqDiff, ↓reduceIte, List.cons_append, List.nil_append]
   refine Y0j (fun x : Nat × Nat => ⟨[(1, .ptr 0 (t + 1) 0), (7, .own 1 1 g 0 k), (8, int k), (9, .own 2 2 x.1 0 n)], [some ⟨25, t + 1, [bks s.bs, rps s.rs]⟩, some ⟨28, g, (unitL n k).map frs⟩, some ⟨33, x.1, frC (unitC k n)⟩], x.2⟩) (fun _ => True) ?_ ?_
   ·refine Y04 ?_
    refine Y07 (fun x : Nat × Nat × Nat => ⟨[(1, .ptr 0 (t + 1) 0), (7, .own 1 1 g 0 k), (8, int k), (9, .own 2 2 x.2.1 0 x.1), (10, int x.1)], [some ⟨25, t + 1, [bks s.bs, rps s.rs]⟩, some ⟨28, g, (unitL n k).map frs⟩, some ⟨33, x.2.1, frC (unitC k x.1)⟩], x.2.2⟩) (fun x => n - x.1) (fun x => x.1 ≤ n) (0, tt + 1, tt + 1) (Nat.zero_le _) (by (simp (disch := omega) only [StLe, tmLe, Y03, hpLe, bl, bb, bt, zDs, zD, Y00, simprocAttr, hz1])) ?_
    rintro ⟨j, g2, t2⟩ hj
    simp only at hj
    by_cases hlj : j < n
    ·have hct := unitC_succ k j
     have hcl := Y7e k j
     have hfl2 : (frC (unitC k j)).length = j * 2 := by rw [Y0o, hcl]
     ((refine ggb0 (F := _∧_∧_) ⟨@Int.ofNat_lt, hlj, hdb⟩ ?_))
     ((repeat refine Y01 ?_))
     refine Y04 ?_
     by_cases hjk : j = k
     ·have ejk : ((j : Int) == (k : Int)) = true := by simp [hjk]
      rw [if_pos hjk] at hct
      ((refine ggb2 (F := _∧_) ⟨ejk, hfl2⟩ o1 o0 ?_))
      refine ⟨(j + 1, t2 + 1, t2 + 1), hlj, by show n - (j + 1) < n - j; omega, ?_⟩
      simp only [hct, Ye7]
      (simp (disch := omega) only [StLe, tmLe, Y03, hpLe, bl, bb, bt, zDs, zD, Y00, simprocAttr])
     ·have ejk : ((j : Int) == (k : Int)) = false := by simp; omega
      rw [if_neg hjk] at hct
      ((refine ggb2 (F := _∧_) ⟨ejk, hfl2⟩ o1 o0 ?_))
      refine ⟨(j + 1, t2 + 1, t2 + 1), hlj, by show n - (j + 1) < n - j; omega, ?_⟩
      simp only [hct, Ye7]
      (simp (disch := omega) only [StLe, tmLe, Y03, hpLe, bl, bb, bt, zDs, zD, Y00, simprocAttr])
    ·have hje : j = n := by omega
     subst hje
     ((refine wqb (F := _∧_) ⟨@Int.lt_irrefl, hdb⟩ ?_))
     ((refine wia ?_))
     ((refine wxa ?_))
     exact ⟨(g2, t2), trivial, by (simp (disch := omega) only [StLe, tmLe, Y03, hpLe, bl, bb, bt, zDs, zD, Y00, simprocAttr])⟩
   rintro ⟨g2, t2⟩ -
   have hcl := Y7e k n
   have hfl2 : (frC (unitC k n)).length = n * 2 := by rw [Y0o, hcl]
   have hfin : List.take (n * 2) (frC (unitC k n)) = frC (unitC k n) := List.take_of_length_le (by omega)
   have hul := Y8x n k
   generalize unitC k n = U at *
   ((refine AW.freeze (2) (by first | rfl | (simp only [setH, List.getElem?_cons_zero, List.getElem?_cons_succ, Y2c, fz_bk, fz_rp, hfl2, hfin, Nat.le_refl]; done)) ?_); simp (disch := omega) only [fzT, fz, fzL, Y0d, Y0m, fzH, fzB, eq_self, bb, bt, zDs, zD, Y00, simprocAttr, Y2c, fz_bk, fz_rp, hfl2, hfin, Nat.le_refl])
   ((refine ggb0 htl ?_))
   refine ⟨(k + 1, t2 + 1, t2 + 1), hlt, by show n - (k + 1) < n - k; omega, ?_⟩
   simp only [hul, List.map_append, List.map_cons, List.map_nil]
   (simp (disch := omega) only [StLe, tmLe, Y03, hpLe, bl, bb, bt, zDs, zD, Y00, simprocAttr])
  ·have hke : k = n := by omega
   subst hke
   ((refine wqb (F := _∧_) ⟨@Int.lt_irrefl, hdb⟩ ?_))
   ((refine wia ?_))
   ((refine wxa ?_))
   exact ⟨(g, tt), trivial, by (simp (disch := omega) only [StLe, tmLe, Y03, hpLe, bl, bb, bt, zDs, zD, Y00, simprocAttr])⟩
 rintro ⟨g, tt⟩ -
 have htl : (unitL n n).length = n := Y56 n n
 generalize unitL n n = U at *
 have hfin : List.take n (U.map frs) = U.map frs := List.take_of_length_le (by simp [htl])
 ((refine AW.freeze (1) (by first | rfl | (simp only [setH, List.getElem?_cons_zero, List.getElem?_cons_succ, Y2c, hfin, htl, List.length_map, Nat.le_refl]; done)) ?_); simp (disch := omega) only [fzT, fz, fzL, Y0d, Y0m, fzH, fzB, eq_self, bb, bt, zDs, zD, Y00, simprocAttr, Y2c, hfin, htl, List.length_map, Nat.le_refl])
 ((refine gga0 ?_))
 ((repeat refine Y01 ?_); (refine wta ?_); simp (disch := omega) only [retQ, resD, oneD, bb, bt, zDs, zD, Y00, simprocAttr, Tryz.results92])
 exact Y2m _ _ (by simp only [tidyD, Y58, Bool.not_false, Bool.and_self])
end Go.Proofs.YtpcakodemleoiaaGreat.T

namespace Go.Proofs.YtpcakodemleoiaaGreat.T
open Go Go.RowKit Lin
theorem valid_right {s : Sy} (ok : OkS s) {r : Rp} (hr : r ∈ s.rs) : Y1m r = true := by
 obtain ⟨h2, h10, hh⟩ := ok.holds r hr
 refine Ybl ⟨h2, h10⟩ fun i x hx => ?_
 have hk := okHolds_iff.1 hh i x hx
 unfold Y0l at hk
 rw [Bool.and_eq_true] at hk
 have hk := hk.1
 unfold Y26
 cases e : endH r.hs.length i
 ·rw [e, if_neg (by decide)] at hk
  rw [hk]
  rfl
 ·rw [e, if_pos rfl] at hk
  rw [hk]
  rw [Bool.and_eq_true, beq_iff_eq, beq_iff_eq] at hk
  rw [hk.1, hk.2]
  decide
theorem gripP_v {r : Rp} {up : Bool} {nm : ByteArray} (hr : Y1m r = true) (hp : ∀ h ∈ r.hs, -2 ≤ h.p ∧ h.p ≤ 2) (h0 : (gripP r up nm).2 = 0) : vfrac (gripP r up nm).1.1 (gripP r up nm).1.2 = true := by
 obtain ⟨n2, n10⟩ := Y1y hr
 have hfv : ∀ j, j + 1 < r.hs.length → vfrac (facK r.hs up j).1 (facK r.hs up j).2 = true := fun j hj => (Y52 (hs := r.hs) (up := up) j (by omega) fun i x h1 h2 hx => Y1z (Y3b hr hx)).v
 obtain ⟨P, Q, hQ, hP⟩ := dens (facL r up (r.hs.length - 1)) (List.all_eq_true.2 fun x hx => by
  obtain ⟨i, hi, rfl⟩ := List.mem_map.1 hx
  exact hfv i (by have := List.mem_range.1 hi; omega))
 exact (gripP_val (P := P) (Q := Q) (fun j hj => hP j _ (Y8b _ up (by omega))) n2 hp h0).v
theorem pairA_V {load grip : List (Int × Int)} {L : List (List (Int × Int))} (h : (pairA load grip L [] []).2 = 0) : (∀ x ∈ (pairA load grip L [] []).1.1, vfrac x.1 x.2 = true) ∧ (∀ x ∈ (pairA load grip L [] []).1.2, vfrac x.1 x.2 = true) ∧ (pairA load grip L [] []).1.1.length = L.length ∧ (pairA load grip L [] []).1.2.length = L.length := by
 obtain ⟨e, hall⟩ := Ybs L [] [] h
 rw [e]
 simp only [List.nil_append, List.length_map, and_true]
 constructor
 all_goals
  intro x hx
  obtain ⟨v, hv, rfl⟩ := List.mem_map.1 hx
 ·exact Y4k _ _ _ (by decide) (hall v hv).1
 ·exact Y4k _ _ _ (by decide) (hall v hv).2
set_option maxRecDepth 100000 in
set_option maxHeartbeats 16000000 in
theorem first_ref (s : Sy) (hf : Fits s) (up : Bool) : PRet Tryz.prog 56 [syD s, bool up] (fe ((Y0h s up).1, (Y0h s up).2.2)) := by
 refine PRet.intro 1 fun t => ACall.enter tab_ok Tryz.func56 rfl rfl Tryz.ntmps56 (by simp) ?_
 simp only [Y06]
 have hG := given14_ref s hf
 by_cases hg : givL s = 0
 rotate_left 1
 ·have e : Y0h s up = ((0, 0), [], givL s) := by unfold Y0h; rw [if_neg hg]
  rw [e]
  have e1 : (givL s != 0) = true := by simpa using hg
  generalize givL s = E at *
  ((refine ggb1 e1 hG ?_))
  ((repeat refine Y01 ?_); (refine wta ?_); simp (disch := omega) only [retQ, resD, oneD, rsv, rs, rsL, Y02, List.map_map, bb, bt, zDs, zD, Y00, simprocAttr, Tryz.results56])
 obtain ⟨hv, hix0, _⟩ := Ye3 hg
 have ok := Y1b hv
 have hb6 := ok.b6
 have hr6 := ok.r6
 obtain ⟨i, r, hi, hr, _⟩ := Y80 hix0
 have ehr : hauR s = r := by unfold hauR; rw [hi, Int.toNat_natCast, List.getD_eq_getElem?_getD, hr]; rfl
 have hir := (List.getElem?_eq_some_iff.1 hr).1
 have hdr := Y1l s.rs
 have hdb := Y2k s.bs
 have hra := Y1s s.rs i r hr
 have hrm := List.mem_of_getElem? hr
 have hright := valid_right ok hrm
 have hA := Yci r up hright
 have hMo := motions_ref s hv
 have hH := Ycr s (by omega)
 have hGr := grip_ref r up hright (fun h hh => ok.pulls r hrm h hh)
 have hGv := fun nm => @gripP_v r up nm hright (fun h hh => ok.pulls r hrm h hh)
 obtain ⟨ml, mn, _⟩ := Y42 s
 have mV := Yfk hv
 rw [hg] at hG
 rw [hi] at hH
 have ea : Y1j r up = (facL r up (r.hs.length - 1), 0) := by unfold Y1j; rw [if_pos hright]
 unfold Y0h
 rw [if_pos hg, ehr, ea]
 simp only [if_true]
 have ep : prsP s up = pairA (loadP s) (Y11 r up s.bs []).1 (Y1c s).1 [] [] := by unfold prsP; rw [ehr]
 rw [ep]
 have hgl := Y6a (r := r) (up := up) s.bs []
 have hgv : (Y11 r up s.bs []).2 = 0 → ∀ x ∈ (Y11 r up s.bs []).1, vfrac x.1 x.2 = true := fun h x hx => by
  obtain ⟨a, b⟩ := Y9m s.bs [] h
  rw [a, List.nil_append] at hx
  obtain ⟨c, hc, rfl⟩ := List.mem_map.1 hx
  exact hGv c.nm (b c hc)
 generalize hGG : Y11 r up s.bs [] = Gr at *
 generalize facL r up (r.hs.length - 1) = Fs at *
 have o1 := refOf
 have hz : frC [] = [] := rfl
 have hz2 : frC ((s.bs.take 0).map fun b => (b.w, (1 : Int))) = [] := rfl
 ((refine gga1 hG ?_))
 ((repeat refine Y01 ?_); (refine gdob1 (F := _∧_∧_) ⟨hir, hdr, hra⟩ hH ?_))
 ((refine gga1 hA ?_))
 refine AW.begin 9 2 33 rfl (by decide) ?_
 simp only [putTM, List.length_cons, List.length_nil, Nat.reduceEqDiff, ↓reduceIte, List.cons_append, List.nil_append]
 refine AW.begin 10 2 33 rfl (by decide) ?_
 simp only [putTM, List.length_cons, List.length_nil, Nat.reduceEqDiff, ↓reduceIte, List.cons_append, List.nil_append]
 ((repeat refine Y01 ?_))
 refine Y0j (fun x : Nat × Nat × Nat => ⟨[(2, .ptr 0 (t + 1) 0), (4, .ptr 1 (t + 1 + 1) 0), (9, .own 2 3 x.1 0 s.bs.length), (10, .own 2 4 x.2.1 0 s.bs.length)], [some ⟨25, t + 1, [bks s.bs, rps s.rs]⟩, some ⟨33, t + 1 + 1, [int 0, int 0]⟩, none, some ⟨33, x.1, frC Gr.1⟩, some ⟨33, x.2.1, frC (loadP s)⟩], x.2.2⟩) (fun _ => Gr.2 = 0) ?_ ?_
 ·refine Y04 ?_
  refine Y07 (fun x : List (Int × Int) × Nat × Nat × Nat × Nat => ⟨[(2, .ptr 0 (t + 1) 0), (4, .ptr 1 (t + 1 + 1) 0), (7, .ptr 2 (t + 1 + 1 + 1) 0), (8, frs Fs), (9, .own 2 3 x.2.2.1 0 x.2.1), (10, .own 2 4 x.2.2.2.1 0 x.2.1), (11, int x.2.1)], [some ⟨25, t + 1, [bks s.bs, rps s.rs]⟩, some ⟨33, t + 1 + 1, [int 0, int 0]⟩, some ⟨39, t + 1 + 1 + 1, rp1 r⟩, some ⟨33, x.2.2.1, frC x.1⟩, some ⟨33, x.2.2.2.1, frC ((s.bs.take x.2.1).map fun b => (b.w, 1))⟩], x.2.2.2.2⟩) (fun x => s.bs.length - x.2.1) (fun x => x.2.1 ≤ s.bs.length ∧ x.1.length = x.2.1 ∧ Y11 r up (s.bs.drop x.2.1) x.1 = Gr) ([], 0, t + 1 + 1 + 1 + 1, t + 1 + 1 + 1 + 1 + 1, t + 1 + 1 + 1 + 1 + 1) ⟨Nat.zero_le _, rfl, hGG⟩ (by (simp (disch := omega) only [StLe, tmLe, Y03, hpLe, bl, bb, bt, zDs, zD, Y00, simprocAttr, hz, hz2])) ?_
  rintro ⟨acc, k, g1, g2, tt⟩ ⟨hk, hak, hd⟩
  simp only at hk hak hd
  by_cases hlt : k < s.bs.length
  ·obtain ⟨b, hb⟩ : ∃ y, s.bs[k]? = some y := ⟨_, List.getElem?_eq_getElem hlt⟩
   have hnm := Yh7 hb
   have hn1 := Ygd hb
   have hbw := bkC_w hb
   have hC := hGr b.nm
   have ho := o1 b.w
   have hst : frC ((s.bs.take (k + 1)).map fun b => (b.w, (1 : Int))) = frC ((s.bs.take k).map fun b => (b.w, 1)) ++ [int b.w, int 1] := by
    rw [List.take_add_one, hb, Option.toList_some, List.map_append]
    simp [frC]
   have hlk := Y0o ((s.bs.take k).map fun b => (b.w, (1 : Int)))
   rw [List.length_map, List.length_take, Nat.min_eq_left hk] at hlk
   have hal := Y0o acc
   rw [hak] at hal
   rw [Y82 hb] at hd
   generalize gripP r up b.nm = M at *
   have hap : frC acc ++ [int M.1.1, int M.1.2] = frC (acc ++ [M.1]) := by simp [frC]
   ((refine ggb0 (F := _∧_∧_) ⟨@Int.ofNat_lt, hlt, hdb⟩ ?_))
   ((repeat refine Y01 ?_))
   refine Y04 ?_
   ((repeat refine Y01 ?_); (refine gdob1 (F := _∧_∧_∧_) ⟨hlt, hdb, hnm, hn1⟩ hC ?_))
   by_cases h1 : M.2 = 0
   rotate_left 1
   ·have e1 : (M.2 != 0) = true := by simpa using h1
    rw [if_neg h1] at hd
    subst hd
    rw [if_neg h1]
    ((refine ggb0 e1 ?_))
    ((repeat refine Y01 ?_); (refine wta ?_); simp (disch := omega) only [retQ, resD, oneD, rsv, rs, rsL, Y02, List.map_map, bb, bt, zDs, zD, Y00, simprocAttr, Tryz.results56])
   have e1 : (M.2 != 0) = false := by simpa using h1
   rw [if_pos h1] at hd
   ((refine ggb1 (F := _∧_∧_∧_∧_∧_∧_) ⟨e1, hal, hap, hlk, hlt, hdb, hbw⟩ ho ?_))
   refine ⟨(acc ++ [M.1], k + 1, tt + 1 + 1, tt + 1 + 1 + 1, tt + 1 + 1 + 1), ⟨hlt, by simp [hak], hd⟩, by show s.bs.length - (k + 1) < s.bs.length - k; omega, ?_⟩
   simp only [hst]
   (simp (disch := omega) only [StLe, tmLe, Y03, hpLe, bl, bb, bt, zDs, zD, Y00, simprocAttr])
  ·have hke : k = s.bs.length := by omega
   subst hke
   have hde : Y11 r up (s.bs.drop s.bs.length) acc = (acc, 0) := by rw [List.drop_eq_nil_of_le (Nat.le_refl _)]; rfl
   rw [hde] at hd
   subst hd
   have hfull : frC ((s.bs.take s.bs.length).map fun b => (b.w, (1 : Int))) = frC (loadP s) := by rw [List.take_length]; rfl
   rw [hfull]
   ((refine wqb (F := _∧_) ⟨@Int.lt_irrefl, hdb⟩ ?_))
   ((refine wia ?_))
   ((refine wxa ?_))
   exact ⟨(g1, g2, tt), rfl, by (simp (disch := omega) only [StLe, tmLe, Y03, hpLe, bl, bb, bt, zDs, zD, Y00, simprocAttr])⟩
 rintro ⟨g1, g2, t1⟩ hg0
 have hgl := hgl hg0
 rw [List.length_nil, Nat.zero_add] at hgl
 have hgv := hgv hg0
 rw [if_pos hg0]
 have hll : (loadP s).length = s.bs.length := by simp [loadP]
 have hlv : ∀ x ∈ loadP s, vfrac x.1 x.2 = true := fun x hx => by
  obtain ⟨b, hb, rfl⟩ := List.mem_map.1 hx
  exact Y1t (by have := ok.wts b hb; omega)
 generalize (Y1c s).1 = L at *
 have hPV := @pairA_V (loadP s) Gr.1 L
 generalize hPP : pairA (loadP s) Gr.1 L [] [] = PP at *
 generalize loadP s = ld at *
 have hlw := Y0o ld
 rw [hll] at hlw
 have hlg := Y0o Gr.1
 rw [hgl] at hlg
 have hfin : List.take (s.bs.length * 2) (frC ld) = frC ld := List.take_of_length_le (by omega)
 have hfig : List.take (s.bs.length * 2) (frC Gr.1) = frC Gr.1 := List.take_of_length_le (by omega)
 ((refine AW.freeze (3) (by first | rfl | (simp only [setH, List.getElem?_cons_zero, List.getElem?_cons_succ, fz_bk, fz_rp, hfig, hlg, Nat.le_refl]; done)) ?_); simp (disch := omega) only [fzT, fz, fzL, Y0d, Y0m, fzH, fzB, eq_self, bb, bt, zDs, zD, Y00, simprocAttr, fz_bk, fz_rp, hfig, hlg, Nat.le_refl])
 ((refine AW.freeze (4) (by first | rfl | (simp only [setH, List.getElem?_cons_zero, List.getElem?_cons_succ, fz_bk, fz_rp, Y2b, hfin, hlw, Nat.le_refl]; done)) ?_); simp (disch := omega) only [fzT, fz, fzL, Y0d, Y0m, fzH, fzB, eq_self, bb, bt, zDs, zD, Y00, simprocAttr, fz_bk, fz_rp, Y2b, hfin, hlw, Nat.le_refl])
 ((refine gga1 hMo ?_))
 refine AW.begin 15 2 33 rfl (by decide) ?_
 simp only [putTM, List.length_cons, List.length_nil, Nat.reduceEqDiff, ↓reduceIte, List.cons_append, List.nil_append]
 refine AW.begin 16 2 33 rfl (by decide) ?_
 simp only [putTM, List.length_cons, List.length_nil, Nat.reduceEqDiff, ↓reduceIte, List.cons_append, List.nil_append]
 ((repeat refine Y01 ?_))
 refine Y0j (fun x : Nat × Nat × Nat => ⟨[(4, .ptr 1 (t + 1 + 1) 0), (15, .own 2 5 x.1 0 L.length), (16, .own 2 6 x.2.1 0 L.length)], [none, some ⟨33, t + 1 + 1, [int 0, int 0]⟩, none, none, none, some ⟨33, x.1, frC PP.1.1⟩, some ⟨33, x.2.1, frC PP.1.2⟩], x.2.2⟩) (fun _ => PP.2 = 0) ?_ ?_
 ·refine Y04 ?_
  refine Y07 (fun x : List (Int × Int) × List (Int × Int) × Nat × Nat × Nat × Nat => ⟨[(4, .ptr 1 (t + 1 + 1) 0), (9, frs Gr.1), (10, frs ld), (14, frss L), (15, .own 2 5 x.2.2.2.1 0 x.2.2.1), (16, .own 2 6 x.2.2.2.2.1 0 x.2.2.1), (17, int x.2.2.1)], [none, some ⟨33, t + 1 + 1, [int 0, int 0]⟩, none, none, none, some ⟨33, x.2.2.2.1, frC x.1⟩, some ⟨33, x.2.2.2.2.1, frC x.2.1⟩], x.2.2.2.2.2⟩) (fun x => L.length - x.2.2.1) (fun x => x.2.2.1 ≤ L.length ∧ x.1.length = x.2.2.1 ∧ x.2.1.length = x.2.2.1 ∧ pairA ld Gr.1 (L.drop x.2.2.1) x.1 x.2.1 = PP) ([], [], 0, t1 + 1, t1 + 1 + 1, t1 + 1 + 1) ⟨Nat.zero_le _, rfl, rfl, hPP⟩ (by (simp (disch := omega) only [StLe, tmLe, Y03, hpLe, bl, bb, bt, zDs, zD, Y00, simprocAttr, hz])) ?_
  rintro ⟨w, p, k, g3, g4, tt⟩ ⟨hk, hwl, hpl, hd⟩
  simp only at hk hwl hpl hd
  by_cases hlt : k < L.length
  ·obtain ⟨v, hvk⟩ : ∃ y, L[k]? = some y := ⟨_, List.getElem?_eq_getElem hlt⟩
   have hvm := List.mem_of_getElem? hvk
   have hvl := ml v hvm
   have hS1 := Yg3 v ld (by omega) (by omega) (mV v hvm) hlv
   have hS2 := Yg3 v Gr.1 (by omega) (by omega) (mV v hvm) hgv
   rw [Y9a hvk] at hd
   generalize dotV v ld (0, 1) = A at *
   generalize dotV v Gr.1 (0, 1) = B at *
   ((refine ggb0 (F := _∧_) ⟨@Int.ofNat_lt, hlt⟩ ?_))
   ((repeat refine Y01 ?_))
   refine Y04 ?_
   by_cases ha0 : A.2 = 0
   rotate_left 1
   ·have ea : (A.2 != 0) = true := by simpa using ha0
    rw [if_neg ha0] at hd
    rw [← hd, if_neg ha0]
    ((refine ggb1 (F := _∧_∧_) ⟨hlt, hvk, ea⟩ hS1 ?_))
    ((repeat refine Y01 ?_); (refine wta ?_); simp (disch := omega) only [retQ, resD, oneD, rsv, rs, rsL, Y02, List.map_map, bb, bt, zDs, zD, Y00, simprocAttr, Tryz.results56])
   have ea : (A.2 != 0) = false := by simpa using ha0
   rw [if_pos ha0] at hd
   by_cases hb0 : B.2 = 0
   rotate_left 1
   ·have eb : (B.2 != 0) = true := by simpa using hb0
    rw [if_neg hb0] at hd
    rw [← hd, if_neg hb0]
    ((refine ggb2 (F := _∧_∧_∧_) ⟨hlt, hvk, ea, eb⟩ hS1 hS2 ?_))
    ((repeat refine Y01 ?_); (refine wta ?_); simp (disch := omega) only [retQ, resD, oneD, rsv, rs, rsL, Y02, List.map_map, bb, bt, zDs, zD, Y00, simprocAttr, Tryz.results56])
   have eb : (B.2 != 0) = false := by simpa using hb0
   rw [if_pos hb0] at hd
   have hap1 : frC w ++ [int A.1.1, int A.1.2] = frC (w ++ [A.1]) := by simp [frC]
   have hap2 : frC p ++ [int B.1.1, int B.1.2] = frC (p ++ [B.1]) := by simp [frC]
   have hlw1 := Y0o w
   rw [hwl] at hlw1
   have hlp1 := Y0o p
   rw [hpl] at hlp1
   ((refine ggb2 (F := _∧_∧_∧_∧_∧_∧_∧_) ⟨hlt, hvk, ea, eb, hap1, hap2, hlw1, hlp1⟩ hS1 hS2 ?_))
   refine ⟨(w ++ [A.1], p ++ [B.1], k + 1, tt + 1 + 1 + 1, tt + 1 + 1 + 1 + 1, tt + 1 + 1 + 1 + 1), ⟨hlt, by simp [hwl], by simp [hpl], hd⟩, by show L.length - (k + 1) < L.length - k; omega, ?_⟩
   (simp (disch := omega) only [StLe, tmLe, Y03, hpLe, bl, bb, bt, zDs, zD, Y00, simprocAttr])
  ·have hke : k = L.length := by omega
   subst hke
   have hde : pairA ld Gr.1 (L.drop L.length) w p = ((w, p), 0) := by rw [List.drop_eq_nil_of_le (Nat.le_refl _)]; rfl
   rw [hde] at hd
   subst hd
   ((refine wqb @Int.lt_irrefl ?_))
   ((refine wia ?_))
   ((refine wxa ?_))
   exact ⟨(g3, g4, tt), rfl, by (simp (disch := omega) only [StLe, tmLe, Y03, hpLe, bl, bb, bt, zDs, zD, Y00, simprocAttr])⟩
 rintro ⟨g3, g4, tt⟩ hP0
 rw [if_pos hP0]
 obtain ⟨v1, v2, l1, l2⟩ := hPV hP0
 have hQ := quot_ref PP.1.1 PP.1.2 (by omega) (by omega) v1 v2
 obtain ⟨⟨w, p⟩, pe⟩ := PP
 simp only at *
 generalize balP w p = Z at *
 have hlw1 := Y0o w
 rw [l1] at hlw1
 have hlp1 := Y0o p
 rw [l2] at hlp1
 have hf1 : List.take (L.length * 2) (frC w) = frC w := List.take_of_length_le (by omega)
 have hf2 : List.take (L.length * 2) (frC p) = frC p := List.take_of_length_le (by omega)
 ((refine AW.freeze (5) (by first | rfl | (simp only [setH, List.getElem?_cons_zero, List.getElem?_cons_succ, Y2b, hf1, hlw1, Nat.le_refl]; done)) ?_); simp (disch := omega) only [fzT, fz, fzL, Y0d, Y0m, fzH, fzB, eq_self, bb, bt, zDs, zD, Y00, simprocAttr, Y2b, hf1, hlw1, Nat.le_refl])
 ((refine AW.freeze (6) (by first | rfl | (simp only [setH, List.getElem?_cons_zero, List.getElem?_cons_succ, Y2b, hf2, hlp1, Nat.le_refl]; done)) ?_); simp (disch := omega) only [fzT, fz, fzL, Y0d, Y0m, fzH, fzB, eq_self, bb, bt, zDs, zD, Y00, simprocAttr, Y2b, hf2, hlp1, Nat.le_refl])
 ((refine gga1 hQ ?_))
 ((repeat refine Y01 ?_); (refine wta ?_); simp (disch := omega) only [retQ, resD, oneD, rsv, rs, rsL, Y02, List.map_map, bb, bt, zDs, zD, Y00, simprocAttr, Tryz.results56])
end Go.Proofs.YtpcakodemleoiaaGreat.T

namespace Go.Proofs.YtpcakodemleoiaaGreat.T
open Go Go.RowKit Lin
theorem Yfr {sz : Nat} : ∀ {l : List (List D)}, (∀ x ∈ l, x.length = sz) → l.flatten.length = l.length * sz
 | [], _ => by simp
 | x :: l, h => by
  rw [List.flatten_cons, List.length_append, h x (by simp), Yfr fun y hy => h y (List.mem_cons_of_mem _ hy), List.length_cons, Nat.add_mul]
  omega
end Go.Proofs.YtpcakodemleoiaaGreat.T

namespace Go.Proofs.YtpcakodemleoiaaGreat.T
open Go Go.RowKit Lin
abbrev ro1 (r : Rp) (p : Nat × Nat) : List D := [str r.nm, .own 4 p.1 p.2 0 r.hs.length, bool r.hl]
def roC (rs : List Rp) (ps : List (Nat × Nat)) : List (List D) := List.zipWith ro1 rs ps
structure CA where
  k : Nat
  g : Nat
  ps : List (Nat × Nat)
  R : List Blk
  t : Nat
structure CAok (s : Sy) (t0 : Nat) (x : CA) : Prop where
  k : x.k ≤ s.rs.length
  lp : x.ps.length = x.k
  lr : x.R.length = 2 * x.k
  at_ : ∀ (j : Nat) (r : Rp) (p : Nat × Nat), s.rs[j]? = some r → x.ps[j]? = some p → p.1 = 2 * j + 6 ∧ x.R[2 * j + 1]? = some ⟨43, p.2, hdC r.hs⟩
  new : ∀ bl ∈ x.R, t0 < bl.g ∧ ((∃ l, bl.cells = hdC l) ∨ ∃ r p, bl.cells = ro1 r p ∧ p.1 < 5 + x.R.length)
  g : t0 < x.g
  t : t0 ≤ x.t
theorem cells_bk (l : List Bk) : (bkC l).all Y1u = true := by
  induction l with
  | nil => rfl
  | cons x r ih => simp only [bkC, List.flatMap_cons, List.all_append, Bool.and_eq_true] at ih ⊢; exact ⟨rfl, ih⟩
theorem cells_hd (l : List Hd) : (hdC l).all Y1u = true := by
  induction l with
  | nil => rfl
  | cons x r ih => simp only [hdC, List.flatMap_cons, List.all_append, Bool.and_eq_true] at ih ⊢; exact ⟨rfl, ih⟩
theorem roC_len {rs : List Rp} {ps : List (Nat × Nat)} (h : ps.length = rs.length) : (roC rs ps).length = rs.length := by simp [roC, h]
theorem Y7i {rs : List Rp} {ps : List (Nat × Nat)} (h : ps.length = rs.length) : (roC rs ps).flatten.length = rs.length * 3 := by
  rw [Yfr (sz := 3), roC_len h]
  intro x hx
  obtain ⟨i, hi⟩ := List.mem_iff_getElem?.1 hx
  unfold roC at hi
  rw [List.getElem?_zipWith] at hi
  cases h1 : rs[i]? <;> cases h2 : ps[i]? <;> rw [h1, h2] at hi <;> simp at hi
  subst hi
  rfl
theorem roC_push {rs : List Rp} {ps : List (Nat × Nat)} {k : Nat} {r : Rp} {p : Nat × Nat} (hl : ps.length = k) (hr : rs[k]? = some r) : roC (rs.take (k + 1)) (ps ++ [p]) = roC (rs.take k) ps ++ [ro1 r p] := by
  have hk := (List.getElem?_eq_some_iff.1 hr).1
  unfold roC
  rw [List.take_add_one, hr, Option.toList_some, List.zipWith_append (by simp; omega)]
  rfl
set_option maxHeartbeats 4000000 in
theorem copy0S (s : Sy) (ok : OkS s) (t : Nat) : ACall Tryz.prog 28 [syD s] [] t (fun d H' t' => ∃ (x : CA) (g0 g1 g2 g3 : Nat) (z : List D), CAok s t x ∧ x.k = s.rs.length ∧ t' = x.t ∧ d = .agg [.own 2 2 g2 0 s.bs.length, .own 3 4 x.g 0 s.rs.length] ∧ t < g0 ∧ t < g1 ∧ t < g2 ∧ t < g3 ∧ z = [.own 2 2 g2 0 s.bs.length, .own 3 4 x.g 0 s.rs.length] ∧
    H' = some ⟨25, g0, [bks s.bs, rps s.rs]⟩ :: some ⟨25, g1, z⟩ :: some ⟨45, g2, bkC s.bs⟩ :: some ⟨25, g3, z⟩ :: some ⟨39, x.g, (roC s.rs x.ps).flatten⟩ :: x.R.map some) := by
  refine ACall.enter tab_ok Tryz.func28 rfl rfl Tryz.ntmps28 (by simp) ?_
  simp only [Y06]
  have hdr := Y1l s.rs
  have hdb := Y2k s.bs
  have hlb := Y2w s.bs
  have b1 := ok.b1
  have b6 := ok.b6
  have r6 := ok.r6
  have hcb := cells_bk s.bs
  have hnb : (bkC s.bs = []) = False := by
    simp only [eq_iff_iff, iff_false]
    intro e
    rw [e] at hlb
    simp at hlb
    omega
  ((refine wqa ?_))
  ((refine wqb (F := _∧_∧_) ⟨hcb, hnb, hdb⟩ ?_))
  ((refine wqa ?_))
  refine AW.begin_cell 3 1 3 39 rfl rfl (by decide) ?_
  simp only [List.set_cons_succ, List.set_cons_zero, List.length_cons, List.length_nil, List.cons_append, List.nil_append, Nat.zero_add, Nat.reduceAdd]
  refine Y0j (fun x : CA => ⟨[(2, .ptr 1 (t + 1 + 1) 0), (3, .ptr 3 (t + 1 + 1 + 1 + 1) 0)], some ⟨25, t + 1, [bks s.bs, rps s.rs]⟩ :: some ⟨25, t + 1 + 1, [.sl 2 [] true, .sl 3 [] true]⟩ :: some ⟨45, t + 1 + 1 + 1, bkC s.bs⟩ :: some ⟨25, t + 1 + 1 + 1 + 1, [.own 2 2 (t + 1 + 1 + 1) 0 s.bs.length, .own 3 4 x.g 0 s.rs.length]⟩ :: some ⟨39, x.g, (roC s.rs x.ps).flatten⟩ :: x.R.map some, x.t⟩) (fun x => CAok s t x ∧ x.k = s.rs.length) ?_ ?_
  · refine Y04 ?_
    refine Y07 (fun x : CA => ⟨[(1, .ptr 0 (t + 1) 0), (2, .ptr 1 (t + 1 + 1) 0), (3, .ptr 3 (t + 1 + 1 + 1 + 1) 0), (4, int x.k)], some ⟨25, t + 1, [bks s.bs, rps s.rs]⟩ :: some ⟨25, t + 1 + 1, [.sl 2 [] true, .sl 3 [] true]⟩ :: some ⟨45, t + 1 + 1 + 1, bkC s.bs⟩ :: some ⟨25, t + 1 + 1 + 1 + 1, [.own 2 2 (t + 1 + 1 + 1) 0 s.bs.length, .own 3 4 x.g 0 x.k]⟩ :: some ⟨39, x.g, (roC (s.rs.take x.k) x.ps).flatten⟩ :: x.R.map some, x.t⟩) (fun x => s.rs.length - x.k) (fun x => CAok s t x) ⟨0, t + 1 + 1 + 1 + 1 + 1, [], [], t + 1 + 1 + 1 + 1 + 1⟩ ⟨Nat.zero_le _, rfl, rfl, fun j r p _ h => by simp at h, fun bl h => by simp at h, by show t < t + 1 + 1 + 1 + 1 + 1; omega, by show t ≤ t + 1 + 1 + 1 + 1 + 1; omega⟩ (by (simp (disch := omega) only [StLe, tmLe, Y03, hpLe, bl, bb, bt, zDs, zD, Y00, simprocAttr, roC, List.take_zero, List.zipWith_nil_left])) ?_
    rintro ⟨k, g, ps, R, tt⟩ hx
    obtain ⟨hk, hlp, hlr, hat, hnew, hgt, htt⟩ := hx
    simp only at hk hlp hlr hat hnew hgt htt
    by_cases hlt : k < s.rs.length
    · obtain ⟨r, hr⟩ : ∃ y, s.rs[k]? = some y := ⟨_, List.getElem?_eq_getElem hlt⟩
      have hrm := List.mem_of_getElem? hr
      have hra := Y1s s.rs k r hr
      obtain ⟨ho1, ho2, _⟩ := ok.holds r hrm
      have hch := cells_hd r.hs
      have hlh := Y29 r.hs
      have hdh := Y2a r.hs
      have hnh : (hdC r.hs = []) = False := by
        simp only [eq_iff_iff, iff_false]
        intro e
        rw [e] at hlh
        simp at hlh
        omega
      have hRl : (R.map some).length = 2 * k := by simp [hlr]
      have hg5 : ∀ x y : Option Blk, (R.map some ++ [x, y])[R.length]? = some x := fun x y => by rw [List.getElem?_append_right (by simp)]; simp
      have hg6 : ∀ x y : Option Blk, (R.map some ++ [x, y])[R.length + 1]? = some y := fun x y => by rw [List.getElem?_append_right (by simp)]; simp
      have hg5a : ∀ x : Option Blk, (R.map some ++ [x])[R.length]? = some x := fun x => by rw [List.getElem?_append_right (by simp)]; simp
      have hs5 : ∀ x y z : Option Blk, (R.map some ++ [x, y]).set R.length z = R.map some ++ [z, y] := fun x y z => by rw [List.set_append_right _ _ (by simp)]; simp
      have hrc : (roC (s.rs.take k) ps).flatten.length = k * 3 := by rw [Y7i (by simp [hlp]; omega)]; simp; omega
      have hpush := roC_push (p := (R.length + 1 + 1 + 1 + 1 + 1 + 1, tt + 1 + 1)) hlp hr
      ((refine ggb0 (F := _∧_∧_) ⟨@Int.ofNat_lt, hlt, hdr⟩ ?_))
      ((repeat refine Y01 ?_))
      refine Y04 ?_
      have hs5a : ∀ x z : Option Blk, (R.map some ++ [x]).set R.length z = R.map some ++ [z] := fun x z => by rw [List.set_append_right _ _ (by simp)]; simp
      ((refine wqb (F := _∧_∧_∧_∧_) ⟨hlt, hdr, hra, hg5a, hs5a⟩ ?_))
      ((refine wqb (F := _∧_∧_∧_∧_∧_∧_) ⟨hg5a, hch, hnh, hdh, hg5, hg6, hs5⟩ ?_))
      ((refine ggb0 (F := _∧_) ⟨hg5, hrc⟩ ?_))
      refine ⟨⟨k + 1, tt + 1 + 1 + 1, ps ++ [(R.length + 1 + 1 + 1 + 1 + 1 + 1, tt + 1 + 1)], R ++ [⟨39, tt + 1, ro1 r (R.length + 1 + 1 + 1 + 1 + 1 + 1, tt + 1 + 1)⟩, ⟨43, tt + 1 + 1, hdC r.hs⟩], tt + 1 + 1 + 1⟩, ⟨hlt, by simp [hlp], by simp [hlr]; omega, fun j q p hq hp => ?_, fun bl hbl => ?_, by show t < tt + 1 + 1 + 1; omega, by show t ≤ tt + 1 + 1 + 1; omega⟩, by show s.rs.length - (k + 1) < s.rs.length - k; omega, ?_⟩
      · by_cases hjk : j < k
        · rw [List.getElem?_append_left (by omega)] at hp
          obtain ⟨a1, a2⟩ := hat j q p hq hp
          exact ⟨a1, by rw [List.getElem?_append_left (by have := (List.getElem?_eq_some_iff.1 a2).1; omega)]; exact a2⟩
        · have hjl := (List.getElem?_eq_some_iff.1 hp).1
          have hje : j = k := by simp [hlp] at hjl; omega
          subst hje
          rw [List.getElem?_append_right (by omega), hlp, Nat.sub_self] at hp
          simp only [List.getElem?_cons_zero, Option.some.injEq] at hp
          subst hp
          rw [hr, Option.some.injEq] at hq
          subst hq
          refine ⟨by simp only; omega, ?_⟩
          rw [List.getElem?_append_right (by omega), show 2 * j + 1 - R.length = 1 by omega]
          rfl
      · simp only [List.length_append, List.length_cons, List.length_nil]
        rcases List.mem_append.1 hbl with h | h
        · obtain ⟨a1, a2⟩ := hnew bl h
          refine ⟨a1, a2.imp id ?_⟩
          rintro ⟨r', p', e, hp'⟩
          exact ⟨r', p', e, by omega⟩
        · rcases List.mem_cons.1 h with rfl | h
          · exact ⟨by simp only; omega, .inr ⟨r, _, rfl, by simp only; omega⟩⟩
          · simp only [List.mem_singleton] at h
            subst h
            exact ⟨by simp only; omega, .inl ⟨r.hs, rfl⟩⟩
      · simp only [hpush, List.flatten_append, List.flatten_cons, List.flatten_nil, List.append_nil, List.map_append, List.map_cons, List.map_nil]
        (simp (disch := omega) only [StLe, tmLe, Y03, hpLe, bl, bb, bt, zDs, zD, Y00, simprocAttr])
    · have hke : k = s.rs.length := by omega
      subst hke
      rw [List.take_length]
      ((refine wqb (F := _∧_) ⟨@Int.lt_irrefl, hdr⟩ ?_))
      ((refine wia ?_))
      ((refine wxa ?_))
      exact ⟨⟨s.rs.length, g, ps, R, tt⟩, ⟨⟨hk, hlp, hlr, hat, hnew, hgt, htt⟩, rfl⟩, by (simp (disch := omega) only [StLe, tmLe, Y03, hpLe, bl, bb, bt, zDs, zD, Y00, simprocAttr])⟩
  rintro ⟨k, g, ps, R, tt⟩ ⟨hx, hke⟩
  simp only at hx hke
  ((refine gga0 ?_))
  ((repeat refine Y01 ?_); (refine wta ?_); simp (disch := omega) only [retQ, resD, oneD, bb, bt, zDs, zD, Y00, simprocAttr, Tryz.results28])
  exact ⟨⟨k, g, ps, R, tt⟩, t + 1, t + 1 + 1, t + 1 + 1 + 1, t + 1 + 1 + 1 + 1, _, hx, hke, rfl, rfl, by omega, by omega, by omega, by omega, rfl, rfl⟩
end Go.Proofs.YtpcakodemleoiaaGreat.T

