import Derived.Test.YtpbpafmgkdihlaaGreatDoorQTB
import Derived.Test.YtpbpafmgkdihlaaGreatDoorQWPJSNQ
import Derived.Test.YtpbpafmgkdihlaaGreatDoorQVJAVP
import Derived.Test.YtpbpafmgkdihlaaGreatDoorQLSJWRJ
import Derived.Test.YtpbpafmgkdihlaaGreatDoorQMGKALW
import Derived.Test.YtpbpafmgkdihlaaGreatDoorQASOTL
import Derived.Test.YtpbpafmgkdihlaaGreatDoorQTQOTQU
import Derived.Test.YtpbpafmgkdihlaaGreatDoorQTQBARI
import Derived.Test.YtpbpafmgkdihlaaGreatDoorQTJ
import Derived.Test.YtpbpafmgkdihlaaGreatDoorQWA
import Derived.Test.YtpbpafmgkdihlaaGreatDoorQWJK
import Derived.Test.YtpbpafmgkdihlaaGreatDoorQSG
import Derived.Test.YtpbpafmgkdihlaaGreatDoorRows
import Derived.Lib.SmallJoins
import Derived.ProofKit
set_option linter.all false
namespace Go.Proofs.YtpbpafmgkdihlaaGreatDoor.T
open Go Go.RowKit Lin
theorem Ypy {C1 C2 C3 C4 C5 C6 P Q : Prop} (c1 : C1) (c2 : C2) (c3 : C3) (c4 : C4) (c5 : C5) (c6 : C6) (q : Q) (h : C1 → C2 → C3 → C4 → C5 → C6 → Q → P := by
 intro cc1 cc2 cc3 cc4 cc5 cc6 hq
 (try with_reducible intro KR hKR)
 (repeat refine Y00 ?_); (repeat refine Y00 ?_); (refine Y0d tab_ok Y06 2 fun KR hKR => ?_); simp only [List.replicate_succ, List.replicate_zero, List.append_nil, List.nil_append, List.cons_append, List.length_cons, List.length_nil, Nat.reduceAdd]; (repeat' ((first | refine Y2s rfl fun KK hKK => ?_ | refine Y2t rfl rfl fun KK hKK => ?_ | refine Y15 rfl fun KK hKK => ?_ | refine Y14 fun KK hKK => ?_); simp (disch := omega) only [bb, bt, zDs, zD, Y01, simprocAttr, bne_self_eq_false, Int.reduceBNe, Int.reduceBEq, Bool.bne_false, Bool.bne_true, Bool.false_bne, Bool.true_bne, Y2a, Y0t, Y3y, Y0m, ufa, uf]; (try ((first | with_reducible refine PGive.ret (cc1) ?_ | with_reducible refine PGive.ret (cc2) ?_ | with_reducible refine PGive.ret (cc3) ?_ | with_reducible refine PGive.ret (cc4) ?_ | with_reducible refine PGive.ret (cc5) ?_ | with_reducible refine PGive.ret (cc6) ?_); simp (disch := omega) only [bb, bt, zDs, zD, Y01, simprocAttr, Y1d, bne_self_eq_false, Int.reduceBNe, Int.reduceBEq, Bool.bne_false, Bool.bne_true, Bool.false_bne, Bool.true_bne])); refine hKK _ _ _ ?_; clear hKK KK)); (refine Y0k ?_); simp only [List.reverse_cons, List.reverse_nil, List.nil_append, List.cons_append]; (refine hKR _ _ (by first | rfl | kernel_rfl) ?_); (try clear hKR KR); (refine qq1 ?_)
 (first | exact hq | (revert hKR; revert KR; exact hq))) : P := h c1 c2 c3 c4 c5 c6 q
theorem u_eq (x y : Nat) : (uh x == uh y && ul x == ul y) = decide (x = y) := by
 by_cases h : x = y
 ·subst h
  simp
 ·rw [decide_eq_false h, Bool.and_eq_false_iff]
  by_cases h1 : uh x = uh y
  ·right
   rw [beq_eq_false_iff_ne]
   intro h2
   apply h
   unfold uh ul at *
   omega
  ·left
   rw [beq_eq_false_iff_ne]
   exact h1
set_option maxHeartbeats 2000000 in
theorem Yv5 (a b : Int × Int) (ha : Y09 a.1 a.2 = true) (hb : Y09 b.1 b.2 = true) : PRet Tryz.prog 13 [frD a, frD b] (int (cmpV a b)) := by
 obtain ⟨a1, a2, a3, a4, a5⟩ := Y0c ha
 obtain ⟨b1, b2, b3, b4, b5⟩ := Y0c hb
 obtain ⟨n, d⟩ := a
 obtain ⟨u, v⟩ := b
 simp only at *
 obtain ⟨D, rfl⟩ : ∃ D : Nat, d = (D : Int) := ⟨d.toNat, by omega⟩
 obtain ⟨V, rfl⟩ : ∃ V : Nat, v = (V : Int) := ⟨v.toNat, by omega⟩
 obtain ⟨g1, g2⟩ := Ygl (n := n) (u := u) (D := (D : Int)) (V := (V : Int)) (by omega) (by omega)
 have hpos := fun h1 h2 => Yqy (n := n) (u := u) (D := D) (V := V) h1 h2
 have hneg := fun h1 h2 => Yqz (n := n) (u := u) (D := D) (V := V) h1 h2
 have s1 := Ydd n (by omega)
 have s2 := Ydd u (by omega)
 have s3 := Ydd (D : Int) (by omega)
 have s4 := Ydd (V : Int) (by omega)
 rw [Int.natAbs_natCast] at s3 s4
 have m1 := Yv4 n.natAbs V (by omega)
 have m2 := Yv4 u.natAbs D (by omega)
 have c1 : n.natAbs * V ≤ 1152921504606846976 * 1152921504606846976 := Nat.mul_le_mul (by omega) (by omega)
 have c2 : u.natAbs * D ≤ 1152921504606846976 * 1152921504606846976 := Nat.mul_le_mul (by omega) (by omega)
 have l1 := Ywl (n.natAbs * V) (u.natAbs * D) (by omega)
 have huv := u_eq (n.natAbs * V) (u.natAbs * D)
 generalize cmpV (n, (D : Int)) (u, (V : Int)) = c at *
 generalize n.natAbs * V = x at *
 generalize u.natAbs * D = y at *
 refine pri 2 Tryz.func13 Tryz.ntmps13 fun t => ?_
 simp only [Y04]
 refine gga0 ?_
 ((repeat refine Y00 ?_); (refine Ypy s1 s2 s3 s4 m1 m2 ?_))
 have htf : (true == false) = false := rfl
 have hft : (false == true) = false := rfl
 by_cases hn : n < 0
 ·by_cases hu : u < 0
  ·rw [hneg hn hu]
   have hn' : ¬ 0 ≤ n := by omega
   have hu' : ¬ 0 ≤ u := by omega
   by_cases hxy : x = y
   ·rw [decide_eq_true hxy] at huv
    rw [if_neg (by omega), if_neg (by omega)]
    ((refine ggb0 (F := _∧_∧_∧_∧_) ⟨hn, hu, hn', hu', huv⟩ ?_))
    exact exx Tryz.results13
   ·rw [decide_eq_false hxy] at huv
    by_cases hlt : x < y
    ·rw [decide_eq_true hlt] at l1
     rw [if_neg (by omega), if_pos (by omega)]
     ((refine ggb0 (F := _∧_∧_∧_∧_) ⟨hn, hu, hn', hu', huv⟩ ?_))
     ((repeat refine Y00 ?_); (refine Y6h (F := _∧_∧_∧_) ⟨hn, hn', htf, hft⟩ l1 ?_))
     ((refine ggb0 (F := _∧_) ⟨htf, hft⟩ ?_))
     exact exx Tryz.results13
    ·rw [decide_eq_false hlt] at l1
     rw [if_pos (by omega)]
     ((refine ggb0 (F := _∧_∧_∧_∧_) ⟨hn, hu, hn', hu', huv⟩ ?_))
     ((repeat refine Y00 ?_); (refine Y6h (F := _∧_∧_∧_) ⟨hn, hn', htf, hft⟩ l1 ?_))
     ((refine ggb0 (F := _∧_) ⟨htf, hft⟩ ?_))
     exact exx Tryz.results13
  ·rw [g1 ⟨hn, hu⟩]
   have hu' : 0 ≤ u := by omega
   ((refine ggb0 (F := _∧_∧_) ⟨hn, hu, hu'⟩ ?_))
   exact exx Tryz.results13
 ·have hn' : 0 ≤ n := by omega
  by_cases hu : u < 0
  ·rw [g2 ⟨hn, hu⟩]
   ((refine ggb0 (F := _∧_∧_) ⟨hn, hu, hn'⟩ ?_))
   exact exx Tryz.results13
  ·rw [hpos hn hu]
   have hu' : 0 ≤ u := by omega
   by_cases hxy : x = y
   ·rw [decide_eq_true hxy] at huv
    rw [if_neg (by omega), if_neg (by omega)]
    ((refine ggb0 (F := _∧_∧_∧_∧_) ⟨hn, hu, hn', hu', huv⟩ ?_))
    exact exx Tryz.results13
   ·rw [decide_eq_false hxy] at huv
    by_cases hlt : x < y
    ·rw [decide_eq_true hlt] at l1
     rw [if_pos (by omega)]
     ((refine ggb0 (F := _∧_∧_∧_∧_) ⟨hn, hu, hn', hu', huv⟩ ?_))
     ((repeat refine Y00 ?_); (refine Y6h (F := _∧_∧_∧_) ⟨hn, hn', htf, hft⟩ l1 ?_))
     ((refine ggb0 (F := _∧_) ⟨htf, hft⟩ ?_))
     exact exx Tryz.results13
    ·rw [decide_eq_false hlt] at l1
     rw [if_neg (by omega), if_pos (by omega)]
     ((refine ggb0 (F := _∧_∧_∧_∧_) ⟨hn, hu, hn', hu', huv⟩ ?_))
     ((repeat refine Y00 ?_); (refine Y6h (F := _∧_∧_∧_) ⟨hn, hn', htf, hft⟩ l1 ?_))
     ((refine ggb0 (F := _∧_) ⟨htf, hft⟩ ?_))
     exact exx Tryz.results13
end Go.Proofs.YtpbpafmgkdihlaaGreatDoor.T
namespace Go.Proofs.YtpbpafmgkdihlaaGreatDoor.T
open Go Go.RowKit
theorem Ytf {P Q : Prop} (q : Q) (h : Q → P := by
 intro  hq
 (try with_reducible intro KR hKR)
 (repeat refine Y00 ?_); (repeat refine Y00 ?_); (refine Y0d tab_ok Y06 0 fun KR hKR => ?_); simp only [List.replicate_succ, List.replicate_zero, List.append_nil, List.nil_append, List.cons_append, List.length_cons, List.length_nil, Nat.reduceAdd]; (repeat' ((first | refine Y2s rfl fun KK hKK => ?_ | refine Y2t rfl rfl fun KK hKK => ?_ | refine Y15 rfl fun KK hKK => ?_ | refine Y14 fun KK hKK => ?_); simp (disch := omega) only [bb, bt, zDs, zD, Y01, simprocAttr, bne_self_eq_false, Int.reduceBNe, Int.reduceBEq, Bool.bne_false, Bool.bne_true, Bool.false_bne, Bool.true_bne]; refine hKK _ _ _ ?_; clear hKK KK)); (refine Y0k ?_); simp only [List.reverse_cons, List.reverse_nil, List.nil_append, List.cons_append]; (refine hKR _ _ (by first | rfl | kernel_rfl) ?_); (try clear hKR KR); (refine qq1 ?_)
 (first | exact hq | (revert hKR; revert KR; exact hq))) : P := h  q
theorem Yte {C1 C2 C3 C4 P Q : Prop} (c1 : C1) (c2 : C2) (c3 : C3) (c4 : C4) (q : Q) (h : C1 → C2 → C3 → C4 → Q → P := by
 intro cc1 cc2 cc3 cc4 hq
 (try with_reducible intro KR hKR)
 (repeat' (first | (with_reducible refine Y00 ?_) | (with_reducible refine Y03 tab_ok fun KR hKR => ?_) | ((first | with_reducible refine Y3z ?_ | with_reducible refine Y40 ?_ | ((with_reducible refine Y0o ?_); refine hKR _ ?_; (try clear hKR KR))); (refine qq1 ?_)) | ((first | ((with_reducible refine Y27 ?_); (first | refine Y19 rfl fun KK hKK => ?_ | refine Y1a rfl rfl fun KK hKK => ?_ | refine Y08 rfl fun KK hKK => ?_ | refine Y0f fun KK hKK => ?_)) | with_reducible refine Y1v (tab := tab) fun KK hKK => ?_); simp (disch := omega) only [bb, bt, zDs, zD, Y01, simprocAttr, bne_self_eq_false, Int.reduceBNe, Int.reduceBEq, Bool.bne_false, Bool.bne_true, Bool.false_bne, Bool.true_bne, goC, Y0e, Y0m, and_self]; (try ((first | (with_reducible refine ACall.of_pret (cc1) ?_ ?_; (focus (first | (simp only [um]; done) | rfl))) | (with_reducible refine ACall.of_pret (cc2) ?_ ?_; (focus (first | (simp only [um]; done) | rfl))) | (with_reducible refine ACall.of_pret (cc3) ?_ ?_; (focus (first | (simp only [um]; done) | rfl))) | (with_reducible refine ACall.of_pret (cc4) ?_ ?_; (focus (first | (simp only [um]; done) | rfl)))); simp only [Y0n, St.put, Y1r, ↓reduceIte, Nat.reduceEqDiff])); refine hKK _ ?_; clear hKK KK; (first | with_reducible refine Y27 ?_ | with_reducible refine i1 ?_ | with_reducible refine i0 ?_))))
 (first | exact hq | (revert hKR; revert KR; exact hq))) : P := h c1 c2 c3 c4 q
theorem Yz7 (h : Hd) : PRet Tryz.prog 8 [.agg (hd1 h)] (bool (decide (h.p < 0))) := by
 refine pri 1 Tryz.func8 Tryz.ntmps8 fun t => ?_
 simp only [Y04]
 refine gga0 ?_
 exact exx Tryz.results8
def Yog (r : Rp) : Bool := r.hs.any fun h => decide (h.p < 0)
set_option maxRecDepth 100000 in
set_option maxHeartbeats 16000000 in
theorem Yky (s : Sy) : PRet Tryz.prog 3 [syD s] (bool true) := by
 refine pri 1 Tryz.func3 Tryz.ntmps3 fun t => ?_
 simp only [Y04]
 have hS := Ynt s
 cases hs : Y4l s
 ·rw [hs] at hS
  refine gga2 Y7q hS ?_
  exact exx Tryz.results3
 rw [hs] at hS
 have hf := Y64 hs
 have hV := Yna s hf
 cases hv : Y0g s
 ·rw [hv] at hV
  refine gga3 Y7q hS hV ?_
  exact exx Tryz.results3
 rw [hv] at hV
 have ok := Y0h hv
 have hdb := Y2p s.bs
 by_cases hn : s.bs.length = 1
 rotate_left 1
 ·have e1 : ((s.bs.length : Int) != 1) = true := by simp; omega
  ((refine ggb3 (F := _∧_) ⟨hdb, e1⟩ Y7q hS hV ?_))
  exact exx Tryz.results3
 have e1 : ((s.bs.length : Int) != 1) = false := by simp; omega
 have hla := Y28 s.rs
 have ha2 := Y1q s.rs
 ((refine ggb3 (F := _∧_∧_) ⟨hdb, e1, ha2⟩ Y7q hS hV ?_))
 repeat refine Y00 ?_
 refine Y0i (fun y : Nat => ⟨[(1, .ptr 0 (t + 1) 0), (2, bool false)], [some ⟨25, t + 1, [bks s.bs, rps s.rs]⟩], y⟩) (fun _ => ∀ r ∈ s.rs, Yog r = false) ?_ ?_
 ·refine Y02 ?_
  refine Y05 (fun y : Nat × Nat => ⟨[(1, .ptr 0 (t + 1) 0), (2, bool false), (47, rps s.rs), (48, int s.rs.length), (49, int y.1)], [some ⟨25, t + 1, [bks s.bs, rps s.rs]⟩], y.2⟩) (fun y => s.rs.length - y.1) (fun y => y.1 ≤ s.rs.length ∧ ∀ (j : Nat) (r : Rp), j < y.1 → s.rs[j]? = some r → Yog r = false) (0, t + 1) ⟨Nat.zero_le _, fun _ _ h => absurd h (Nat.not_lt_zero _)⟩ ele ?_
  rintro ⟨k, tt⟩ ⟨hk, hi⟩
  simp only at hk hi
  by_cases hlt : k < s.rs.length
  ·obtain ⟨x, hx⟩ : ∃ x, s.rs[k]? = some x := ⟨_, List.getElem?_eq_getElem hlt⟩
   have hra := Y2z s.rs k x hx
   have hw := wr64 ((k : Int) + 1) (by have := hf.nr; omega)
   have hC := Y6k x.hs 8 [] (fun h => decide (h.p < 0)) (hf.sr x (List.mem_of_getElem? hx)).2 (fun h _ => Yz7 h)
   have hCe : (x.hs.any fun h => decide (h.p < 0)) = Yog x := rfl
   rw [hCe] at hC
   ((refine ggb0 (F := _∧_∧_) ⟨@Int.ofNat_lt, hlt, ha2⟩ ?_))
   repeat refine Y00 ?_
   refine Y02 ?_
   cases hp : Yog x
   ·rw [hp] at hC
    ((refine ggb1 (F := _∧_∧_) ⟨hlt, ha2, hra⟩ hC ?_))
    refine ⟨(k + 1, tt + 1), ⟨hlt, fun j r hj hr => ?_⟩, by show s.rs.length - (k + 1) < s.rs.length - k; omega, ?_⟩
    ·by_cases e : j = k
     ·subst e
      rw [hx, Option.some.injEq] at hr
      rw [← hr]; exact hp
     ·exact hi j r (by omega) hr
    ·(simp (disch := omega) only [StLe, tmLe, Y0b, hpLe, bl, bb, bt, zDs, zD, Y01, simprocAttr, hw])
   ·rw [hp] at hC
    ((refine ggb1 (F := _∧_∧_) ⟨hlt, ha2, hra⟩ hC ?_))
    exact exx Tryz.results3
  ·have hke : k = s.rs.length := by omega
   subst hke
   ((refine ggb0 (F := _∧_) ⟨@Int.lt_irrefl, ha2⟩ ?_))
   refine ⟨tt, fun r hr => ?_, ?_⟩
   ·obtain ⟨j, hj⟩ := List.getElem?_of_mem hr
    exact hi j r (List.getElem?_eq_some_iff.1 hj).1 hj
   ·exact ele
 rintro t2 hpush
 obtain ⟨b, o⟩ : ∃ b, One s b := by
  obtain ⟨b, hb⟩ := List.length_eq_one_iff.1 hn
  refine ⟨b, hv, hb, fun r hr h hh => ?_⟩
  have := hpush r hr
  unfold Yog at this
  rw [List.any_eq_false] at this
  have := this h hh
  rw [decide_eq_true_eq] at this
  omega
 have hH := Ypu s hf
 have hI := Ypr s ok
 have hfc := Yco hf
 have hA := Ya8 (Y0j s) hfc
 have hB := Yph (Y0j s) hfc
 rw [← Yic] at hB
 have hHe := Yta o
 have hcl := @Ylt s b o
 have hfh := @Ym0 s b o
 have htl := @Ynj s b o
 have heb := @Yu4 s
 have hho := @Ytc s b o
 have hok := @Y7p s
 have hAv := @Y8j (Y0j s) true
 have hHs := fun f => Yx0 s hf f
 have hE := Y11o s hf
 have hL := Yg5 s hf
 have hRH := Ywm s hf.nr
 have hT := Yew s hf b.nm
 have hG := Yts s hf b.nm
 have hadv := @Yup s b.nm
 generalize hAA : Y07 (Y0j s) true = A at *
 generalize hXX : Y1x s = X at *
 generalize hEE : effP s = E at *
 generalize hLL : Y5w s = L at *
 generalize hTT : Y4c s b.nm = T at *
 generalize hGG : forP s b.nm = V at *
 obtain ⟨lo, hi, e⟩ := X
 simp only at *
 by_cases h1 : e = 0
 rotate_left 1
 ·have e1 : (e != 0) = true := by simpa using h1
  have e2 : (e != 17) = true := by simpa using hHe.2
  have e3 : (e != 13) = true := by simpa using hHe.1
  ((refine ggb1 (F := _∧_∧_) ⟨e1, e2, e3⟩ hH ?_))
  exact exx Tryz.results3
 subst h1
 obtain ⟨a, ae⟩ := A
 simp only at *
 rcases hcl trivial with rfl | rfl
 rotate_left 1
 ·refine Yte hH hI hA hB ?_
  exact exx Tryz.results3
 obtain ⟨_, _, _, _, _, vl, vh⟩ := hok trivial
 have va := hAv rfl
 obtain ⟨g1, g2, g3⟩ := hfh trivial rfl
 have hC1 := Yv5 lo a vl va
 have hC2 := Yv5 a hi va vh
 have l1 := Ykb.2 g1
 have l2 := Ykb.2 g2
 generalize cmpV lo a = c1 at *
 generalize cmpV a hi = c2 at *
 have l1 : (c1 > 0) = False := by simp; omega
 have l2 : (c2 > 0) = False := by simp; omega
 have hHs := hHs a
 rw [g3] at hHs
 ((refine ggb7 (F := _∧_) ⟨l1, l2⟩ hH hI hA hB hC1 hC2 hHs ?_))
 have hb0 : s.bs[0]? = some b := by rw [o.bs]; rfl
 have hbn : (bkC s.bs)[0]? = some (str b.nm) := Yek s.bs 0 b hb0 0 (by decide)
 have hbw : (bkC s.bs)[1]? = some (int b.w) := Yek s.bs 0 b hb0 1 (by decide)
 obtain ⟨tr, te⟩ := T
 obtain ⟨fo, fe'⟩ := V
 obtain ⟨ev, ee⟩ := E
 obtain ⟨lv, le⟩ := L
 simp only at *
 refine AW.less ⟨[(1, .ptr 0 (t + 1) 0), (2, bool false), (5, .ptr 1 (t2 + 1) 0), (6, .ptr 2 (t2 + 1 + 1) 0), (9, .ptr 4 (t2 + 1 + 1 + 1 + 1) 0)], [some ⟨25, t + 1, [bks s.bs, rps s.rs]⟩, some ⟨33, t2 + 1, [int lo.1, int lo.2]⟩, some ⟨33, t2 + 1 + 1, [int hi.1, int hi.2]⟩, some ⟨25, t2 + 1 + 1 + 1, [bks (Y0j s).bs, rps (Y0j s).rs]⟩, some ⟨33, t2 + 1 + 1 + 1 + 1, [int a.1, int a.2]⟩], t2 + 1 + 1 + 1 + 1 + 1⟩ ele ?_
 ((repeat refine Y00 ?_); (refine Ybf (F := _∧_∧_) ⟨hdb, hn, hbn⟩ hT ?_))
 refine wqa ?_
 repeat refine Y00 ?_
 refine Y0i (fun y : Nat => ⟨[(1, .ptr 0 (t + 1) 0), (2, bool false), (5, .ptr 1 (t2 + 1) 0), (6, .ptr 2 (t2 + 1 + 1) 0), (9, .ptr 4 (t2 + 1 + 1 + 1 + 1) 0)], [some ⟨25, t + 1, [bks s.bs, rps s.rs]⟩, some ⟨33, t2 + 1, [int lo.1, int lo.2]⟩, some ⟨33, t2 + 1 + 1, [int hi.1, int hi.2]⟩, some ⟨25, t2 + 1 + 1 + 1, [bks (Y0j s).bs, rps (Y0j s).rs]⟩, some ⟨33, t2 + 1 + 1 + 1 + 1, [int a.1, int a.2]⟩], y⟩) (fun _ => True) ?_ ?_
 ·by_cases ht : te = 0
  ·subst ht
   refine wia ?_
   have hM := rMul a tr
   have hO := Ylb b.w
   rcases htl trivial rfl with k | k
   ·rw [k] at hM
    refine gga1 hM ?_
    ((repeat refine Y00 ?_); (refine Y6h (F := _∧_∧_) ⟨hdb, hn, hbw⟩ hO ?_))
    refine wia ?_
    refine wsa ?_
    repeat refine Y00 ?_
    ((repeat refine Y00 ?_); (refine Ybf (F := _∧_∧_) ⟨hdb, hn, hbn⟩ hG ?_))
    by_cases hg : fe' = 0
    ·subst hg
     obtain ⟨rfl, _⟩ := hadv rfl rfl
     refine gga0 ?_
     refine ⟨t2 + 1 + 1 + 1 + 1 + 1 + 1 + 1 + 1 + 1, trivial, ?_⟩
     exact ele
    ·have e : (fe' == 0) = false := by simpa using hg
     refine ggb0 e ?_
     refine ⟨t2 + 1 + 1 + 1 + 1 + 1 + 1 + 1 + 1 + 1, trivial, ?_⟩
     exact ele
   ·generalize mulP a tr = M at *
    obtain ⟨mv, me⟩ := M
    simp only at k
    subst k
    refine gga1 hM ?_
    ((repeat refine Y00 ?_); (refine Ytf ?_))
    refine gga0 ?_
    exact exx Tryz.results3
  ·have e : (te == 0) = false := by simpa using ht
   refine wib e ?_
   refine wsa ?_
   refine ⟨t2 + 1 + 1 + 1 + 1 + 1 + 1, trivial, ?_⟩
   exact ele
 rintro t3 -
 refine gga1 hE ?_
 repeat refine Y00 ?_
 refine Y0i (fun y : Nat => ⟨[(1, .ptr 0 (t + 1) 0), (2, bool false), (9, .ptr 4 (t2 + 1 + 1 + 1 + 1) 0)], [some ⟨25, t + 1, [bks s.bs, rps s.rs]⟩, some ⟨33, t2 + 1, [int lo.1, int lo.2]⟩, some ⟨33, t2 + 1 + 1, [int hi.1, int hi.2]⟩, some ⟨25, t2 + 1 + 1 + 1, [bks (Y0j s).bs, rps (Y0j s).rs]⟩, some ⟨33, t2 + 1 + 1 + 1 + 1, [int a.1, int a.2]⟩], y⟩) (fun _ => True) ?_ ?_
 ·by_cases hte : ee = 0
  ·subst hte
   refine wia ?_
   have hM := rMul ev hi
   have heb := heb rfl trivial
   generalize mulP ev hi = M at *
   obtain ⟨mv, me⟩ := M
   simp only at heb
   by_cases hme : me = 0
   ·subst hme
    have heb := heb rfl
    subst heb
    refine gga1 hM ?_
    refine ⟨t3 + 1 + 1, trivial, ?_⟩
    exact ele
   ·have e : (me == 0) = false := by simpa using hme
    refine ggb1 e hM ?_
    refine ⟨t3 + 1 + 1, trivial, ?_⟩
    exact ele
  ·have e : (ee == 0) = false := by simpa using hte
   refine wib e ?_
   refine wsa ?_
   refine ⟨t3 + 1, trivial, ?_⟩
   exact ele
 rintro t4 -
 by_cases hle : le = 0
 rotate_left 1
 ·have e : (le != 0) = true := by simpa using hle
  refine ggb1 e hL ?_
  exact exx Tryz.results3
 subst hle
 obtain ⟨c, i1, i2, i3, i4, i5, i6, i7, rfl⟩ := hho trivial rfl
 have hC := Y101 s hf hv c b.w i1 i2 i3 i4 i5
 rw [i7] at hC
 rw [i6] at hRH
 have hlr := Y28 s.rs
 have hdr := Y1q s.rs
 rw [i3] at hlr hdr
 refine gga3 hL hC hRH ?_
 have hfe : frC [lv] = [int lv.1, int lv.2] := rfl
 ((repeat refine Y00 ?_); (refine gdzb (F := _∧_) ⟨hdr, hfe⟩ ?_))
 refine gga0 ?_
 exact exx Tryz.results3
end Go.Proofs.YtpbpafmgkdihlaaGreatDoor.T
namespace Go.Proofs.YtpbpafmgkdihlaaGreatDoor.T
open Go Go.RowKit Go.ChangeShapes
theorem slice_one {P : Program} {w : World} {r : Reach} {base : Nat} {t e : TypeId} {v : Value} (ht : P.underlying t = some (.slice e)) (h : Value.okWide P w r base t v) : v.cells = #[v] := by
 simp only [Value.okWide, ht, Cell.okWide] at h
 cases v <;> simp_all [Value.cells, Cell.ok]
theorem Ypn : ∀ {rows : List (List D)}, (∀ r ∈ rows, (∃ n, r = [int n] ∧ (Lit.int .i64 n).wf = true) ∧ r.length = 1) → ∃ l : List Int, rows.flatten = l.map int ∧ ∀ x ∈ l, (Lit.int .i64 x).wf = true
 | [], _ => ⟨[], rfl, by simp⟩
 | r :: rows, h => by
  obtain ⟨⟨n, rfl, hw⟩, _⟩ := h r (by simp)
  obtain ⟨l, e, hl⟩ := Ypn fun x hx => h x (List.mem_cons_of_mem _ hx)
  exact ⟨n :: l, by simp [e], fun x hx => by
   rcases List.mem_cons.1 hx with rfl | hx
   ·exact hw
   ·exact hl x hx⟩
theorem Yo3 : ∀ {rows : List (List D)}, (∀ r ∈ rows, (∃ l : List Int, r = [ints l] ∧ ∀ x ∈ l, (Lit.int .i64 x).wf = true) ∧ r.length = 1) → ∃ m : List (List Int), rows.flatten = m.map ints ∧ ∀ l ∈ m, ∀ x ∈ l, (Lit.int .i64 x).wf = true
 | [], _ => ⟨[], rfl, by simp⟩
 | r :: rows, h => by
  obtain ⟨⟨n, rfl, hw⟩, _⟩ := h r (by simp)
  obtain ⟨l, e, hl⟩ := Yo3 fun x hx => h x (List.mem_cons_of_mem _ hx)
  exact ⟨n :: l, by simp [e], fun x hx => by
   rcases List.mem_cons.1 hx with rfl | hx
   ·exact hw
   ·exact hl x hx⟩
theorem u8_of {x : Int} (h : (Lit.int .u8 x).wf = true) : 0 ≤ x ∧ x < 256 := by
 rw [Lit.wf, Bool.and_eq_true] at h
 have h1 := of_decide_eq_true h.1
 have h2 := of_decide_eq_true h.2
 have e1 : IntKind.u8.min = 0 := rfl
 have e2 : IntKind.u8.max = 255 := rfl
 rw [e1] at h1
 rw [e2] at h2
 exact ⟨h1, by omega⟩
theorem Ykd : Tryz.prog.cellsOf 3 = 1 := by kernel_rfl
theorem Yr5 : Tryz.prog.cellsOf 59 = 1 := by kernel_rfl
section
variable {H : Type} {enc : TypeId × Value → H} {W : World}
theorem Ysr : Opn enc Tryz.prog W 59 fun ds => ∃ l : List Int, ds = [ints l] ∧ ∀ x ∈ l, (Lit.int .i64 x).wf = true :=
 (Opn.slice Tryz.underlying59 Ykd (by decide) (Opn.int Tryz.underlying3)).mono fun ds ⟨rows, e, h, _⟩ => by
  obtain ⟨l, e2, hl⟩ := Ypn h
  exact ⟨l, by rw [e, e2], hl⟩
theorem opn_mat : Opn enc Tryz.prog W 121 fun ds => ∃ m : List (List Int), ds = [mat m] ∧ ∀ l ∈ m, ∀ x ∈ l, (Lit.int .i64 x).wf = true :=
 (Opn.slice Tryz.underlying121 Yr5 (by decide) Ysr).mono fun ds ⟨rows, e, h, _⟩ => by
  obtain ⟨l, e2, hl⟩ := Yo3 h
  exact ⟨l, by rw [e, e2], hl⟩
end
theorem Yjz : ∀ {rows : List (List D)}, (∀ r ∈ rows, (∃ a b, r = [int a, int b]) ∧ r.length = 2) → ∃ l : List (Int × Int), rows.flatten = frC l
 | [], _ => ⟨[], rfl⟩
 | r :: rows, h => by
  obtain ⟨⟨a, b, rfl⟩, _⟩ := h r (by simp)
  obtain ⟨l, e⟩ := Yjz fun x hx => h x (List.mem_cons_of_mem _ hx)
  exact ⟨(a, b) :: l, by simp [e, frC]⟩
theorem Yr7 : Tryz.prog.cellsOf 33 = 2 := by kernel_rfl
section
variable {H : Type} {enc : TypeId × Value → H} {W : World}
theorem Ydh : Opn enc Tryz.prog W 33 fun ds => ∃ a b, ds = [int a, int b] :=
 (Opn.struct Tryz.underlying33 ⟨_, _, rfl, rfl, Opn.int Tryz.underlying3, _, _, rfl, by simp only [Ykd], Opn.int Tryz.underlying3, rfl⟩ (by kernel_rfl)).mono fun ds h => by
  obtain ⟨d1, r1, rfl, ⟨a, rfl, _⟩, d2, r2, rfl, ⟨b, rfl, _⟩, rfl⟩ := h
  exact ⟨a, b, rfl⟩
theorem opn_fracs : Opn enc Tryz.prog W 51 fun ds => ∃ l : List (Int × Int), ds = [frs l] ∧ True :=
 (Opn.slice Tryz.underlying51 Yr7 (by decide) Ydh).mono fun ds ⟨rows, e, h, _⟩ => by
  obtain ⟨l, e2⟩ := Yjz h
  exact ⟨l, by rw [e, e2], trivial⟩
end
theorem Y9j {α : Type} {f : α → List D} {n : Nat} : ∀ {rows : List (List D)}, (∀ r ∈ rows, (∃ x, r = f x) ∧ r.length = n) → ∃ l : List α, rows.flatten = l.flatMap f
 | [], _ => ⟨[], rfl⟩
 | r :: rows, h => by
  obtain ⟨⟨x, rfl⟩, _⟩ := h r (by simp)
  obtain ⟨l, e⟩ := Y9j fun x hx => h x (List.mem_cons_of_mem _ hx)
  exact ⟨x :: l, by simp [e]⟩
theorem Yr6 : Tryz.prog.cellsOf 35 = 4 := by kernel_rfl
theorem Yr4 : Tryz.prog.cellsOf 30 = 3 := by kernel_rfl
theorem Yme : Tryz.prog.cellsOf 48 = 2 := by kernel_rfl
theorem agg_of {P : Program} {w : World} {r : Reach} {base : Nat} {t : TypeId} {fs : Array Field} {v : Value} (ht : P.underlying t = some (.struct fs)) (h : Value.okWide P w r base t v) : ∃ cs, v = .agg cs := by
 simp only [Value.okWide, ht] at h
 obtain ⟨cs, e, _⟩ := h
 exact ⟨cs, e⟩
section
variable {H : Type} {enc : TypeId × Value → H} {W : World}
theorem Yss : Opn enc Tryz.prog W 35 fun ds => ∃ h : Hd, ds = hd1 h :=
 (Opn.struct Tryz.underlying35 ⟨_, _, rfl, (by kernel_rfl), Opn.str Tryz.underlying9, _, _, rfl, (by kernel_rfl), Opn.int Tryz.underlying3, _, _, rfl, (by kernel_rfl), Ydh, rfl⟩ (by kernel_rfl)).mono fun ds h => by
  obtain ⟨d1, r1, rfl, ⟨s, rfl, _⟩, d2, r2, rfl, ⟨p, rfl, _⟩, d3, r3, rfl, ⟨a, b, rfl⟩, rfl⟩ := h
  exact ⟨⟨s, p, a, b⟩, rfl⟩
theorem Yov : Opn enc Tryz.prog W 28 fun ds => ∃ l : List Hd, ds = [hds l] :=
 (Opn.slice Tryz.underlying28 Yr6 (by decide) Yss).mono fun ds ⟨rows, e, h, _⟩ => by
  obtain ⟨l, e2⟩ := Y9j h
  exact ⟨l, by rw [e, e2]; rfl⟩
theorem Yjl : Opn enc Tryz.prog W 30 fun ds => ∃ r : Rp, ds = rp1 r :=
 (Opn.struct Tryz.underlying30 ⟨_, _, rfl, (by kernel_rfl), Opn.str Tryz.underlying9, _, _, rfl, (by kernel_rfl), Yov, _, _, rfl, (by kernel_rfl), Opn.bool Tryz.underlying4, rfl⟩ (by kernel_rfl)).mono fun ds h => by
  obtain ⟨d1, r1, rfl, ⟨s, rfl, _⟩, d2, r2, rfl, ⟨l, rfl⟩, d3, r3, rfl, ⟨b, rfl⟩, rfl⟩ := h
  exact ⟨⟨s, l, b⟩, rfl⟩
theorem You : Opn enc Tryz.prog W 23 fun ds => ∃ l : List Rp, ds = [rps l] :=
 (Opn.slice Tryz.underlying23 Yr4 (by decide) Yjl).mono fun ds ⟨rows, e, h, _⟩ => by
  obtain ⟨l, e2⟩ := Y9j h
  exact ⟨l, by rw [e, e2]; rfl⟩
theorem Yow : Opn enc Tryz.prog W 48 fun ds => ∃ b : Bk, ds = bk1 b :=
 (Opn.struct Tryz.underlying48 ⟨_, _, rfl, (by kernel_rfl), Opn.str Tryz.underlying9, _, _, rfl, (by kernel_rfl), Opn.int Tryz.underlying3, rfl⟩ (by kernel_rfl)).mono fun ds h => by
  obtain ⟨d1, r1, rfl, ⟨s, rfl, _⟩, d2, r2, rfl, ⟨p, rfl, _⟩, rfl⟩ := h
  exact ⟨⟨s, p⟩, rfl⟩
theorem Ylk : Opn enc Tryz.prog W 22 fun ds => ∃ l : List Bk, ds = [bks l] :=
 (Opn.slice Tryz.underlying22 Yme (by decide) Yow).mono fun ds ⟨rows, e, h, _⟩ => by
  obtain ⟨l, e2⟩ := Y9j h
  exact ⟨l, by rw [e, e2]; rfl⟩
theorem Ywo : Opn enc Tryz.prog W 25 fun ds => ∃ s : Sy, ds = [bks s.bs, rps s.rs] :=
 (Opn.struct Tryz.underlying25 ⟨_, _, rfl, (by kernel_rfl), Ylk, _, _, rfl, (by kernel_rfl), You, rfl⟩ (by kernel_rfl)).mono fun ds h => by
  obtain ⟨d1, r1, rfl, ⟨a, rfl⟩, d2, r2, rfl, ⟨b, rfl⟩, rfl⟩ := h
  exact ⟨⟨a, b⟩, rfl⟩
theorem Yxw {v : Value} {base : Nat} {r : Reach} {d : DataW H} {p : List MemPlace} (h : DataW.Trod enc Tryz.prog W 0 (fun _ => true) true 25 v d p) (hv : Value.okWide Tryz.prog W r base 25 v) : ∃ s : Sy, Rep (Y8h W) [] (syD s) v := by
 obtain ⟨cs, rfl⟩ : ∃ cs, v = .agg cs := by
  simp only [Value.okWide, Tryz.underlying25] at hv
  obtain ⟨cs, e, _⟩ := hv
  exact ⟨cs, e⟩
 obtain ⟨ds, hr, s, rfl⟩ := Yiu Ywo h
 exact ⟨s, hr⟩
theorem cellsSys : Tryz.prog.cellsOf 25 = 2 := by kernel_rfl
theorem arg_rope {v : Value} {base : Nat} {r : Reach} {d : DataW H} {p : List MemPlace} (h : DataW.Trod enc Tryz.prog W 0 (fun _ => true) true 30 v d p) (hv : Value.okWide Tryz.prog W r base 30 v) : ∃ s : Rp, Rep (Y8h W) [] (.agg (rp1 s)) v := by
 obtain ⟨cs, rfl⟩ : ∃ cs, v = .agg cs := by
  simp only [Value.okWide, Tryz.underlying30] at hv
  obtain ⟨cs, e, _⟩ := hv
  exact ⟨cs, e⟩
 obtain ⟨ds, hr, s, rfl⟩ := Yiu Yjl h
 exact ⟨s, hr⟩
theorem arg_frac {v : Value} {base : Nat} {r : Reach} {d : DataW H} {p : List MemPlace} (h : DataW.Trod enc Tryz.prog W 0 (fun _ => true) true 33 v d p) (hv : Value.okWide Tryz.prog W r base 33 v) : ∃ s : Int × Int, Rep (Y8h W) [] (frD s) v := by
 obtain ⟨cs, rfl⟩ : ∃ cs, v = .agg cs := by
  simp only [Value.okWide, Tryz.underlying33] at hv
  obtain ⟨cs, e, _⟩ := hv
  exact ⟨cs, e⟩
 obtain ⟨ds, hr, a, b, rfl⟩ := Yiu Ydh h
 exact ⟨(a, b), hr⟩
abbrev u16s (l : List Int) : D := .sl 1 (l.map fun n => .v (.int .u16 n)) false
theorem u16_of {x : Int} (h : (Lit.int .u16 x).wf = true) : 0 ≤ x ∧ x < 65536 := by
 rw [Lit.wf, Bool.and_eq_true] at h
 have h1 := of_decide_eq_true h.1
 have h2 := of_decide_eq_true h.2
 have e1 : IntKind.u16.min = 0 := rfl
 have e2 : IntKind.u16.max = 65535 := rfl
 rw [e1] at h1
 rw [e2] at h2
 exact ⟨h1, by omega⟩
theorem Ys3 : ∀ {rows : List (List D)}, (∀ r ∈ rows, (∃ n, r = [.v (.int .u16 n)] ∧ (Lit.int .u16 n).wf = true) ∧ r.length = 1) → ∃ l : List Int, rows.flatten = l.map (fun n => .v (.int .u16 n)) ∧ ∀ x ∈ l, (Lit.int .u16 x).wf = true
 | [], _ => ⟨[], rfl, by simp⟩
 | r :: rows, h => by
  obtain ⟨⟨n, rfl, hw⟩, _⟩ := h r (by simp)
  obtain ⟨l, e, hl⟩ := Ys3 fun x hx => h x (List.mem_cons_of_mem _ hx)
  exact ⟨n :: l, by simp [e], fun x hx => by
   rcases List.mem_cons.1 hx with rfl | hx
   ·exact hw
   ·exact hl x hx⟩
theorem u64_of {x : Int} (h : (Lit.int .u64 x).wf = true) : 0 ≤ x ∧ x ≤ 18446744073709551615 := by
 rw [Lit.wf, Bool.and_eq_true] at h
 have h1 := of_decide_eq_true h.1
 have h2 := of_decide_eq_true h.2
 have e1 : IntKind.u64.min = 0 := rfl
 have e2 : IntKind.u64.max = 18446744073709551615 := rfl
 rw [e1] at h1
 rw [e2] at h2
 exact ⟨h1, h2⟩
end
end Go.Proofs.YtpbpafmgkdihlaaGreatDoor.T
/- The signs of the head's word (printed by mkmake.py): the Y50 need not take a long string apart. -/
namespace Go.Proofs.YtpbpafmgkdihlaaGreatDoor.T
open Go Go.RowKit Go.Joins
def Ykv : List Char := [104, 97, 114, 110, 101, 115, 115, 32, 56, 98, 54, 57, 101, 54, 53, 98, 98, 52, 99, 57, 102, 50, 54, 55, 99, 53, 97, 56, 49, 99, 48, 57, 56, 54, 51, 98, 49, 102, 48, 57, 52, 101, 50, 57, 48, 102, 102, 56, 100, 101, 52, 48, 54, 50, 100, 48, 57, 57, 100, 102, 54, 99, 55, 101].map Char.ofNat
def Yku : List Char := [50, 97, 54, 98, 57, 98, 52, 51, 32, 99, 117, 116, 32, 97, 116, 32, 108, 111, 102, 116, 98, 108, 111, 99, 107, 47, 108, 111, 102, 116, 98, 108, 111, 99, 107, 116, 111, 112, 46, 84, 111, 112, 72, 111, 108, 100, 105, 110, 103].map Char.ofNat
def Y4w : List Char := Ykv ++ Yku
theorem Ygy : Tryz.prog.initOrder.toList = Y4w := by
  have h : Tryz.prog.initOrder = String.ofList Y4w := by kernel_rfl
  rw [h, String.toList_ofList]
theorem Yj1 : behindMainWord (wordsSigns Y4w) = "cut".toList :: (behindMainWord (wordsSigns Y4w)).tail := by kernel_rfl
theorem Ywv (P : Program) (l : List Char) (h : P.initOrder.toList = l) (r : List (List Char)) (hr : behindMainWord (wordsSigns l) = "cut".toList :: r) : P.make = some .cut := by
  unfold Program.make
  rw [h, hr]
  rfl
theorem Yu2 (P : Program) (l : List Char) (h : P.initOrder.toList = l) (r : List (List Char)) (hr : behindMainWord (wordsSigns l) = "cut".toList :: r) (h1 : P.laysLater = false) (h2 : P.bearsReflect = false) (h3 : P.doorFits [] = true) (hs : stripLifts liftWords ("cut".toList :: r) = ([], "cut".toList :: r)) : P.mayEnter = true := by
  unfold Program.mayEnter
  rw [h, hr]
  simp only [hs, h1, h2, h3]
  rfl
theorem Yn3 : Tryz.prog.make = some .cut := Ywv _ Y4w Ygy _ Yj1
theorem Ykt : Tryz.prog.mayEnter = true := Yu2 _ Y4w Ygy _ Yj1 (by kernel_rfl) (by kernel_rfl) (by kernel_rfl) (by kernel_rfl)
theorem Yks : Tryz.prog.liftsFinal = false := by
  unfold Program.liftsFinal Program.headLifts
  rw [Ygy]
  kernel_rfl
theorem Ygz : Tryz.pinned.checked.prog.mayEnter = true := Ykt
theorem Ygx : Tryz.pinned.checked.prog.liftsFinal = false := Yks
theorem Ykr : Tryz.pinned.checked.prog.make = some .cut := Yn3
end Go.Proofs.YtpbpafmgkdihlaaGreatDoor.T
