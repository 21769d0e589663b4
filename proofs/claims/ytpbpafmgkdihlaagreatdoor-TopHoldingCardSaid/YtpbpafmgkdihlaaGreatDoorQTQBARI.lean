import Derived.Test.YtpbpafmgkdihlaaGreatDoorQTITTQA
import Derived.Test.YtpbpafmgkdihlaaGreatDoorQWA
import Derived.Test.YtpbpafmgkdihlaaGreatDoorQCPYALO
import Derived.Test.YtpbpafmgkdihlaaGreatDoorQASOTL
import Derived.Test.YtpbpafmgkdihlaaGreatDoorQMGKALW
import Derived.Test.YtpbpafmgkdihlaaGreatDoorQWPJSNQ
import Derived.Test.YtpbpafmgkdihlaaGreatDoorQVJAVP
import Derived.Test.YtpbpafmgkdihlaaGreatDoorQTQITQC
import Derived.Test.YtpbpafmgkdihlaaGreatDoorQTWTQQ
set_option linter.all false
namespace Go.Proofs.YtpbpafmgkdihlaaGreatDoor.T
open Go Go.RowKit
def txt : ByteArray := ⟨#[115, 121, 115, 116, 101, 109, 32, 49, 32, 49, 10, 116, 101, 110, 115, 105, 111, 110, 32, 114, 32, 49, 53, 48, 10, 104, 111, 108, 100, 105, 110, 103, 32, 49, 53, 48, 32, 49, 53, 48, 10]⟩
def txt0 : ByteArray := ⟨#[115, 121, 115, 116, 101, 109, 32, 49, 32, 49, 10]⟩
theorem Yoh (w : World) : Calls Tryz.prog 62 #[.string txt, .string txt0] w fun e w' => e = .returned (.bool true) ∧ w' = w := by
 have h1 : txt.size = 41 := rfl
 have h2 : txt0.size = 11 := rfl
 have h3 : ((txt.extract 0 11).toList == txt0.toList) = true := by kernel_rfl
 go_enter Tryz.func62, Tryz.ntmps62
 go_wp2
 go_ret
 exact ⟨rfl, rfl⟩
theorem Yoi : PRet Tryz.prog 26 [.v (.string txt), .v (.string txt0)] (bool true) := by
 have h := PRet.of_calls (P := Tryz.prog) (f := 62) (ds := [.v (.string txt), .v (.string txt0)]) (us := [.string txt, .string txt0]) (d := bool true) (u := .bool true) ⟨_, Tryz.func62, rfl, rfl⟩
  (fun F G vs hL => by
   simp only [RepL] at hL
   obtain ⟨u, _, rfl, hu, u2, _, rfl, hu2, rfl⟩ := hL
   simp only [Rep] at hu hu2
   subst hu; subst hu2; rfl)
  (fun F => Y1e _ _ _) (fun w => (Yoh w).mono fun e w' ⟨h1, h2⟩ => ⟨h1, by subst h2; exact Below.refl _ _⟩)
 refine pri 1 Tryz.func26 Tryz.ntmps26 fun t => ?_
 simp only [Y04]
 refine gga1 h ?_
 exact exx Tryz.results26
end Go.Proofs.YtpbpafmgkdihlaaGreatDoor.T
namespace Go.Proofs.YtpbpafmgkdihlaaGreatDoor.T
open Go Go.RowKit Lin
theorem Ytm {P Q : Prop} (q : Q) (h : Q → P := by
 intro  hq
 (try with_reducible intro KR hKR)
 (repeat refine Y00 ?_); (repeat refine Y00 ?_); (refine Y0d tab_ok Y06 0 fun KR hKR => ?_); simp only [List.replicate_succ, List.replicate_zero, List.append_nil, List.nil_append, List.cons_append, List.length_cons, List.length_nil, Nat.reduceAdd]; (repeat' ((first | refine Y2s rfl fun KK hKK => ?_ | refine Y2t rfl rfl fun KK hKK => ?_ | refine Y15 rfl fun KK hKK => ?_ | refine Y14 fun KK hKK => ?_); simp (disch := omega) only [bb, bt, zDs, zD, Y01, simprocAttr, bne_self_eq_false, Int.reduceBNe, Int.reduceBEq, Bool.bne_false, Bool.bne_true, Bool.false_bne, Bool.true_bne]; refine hKK _ _ _ ?_; clear hKK KK)); (refine Y0k ?_); simp only [List.reverse_cons, List.reverse_nil, List.nil_append, List.cons_append]; (refine hKR _ _ (by first | rfl | kernel_rfl) ?_); (try clear hKR KR); (refine qq1 ?_)
 (first | exact hq | (revert hKR; revert KR; exact hq))) : P := h  q
set_option maxHeartbeats 4000000 in
theorem Ypu (s : Sy) (hf : Fits s) : PRet Tryz.prog 9 [syD s] (.tup [frD (Y1x s).1, frD (Y1x s).2.1, int (Y1x s).2.2]) := by
 refine pri 1 Tryz.func9 Tryz.ntmps9 fun t => ?_
 simp only [Y04]
 have hR := Ya8 s hf
 have hL := Yph s hf
 have v1 := @Y8j s true
 have v2 := @Y8j s false
 unfold Y1x
 generalize Y07 s true = A at *
 generalize Y07 s false = B at *
 by_cases h1 : A.2 = 0
 rotate_left 1
 ·have e1 : (A.2 != 0) = true := by simpa using h1
  rw [if_neg h1]
  refine ggb1 e1 hR ?_
  exact exx Tryz.results9
 have e1 : (A.2 != 0) = false := by simpa using h1
 rw [if_pos h1]
 by_cases h2 : B.2 = 0
 rotate_left 1
 ·have e2 : (B.2 != 0) = true := by simpa using h2
  rw [if_neg h2]
  ((refine ggb2 (F := _∧_) ⟨e1, e2⟩ hR hL ?_))
  exact exx Tryz.results9
 have e2 : (B.2 != 0) = false := by simpa using h2
 rw [if_pos h2]
 have hC := rCmp A.1 B.1
 rw [Yeg (v1 h1) (v2 h2)] at hC
 simp only at hC
 generalize cmpV A.1 B.1 = c at *
 by_cases h3 : c < 0
 ·rw [if_pos h3]
  ((refine ggb3 (F := _∧_) ⟨e1, e2⟩ hR hL hC ?_))
  refine Y02 ?_
  refine ggb0 h3 ?_
  exact exx Tryz.results9
 ·rw [if_neg h3]
  ((refine ggb3 (F := _∧_) ⟨e1, e2⟩ hR hL hC ?_))
  refine Y02 ?_
  refine ggb0 h3 ?_
  ((repeat refine Y00 ?_); (refine Ytm ?_))
  exact exx Tryz.results9
set_option maxHeartbeats 4000000 in
theorem Yx0 (s : Sy) (hf : Fits s) (f : Int × Int) : PRet Tryz.prog 14 [syD s, frD f] (.tup [bool (Y8y s f).1, int (Y8y s f).2]) := by
 refine pri 1 Tryz.func14 Tryz.ntmps14 fun t => ?_
 simp only [Y04]
 have hV := Y5d f.1 f.2
 have hH := Ypu s hf
 have hok := @Y7p s
 unfold Y8y
 generalize Y1x s = X at *
 obtain ⟨lo, hi, e⟩ := X
 simp only at *
 cases hv : Y09 f.1 f.2
 ·rw [hv] at hV
  rw [if_neg (by decide)]
  refine gga1 hV ?_
  exact exx Tryz.results14
 rw [hv] at hV
 rw [if_pos rfl]
 by_cases h1 : e = 0
 rotate_left 1
 ·have e1 : (e != 0) = true := by simpa using h1
  rw [if_neg h1]
  refine ggb2 e1 hV hH ?_
  exact exx Tryz.results14
 obtain ⟨_, _, _, _, _, vl, vh⟩ := hok h1
 subst h1
 rw [if_pos rfl]
 have hC1 := rCmp f lo
 rw [Yeg hv vl] at hC1
 have hC2 := rCmp f hi
 rw [Yeg hv vh] at hC2
 simp only at hC1 hC2
 generalize cmpV f lo = c1 at *
 generalize cmpV f hi = c2 at *
 by_cases h2 : 0 ≤ c1
 ·rw [decide_eq_true h2, Bool.true_and]
  by_cases h3 : c2 ≤ 0
  ·rw [decide_eq_true h3]
   ((refine ggb4 (F := _∧_) ⟨h2, h3⟩ hV hH hC1 hC2 ?_))
   exact exx Tryz.results14
  ·rw [decide_eq_false h3]
   ((refine ggb4 (F := _∧_) ⟨h2, h3⟩ hV hH hC1 hC2 ?_))
   exact exx Tryz.results14
 ·rw [decide_eq_false h2, Bool.false_and]
  refine ggb4 h2 hV hH hC1 hC2 ?_
  exact exx Tryz.results14
end Go.Proofs.YtpbpafmgkdihlaaGreatDoor.T
namespace Go.Proofs.YtpbpafmgkdihlaaGreatDoor.T
open Go Go.RowKit
theorem Yvv {P Q : Prop} (q : Q) (h : Q → P := by
 intro  hq
 (try with_reducible intro KR hKR)
 (refine qq1 ?_)
 (first | exact hq | (revert hKR; revert KR; exact hq))) : P := h  q
def exT : Sy := ⟨[⟨⟨#[98]⟩, 300⟩], [⟨⟨#[114]⟩, [⟨⟨#[]⟩, 0, 1, 1⟩, ⟨⟨#[98]⟩, 2, 1, 1⟩, ⟨⟨#[]⟩, 0, 1, 1⟩], true⟩]⟩
theorem Y7v : Fits exT := Y64 (by decide +kernel)
theorem Yqf : Y0g exT = true := by decide +kernel
theorem Ytz : Y2k exT = ([(150, 1)], 0) := by decide +kernel
theorem Yu0 : Y1x exT = ((150, 1), (150, 1), 0) := by decide +kernel
theorem it1 : itB 1 = ⟨#[49]⟩ := by simp [itB, Lib.itoa, Lib.decDigits]
theorem Ywz : itB 150 = ⟨#[49, 53, 48]⟩ := by
 have : Lib.itoa 150 = [49, 53, 48] := by
  unfold Lib.itoa
  rw [if_neg (by decide)]
  show Lib.decDigits 150 = _
  rw [Lib.decDigits, dif_neg (by decide), Lib.decDigits, dif_neg (by decide), Lib.decDigits, dif_pos (by decide)]
  rfl
 unfold itB
 rw [this]
def ws1 : List Wd := [.s ⟨#[115, 121, 115, 116, 101, 109]⟩, .n 1, .n 1]
def ws2 : List Wd := [.s ⟨#[116, 101, 110, 115, 105, 111, 110]⟩, .s ⟨#[114]⟩, .f 150]
def ws3 : List Wd := [.s ⟨#[104, 111, 108, 100, 105, 110, 103]⟩, .f 150, .f 150]
def tx1 : ByteArray := ⟨#[115, 121, 115, 116, 101, 109, 32, 49, 32, 49, 10]⟩
def tx2 : ByteArray := ⟨#[115, 121, 115, 116, 101, 109, 32, 49, 32, 49, 10, 116, 101, 110, 115, 105, 111, 110, 32, 114, 32, 49, 53, 48, 10]⟩
theorem Yzc : okW (.n 1) := ⟨by decide, by rw [it1]; decide⟩
theorem Yho : okW (.f 150) := ⟨by decide +kernel, by rw [Ywz]; decide⟩
theorem Yyb : ∀ w ∈ ws1, okW w := by
 intro w hw
 simp only [ws1, List.mem_cons, List.not_mem_nil, or_false] at hw
 rcases hw with rfl | rfl | rfl
 ·exact (by decide : 0 < 6 ∧ 6 ≤ 100)
 ·exact Yzc
 ·exact Yzc
theorem Yya : ∀ w ∈ ws2, okW w := by
 intro w hw
 simp only [ws2, List.mem_cons, List.not_mem_nil, or_false] at hw
 rcases hw with rfl | rfl | rfl
 ·exact (by decide : 0 < 7 ∧ 7 ≤ 100)
 ·exact (by decide : 0 < 1 ∧ 1 ≤ 100)
 ·exact Yho
theorem Yy9 : ∀ w ∈ ws3, okW w := by
 intro w hw
 simp only [ws3, List.mem_cons, List.not_mem_nil, or_false] at hw
 rcases hw with rfl | rfl | rfl
 ·exact (by decide : 0 < 7 ∧ 7 ≤ 100)
 ·exact Yho
 ·exact Yho
theorem Yym : [] ++ Y3s ws1 ++ strD nlB = strD tx1 := by
 simp only [Y3s, ws1, wdB, it1, List.flatMap_cons, List.flatMap_nil]
 rfl
theorem Yyl : strD tx1 ++ Y3s ws2 ++ strD nlB = strD tx2 := by
 simp only [Y3s, ws2, wdB, Ywz, List.flatMap_cons, List.flatMap_nil]
 rfl
theorem Yyk : strD tx2 ++ Y3s ws3 ++ strD nlB = strD txt := by
 simp only [Y3s, ws3, wdB, Ywz, List.flatMap_cons, List.flatMap_nil]
 rfl
set_option maxHeartbeats 4000000 in
theorem Ynn : PRet Tryz.prog 23 [syD exT] (.tup [.v (.string txt), int 0]) := by
 refine pri 1 Tryz.func23 Tryz.ntmps23 fun t => ?_
 simp only [Y04]
 have hV := Y43 exT Y7v
 rw [Yqf] at hV
 have hT := Yf2 exT Y7v
 rw [Ytz] at hT
 have hH := Ypu exT Y7v
 rw [Yu0] at hH
 have d1 : (bkC exT.bs).length / 2 = 1 := rfl
 have d2 : (rpC exT.rs).length / 3 = 1 := rfl
 have rd : (rpC exT.rs).take 3 = [str ⟨#[114]⟩, hds [⟨⟨#[]⟩, 0, 1, 1⟩, ⟨⟨#[98]⟩, 2, 1, 1⟩, ⟨⟨#[]⟩, 0, 1, 1⟩], bool true] := rfl
 have rl : (rpC exT.rs).length = 3 := rfl
 generalize exT = X at *
 refine wqa ?_
 ((repeat refine Y00 ?_); (refine Y03 tab_ok fun KR hKR => ?_))
 refine wra ?_
 refine wka1 hV ?_
 refine wra ?_
 ((refine wea ?_); (try clear hKR KR))
 refine wia ?_
 refine wsa ?_
 refine wqa ?_
 refine AW.begin_cell 1 1 1 5 rfl rfl (by decide) ?_
 repeat refine Y00 ?_
 simp only [List.set_cons_succ, List.set_cons_zero, List.cons_append, List.nil_append, List.length_cons, List.length_nil, Nat.reduceAdd]
 ((repeat refine Y00 ?_); (refine Y03 tab_ok fun KR hKR => ?_))
 ((repeat ((first | refine Y19 rfl fun KK hKK => ?_ | refine Y1a rfl rfl fun KK hKK => ?_ | refine Y08 rfl fun KK hKK => ?_); simp (disch := omega) only [bb, bt, zDs, zD, Y01, simprocAttr, mkI, Y7i, d1, d2]; refine hKK _ ?_; clear hKK KK)))
 ((try with_reducible intro KR hKR); (first | refine Y0f fun KK hKK => ?_ | refine Y08 rfl fun KK hKK => ?_); simp (disch := omega) only [bb, bt, zDs, zD, Y01, simprocAttr, goC, Y0e, Y0m, and_self])
 refine Yal (ws := ws1) (ub := 2) (gb := t + 1 + 1 + 1) (P0 := .v (.pointer none)) (e := int 0) (bs := []) ⟨rfl, rfl, .inl rfl⟩ Yyb (by decide) (by decide) fun t1 ht1 => ?_
 rw [Yym]
 simp only [Y3b, setH, List.length_cons, List.length_nil, Nat.reduceAdd, Nat.reduceEqDiff, ↓reduceIte, List.set_cons_succ, List.set_cons_zero]
 (simp (disch := omega) only [bb, bt, zDs, zD, Y01, simprocAttr, Y0n]; refine hKK _ ?_; clear hKK KK)
 ((refine wea ?_); (try clear hKR KR))
 refine gga1 hT ?_
 repeat refine Y00 ?_
 refine Y0i (fun x : Nat => ⟨[(1, .ptr 0 (t + 1) 0), (4, .ptr 1 (t + 1 + 1) 0)], [some ⟨25, t + 1, [bks X.bs, rps X.rs]⟩, some ⟨102, t + 1 + 1, [.ptr 1 (t + 1 + 1) 0, .own 1 2 x 0 (strD tx2).length, int 0]⟩, some ⟨5, x, strD tx2⟩], x⟩) (fun x => t1 ≤ x) ?_ ?_
 ·refine Y02 ?_
  refine ggb0 d2 ?_
  repeat refine Y00 ?_
  refine Y02 ?_
  refine Y05 (fun x : ByteArray × Nat × Nat => ⟨[(1, .ptr 0 (t + 1) 0), (4, .ptr 1 (t + 1 + 1) 0), (5, frs [(150, 1)]), (35, rps X.rs), (36, int 1), (37, int x.2.1)], [some ⟨25, t + 1, [bks X.bs, rps X.rs]⟩, some ⟨102, t + 1 + 1, [.ptr 1 (t + 1 + 1) 0, .own 1 2 (x.2.2) 0 (strD x.1).length, int 0]⟩, some ⟨5, x.2.2, strD x.1⟩], x.2.2⟩) (fun x => 1 - x.2.1) (fun x => (x.1 = tx1 ∧ x.2.1 = 0 ∨ x.1 = tx2 ∧ x.2.1 = 1) ∧ t1 ≤ x.2.2) (tx1, 0, t1) ⟨.inl ⟨rfl, rfl⟩, Nat.le_refl _⟩ ele ?_
  rintro ⟨B, k, tt⟩ ⟨hB, htt⟩
  simp only at hB htt ⊢
  rcases hB with ⟨rfl, rfl⟩ | ⟨rfl, rfl⟩
  rotate_left 1
  ·refine gga0 ?_
   refine ⟨tt, htt, ?_⟩
   exact ele
  refine wqa ?_
  refine wia ?_
  refine wsa ?_
  repeat refine Y00 ?_
  refine Y02 ?_
  ((repeat refine Y00 ?_); (refine Y03 tab_ok fun KR hKR => ?_))
  ((refine wrb (F := _∧_) ⟨rl, rd⟩ ?_))
  ((refine wea ?_); (try clear hKR KR))
  have fr1 : frs [(150, 1)] = .sl 2 [int 150, int 1] false := rfl
  refine Y24 tab_ok Y06 0 10 rfl (by kernel_rfl) fun KR hKR => ?_
  simp only [List.take_succ_cons, List.take_zero]
  ((repeat ((first | refine Y2s rfl fun KK hKK => ?_ | refine Y2t rfl rfl fun KK hKK => ?_); simp (disch := omega) only [bb, bt, zDs, zD, Y01, simprocAttr, mkI, Y7i, fr1]; refine hKK _ _ _ ?_; clear hKK KK)))
  refine Y0k ?_
  simp only [List.reverse_cons, List.reverse_nil, List.nil_append, List.cons_append]
  refine hKR _ _ (by kernel_rfl) fun KS hKS => ?_
  clear hKR KR
  simp only [List.drop_succ_cons, List.drop_zero]
  ((try with_reducible intro KR hKR); (first | refine Y0f fun KK hKK => ?_ | refine Y08 rfl fun KK hKK => ?_); simp (disch := omega) only [bb, bt, zDs, zD, Y01, simprocAttr, goC, Y0e, Y0m, and_self])
  refine Yal (ws := ws2) (ub := 2) (gb := tt) (P0 := .ptr 1 (t + 1 + 1) 0) (e := int 0) (bs := strD tx1) ⟨rfl, rfl, .inr rfl⟩ Yya (by decide) (by decide) fun t2 ht2 => ?_
  rw [Yyl]
  simp only [Y3b, setH, List.length_cons, List.length_nil, Nat.reduceAdd, Nat.reduceEqDiff, ↓reduceIte, List.set_cons_succ, List.set_cons_zero]
  (simp (disch := omega) only [bb, bt, zDs, zD, Y01, simprocAttr, Y0n]; refine hKK _ ?_; clear hKK KK)
  refine Y0o ?_
  refine hKS _ ?_
  clear hKS KS
  refine Yvv ?_
  refine gga0 ?_
  refine ⟨(tx2, 1, t2), ⟨.inr ⟨rfl, rfl⟩, by show t1 ≤ t2; omega⟩, by show 1 - 1 < 1 - 0; decide, ?_⟩
  (simp (disch := omega) only [StLe, tmLe, Y0b, hpLe, bl, bb, bt, zDs, zD, Y01, simprocAttr, fr1])
 rintro t2 ht2
 repeat refine Y00 ?_
 ((repeat refine Y00 ?_); (refine Y03 tab_ok fun KR hKR => ?_))
 refine wra ?_
 refine wka1 hH ?_
 refine wra ?_
 ((refine wea ?_); (try clear hKR KR))
 refine wqa ?_
 repeat refine Y00 ?_
 refine Y0i (fun x : Nat => ⟨[(4, .ptr 1 (t + 1 + 1) 0)], [none, some ⟨102, t + 1 + 1, [.ptr 1 (t + 1 + 1) 0, .own 1 2 x 0 (strD txt).length, int 0]⟩, some ⟨5, x, strD txt⟩], x⟩) (fun x => t1 ≤ x) ?_ ?_
 ·refine wia ?_
  ((repeat refine Y00 ?_); (refine Y03 tab_ok fun KR hKR => ?_))
  ((repeat ((first | refine Y19 rfl fun KK hKK => ?_ | refine Y1a rfl rfl fun KK hKK => ?_ | refine Y08 rfl fun KK hKK => ?_); simp (disch := omega) only [bb, bt, zDs, zD, Y01, simprocAttr, mkI, Y7i]; refine hKK _ ?_; clear hKK KK)))
  ((try with_reducible intro KR hKR); (first | refine Y0f fun KK hKK => ?_ | refine Y08 rfl fun KK hKK => ?_); simp (disch := omega) only [bb, bt, zDs, zD, Y01, simprocAttr, goC, Y0e, Y0m, and_self])
  refine Yal (ws := ws3) (ub := 2) (gb := t2) (P0 := .ptr 1 (t + 1 + 1) 0) (e := int 0) (bs := strD tx2) ⟨rfl, rfl, .inr rfl⟩ Yy9 (by decide) (by decide) fun t3 ht3 => ?_
  rw [Yyk]
  simp only [Y3b, setH, List.length_cons, List.length_nil, Nat.reduceAdd, Nat.reduceEqDiff, ↓reduceIte, List.set_cons_succ, List.set_cons_zero]
  (simp (disch := omega) only [bb, bt, zDs, zD, Y01, simprocAttr, Y0n]; refine hKK _ ?_; clear hKK KK)
  ((refine wea ?_); (try clear hKR KR))
  refine ⟨t3, by omega, ?_⟩
  exact ele
 rintro t3 ht3
 repeat refine Y00 ?_
 ((repeat refine Y00 ?_); (refine Y03 tab_ok fun KR hKR => ?_))
 refine wra ?_
 ((try with_reducible intro KR hKR); (first | refine Y0f fun KK hKK => ?_ | refine Y08 rfl fun KK hKK => ?_); simp (disch := omega) only [bb, bt, zDs, zD, Y01, simprocAttr, goC, Y0e, Y0m, and_self])
 refine Ywn (l := txt) (ub := 2) (gb := t3) (P0 := .ptr 1 (t + 1 + 1) 0) ⟨rfl, rfl, .inr rfl⟩ (by decide) ?_
 (simp (disch := omega) only [bb, bt, zDs, zD, Y01, simprocAttr, Y0n]; refine hKK _ ?_; clear hKK KK)
 refine wra ?_
 ((refine wea ?_); (try clear hKR KR))
 exact exx Tryz.results23
end Go.Proofs.YtpbpafmgkdihlaaGreatDoor.T
namespace Go.Proofs.YtpbpafmgkdihlaaGreatDoor.T
open Go Go.RowKit Lin
theorem Yvy (n : Int) : PRet Tryz.prog 73 [int n] (frD (n, 1)) := by
 refine pri 1 Tryz.func73 Tryz.ntmps73 fun t => ?_
 simp only [Y04]
 refine gga0 ?_
 exact exx Tryz.results73
set_option maxHeartbeats 1000000 in
theorem Yxk (x : Bk) (r : List Bk) (hl : r.length ≤ 1000) : PFresh Tryz.prog 47 [bks (x :: r)] 48 2 (r.length + 1) (bkC (x :: r)) := by
 refine PFresh.intro (Y55 _) fun t => ACall.enter tab_ok Tryz.func47 rfl rfl Tryz.ntmps47 (by simp) ?_
 simp only [Y04]
 have f2 : bkC (x :: r) = str x.nm :: int x.w :: bkC r := rfl
 have hcl := Yr8 r
 have hld := Y2p (x :: r)
 have hll := Y1z (x :: r)
 have f1 : bks (x :: r) = .sl 2 (str x.nm :: int x.w :: bkC r) false := rfl
 rw [f2] at hld hll
 rw [f1, f2]
 simp only [List.length_cons] at hll hld
 refine wqa ?_
 refine wqa ?_
 refine wia ?_
 refine wsa ?_
 ((repeat refine Y00 ?_); (refine Y03 tab_ok fun KR hKR => ?_); (repeat ((first | refine Y19 rfl fun KK hKK => ?_ | refine Y1a rfl rfl fun KK hKK => ?_ | refine Y08 rfl fun KK hKK => ?_); simp (disch := omega) only [bb, bt, zDs, zD, Y01, simprocAttr, Y1y, hcl, hld]; refine hKK _ ?_; clear hKK KK)); (refine Y0o ?_); (refine hKR _ ?_); (try clear hKR KR); (refine qq1 ?_))
 refine exq Tryz.results47 ?_
 exact .inr ⟨0, t + 1, rfl, rfl⟩
theorem Yxj (l : List Bk) (h0 : 1 ≤ l.length) (hl : l.length ≤ 1000) : PFresh Tryz.prog 47 [bks l] 48 2 l.length (bkC l) := by
 cases l with
 | nil => simp at h0
 | cons x r => exact Yxk x r (by simp at hl; omega)
theorem Ynd (s : Sy) (nm : ByteArray) : chW (fun _ b => if b.nm = nm then 1 else 0) s.bs s.bs.length = (Y2i s nm).bs := by
 rw [Yr3]
 refine List.ext_getElem? fun i => ?_
 simp only [Y2i, List.getElem?_mapIdx, List.getElem?_map]
 rfl
theorem Yrk {α : Type} (p : α → Bool) {l : List α} {k : Nat} {x : α} (h : l[k]? = some x) : (l.take (k + 1)).any p = ((l.take k).any p || p x) := by
 rw [List.take_add_one, h, Option.toList_some, List.any_append]
 simp
theorem Yxr {l : List Bk} {i : Nat} {b : Bk} (h : l[i]? = some b) : ((bkC l).drop (i * 2)).take 1 = [str b.nm] := by
 have := Yvl h
 obtain ⟨h1, h2⟩ := List.getElem?_eq_some_iff.1 this
 rw [List.drop_eq_getElem_cons h1, h2]
 rfl
def Y6p (s : Sy) (nm : ByteArray) : Sy × Int := if Y0g s = true then (if Y1k s.bs nm < 0 then (⟨[], []⟩, 9) else (Y2i s nm, 0)) else (⟨[], []⟩, 1)
set_option maxHeartbeats 4000000 in
theorem Yyi (s : Sy) (hf : Fits s) (nm : ByteArray) : PRet Tryz.prog 45 [syD s, str nm] (.tup [syD (Y6p s nm).1, int (Y6p s nm).2]) := by
 refine pri 1 Tryz.func45 Tryz.ntmps45 fun t => ?_
 simp only [Y04]
 have hV := Y43 s hf
 cases hv : Y0g s
 ·rw [hv] at hV
  have e : Y6p s nm = (⟨[], []⟩, 1) := by simp [Y6p, hv]
  refine gga1 hV ?_
  refine exq (F := _ ∧ _) ⟨Tryz.results45, e⟩ ?_
  rfl
 rw [hv] at hV
 have ok := Y0h hv
 have hb1 := ok.b1
 have hb6 := ok.b6
 have hC := Yxj s.bs ok.b1 (by omega)
 have hdb := Y2p s.bs
 have hlb := Y1z s.bs
 refine gga1 hV ?_
 intro KR hKR
 ((first | refine Y0f fun KK hKK => ?_ | refine Y08 rfl fun KK hKK => ?_); simp (disch := omega) only [bb, bt, zDs, zD, Y01, simprocAttr, goC, Y0e, Y0m, and_self]; refine ACall.of_fresh (hC) (by first | (simp only [List.map_cons, List.map_nil, List.append_nil, List.nil_append, List.cons_append, ufa, uf]; done) | rfl) ?_; simp (disch := omega) only [bb, bt, zDs, zD, Y01, simprocAttr, Y0n]; refine hKK _ ?_; clear hKK KK)
 ((refine wra ?_)); ((refine wea ?_); (try clear hKR KR))
 refine ggb0 hdb ?_
 have hcl := fun (f : Nat → Bk → Int) (k : Nat) => Yb3 f s.bs k
 have hun := Ynd s nm
 generalize hfe : (fun (_ : Nat) (b : Bk) => if b.nm = nm then (1 : Int) else 0) = f at hun
 repeat refine Y00 ?_
 refine Y0i (fun x : Nat => ⟨[(4, .ptr 1 (t + 1 + 1) 0), (6, .ptr 2 (t + 1 + 1 + 1) 0), (7, bool (s.bs.any fun b => decide (b.nm = nm)))], [none, some ⟨25, t + 1 + 1, [.sl 2 [] true, .sl 3 [] true]⟩, some ⟨25, t + 1 + 1 + 1, [.own 2 3 (t + 1 + 1 + 1 + 1) 0 s.bs.length, rps s.rs]⟩, some ⟨48, t + 1 + 1 + 1 + 1, bkC (chW f s.bs s.bs.length)⟩], x⟩) (fun _ => True) ?_ ?_
 ·refine Y02 ?_
  refine Y05 (fun x : Nat × Nat => ⟨[(1, str nm), (4, .ptr 1 (t + 1 + 1) 0), (6, .ptr 2 (t + 1 + 1 + 1) 0), (7, bool ((s.bs.take x.1).any fun b => decide (b.nm = nm))), (21, int s.bs.length), (22, int x.1)], [none, some ⟨25, t + 1 + 1, [.sl 2 [] true, .sl 3 [] true]⟩, some ⟨25, t + 1 + 1 + 1, [.own 2 3 (t + 1 + 1 + 1 + 1) 0 s.bs.length, rps s.rs]⟩, some ⟨48, t + 1 + 1 + 1 + 1, bkC (chW f s.bs x.1)⟩], x.2⟩) (fun x => s.bs.length - x.1) (fun x => x.1 ≤ s.bs.length) (0, t + 1 + 1 + 1 + 1) (Nat.zero_le _) (by (simp (disch := omega) only [StLe, tmLe, Y0b, hpLe, bl, bb, bt, zDs, zD, Y01, simprocAttr, List.take_zero, List.any_nil, chW])) ?_
  rintro ⟨k, tt⟩ hk
  simp only at hk
  by_cases hlt : k < s.bs.length
  ·obtain ⟨b, hb⟩ : ∃ y, s.bs[k]? = some y := ⟨_, List.getElem?_eq_getElem hlt⟩
   have hC0 := Y103 (f := f) hb
   have hst := Yxo (f := f) hb
   have hsa := Yrk (fun b => decide (b.nm = nm)) hb
   have hlc := Y1z (chW f s.bs k)
   rw [hcl] at hlc
   have hw1 := Yvk hC0 0
   have hD0 : ((chW f s.bs k).set k ⟨b.nm, 0⟩)[k]? = some ⟨b.nm, 0⟩ := List.getElem?_set_self (by rw [hcl]; exact hlt)
   have hnm := Yvl hD0
   have hn1 := Yxr hD0
   have hw2 := Yvk hD0 1
   rw [List.set_set] at hw2
   have hld := Y1z ((chW f s.bs k).set k ⟨b.nm, 0⟩)
   rw [List.length_set, hcl] at hld
   cases he : decide (b.nm = nm)
   ·have hf0 : f k b = 0 := by rw [← hfe]; exact if_neg (by simpa using he)
    rw [hf0] at hst
    rw [he, Bool.or_false] at hsa
    ((refine ggb0 (F := _∧_) ⟨@Int.ofNat_lt, hlt⟩ ?_))
    repeat refine Y00 ?_
    refine Y02 ?_
    ((refine ggb0 (F := _∧_∧_∧_∧_∧_∧_) ⟨hlt, hlc, hw1, hnm, hn1, hld, he⟩ ?_))
    refine ⟨(k + 1, tt), hlt, by show s.bs.length - (k + 1) < s.bs.length - k; omega, ?_⟩
    simp only [hst, hsa]
    exact ele
   ·have hf1 : f k b = 1 := by rw [← hfe]; exact if_pos (by simpa using he)
    rw [hf1] at hst
    rw [he, Bool.or_true] at hsa
    ((refine ggb0 (F := _∧_) ⟨@Int.ofNat_lt, hlt⟩ ?_))
    repeat refine Y00 ?_
    refine Y02 ?_
    ((refine ggb0 (F := _∧_∧_∧_∧_∧_∧_∧_) ⟨hlt, hlc, hw1, hnm, hn1, hld, he, hw2⟩ ?_))
    refine ⟨(k + 1, tt), hlt, by show s.bs.length - (k + 1) < s.bs.length - k; omega, ?_⟩
    simp only [hst, hsa]
    exact ele
  ·have hke : k = s.bs.length := by omega
   subst hke
   rw [List.take_length]
   refine wqb @Int.lt_irrefl ?_
   refine wia ?_
   refine wxa ?_
   exact ⟨tt, trivial, ele⟩
 rintro tt -
 rw [hun]
 obtain ⟨x1, x2⟩ := Y8x (fun b : Bk => decide (b.nm = nm)) s.bs 0
 cases ha : s.bs.any (fun b => decide (b.nm = nm))
 ·have hfb : Y1k s.bs nm < 0 := by unfold Y1k; rw [x2 ha]; omega
  have e : Y6p s nm = (⟨[], []⟩, 9) := by simp [Y6p, hv, hfb]
  refine gga0 ?_
  refine exq (F := _ ∧ _) ⟨Tryz.results45, e⟩ ?_
  rfl
 ·have hfb : ¬ Y1k s.bs nm < 0 := by
   obtain ⟨k, x, hk, _⟩ := x1 ha
   unfold Y1k
   rw [hk]
   omega
  have e : Y6p s nm = (Y2i s nm, 0) := by simp [Y6p, hv, hfb]
  have hul := Yd2 s nm
  have hlu := Y1z (Y2i s nm).bs
  rw [hul] at hlu
  have hfin : List.take (s.bs.length * 2) (bkC (Y2i s nm).bs) = bkC (Y2i s nm).bs := List.take_of_length_le (by omega)
  have er : (Y2i s nm).rs = s.rs := rfl
  rw [e]
  ((refine AW.freeze (3) (by first | rfl | (simp only [setH, List.getElem?_cons_zero, List.getElem?_cons_succ, Y5h, Y5g, hfin, hlu, Nat.le_refl]; done)) ?_); simp (disch := omega) only [fzT, fz, fzL, Y0p, Y0y, fzH, fzB, eq_self, bb, bt, zDs, zD, Y01, simprocAttr, Y5h, Y5g, hfin, hlu, Nat.le_refl])
  refine gga0 ?_
  ((repeat refine Y00 ?_); (refine wta ?_); simp (disch := omega) only [retQ, resD, oneD, bb, bt, zDs, zD, Y01, simprocAttr, Tryz.results45])
  rw [← er]
  exact Y2c _ _ (by simp only [Y2w, Y37, Ynm, Ynl, Bool.not_false, Bool.and_self])
theorem Yza (n : Int) (s : Sy) (hf : Fits s) : PRet Tryz.prog 46 [int n, syD s] (fe (Ylj n s)) := by
 refine pri 1 Tryz.func46 Tryz.ntmps46 fun t => ?_
 simp only [Y04]
 have hH := Yg5 s hf
 have hW := Yvy n
 have hD := rDiv (n, 1) (Y5w s).1
 unfold Ylj
 generalize Y5w s = X at *
 cases hx : (X.2 == 0)
 ·have e1 : (X.2 != 0) = true := by simpa using hx
  rw [if_neg (by simpa using hx)]
  refine ggb1 e1 hH ?_
  exact exx Tryz.results46
 ·have e1 : (X.2 != 0) = false := by simpa using hx
  rw [if_pos (by simpa using hx)]
  generalize divP (n, 1) X.1 = Y at *
  refine ggb1 e1 hH ?_
  ((repeat refine Y00 ?_); (refine Ybe hW hD ?_))
  exact exx Tryz.results46
theorem Ync {s : Sy} (hf : Fits s) (nm : ByteArray) : Fits (Y6p s nm).1 := by
 unfold Y6p
 split
 ·split
  ·exact Y64 rfl
  ·exact ⟨by rw [Yd2]; exact hf.nb, hf.nr, fun b hb => by
    obtain ⟨c, hc, rfl⟩ := List.mem_map.1 hb
    exact hf.sb c hc, hf.sr⟩
 ·exact Y64 rfl
theorem Yts (s : Sy) (hf : Fits s) (nm : ByteArray) : PRet Tryz.prog 18 [syD s, str nm] (fe (forP s nm)) := by
 refine pri 1 Tryz.func18 Tryz.ntmps18 fun t => ?_
 simp only [Y04]
 have hU := Yyi s hf nm
 have hO := Yza 1 _ (Ync hf nm)
 have e : forP s nm = if (Y6p s nm).2 = 0 then Ylj 1 (Y6p s nm).1 else ((0, 0), (Y6p s nm).2) := by
  unfold forP Y6p
  split
  ·split
   ·rfl
   ·rfl
  ·rfl
 rw [e]
 generalize Y6p s nm = X at *
 cases hx : (X.2 == 0)
 ·have e1 : (X.2 != 0) = true := by simpa using hx
  rw [if_neg (by simpa using hx)]
  refine ggb1 e1 hU ?_
  exact exx Tryz.results18
 ·have e1 : (X.2 != 0) = false := by simpa using hx
  rw [if_pos (by simpa using hx)]
  generalize Ylj 1 X.1 = Y at *
  refine ggb2 e1 hU hO ?_
  exact exx Tryz.results18
theorem Yew (s : Sy) (hf : Fits s) (nm : ByteArray) : PRet Tryz.prog 15 [syD s, str nm] (fe (Y4c s nm)) := by
 refine pri 1 Tryz.func15 Tryz.ntmps15 fun t => ?_
 simp only [Y04]
 have hT := Yh3 s hf nm
 generalize Y4c s nm = X at *
 refine gga1 hT ?_
 exact exx Tryz.results15
end Go.Proofs.YtpbpafmgkdihlaaGreatDoor.T
namespace Go.Proofs.YtpbpafmgkdihlaaGreatDoor.T
open Go Go.RowKit
theorem Yti {P Q : Prop} (q : Q) (h : Q → P := by
 intro  hq
 (try with_reducible intro KR hKR)
 (repeat refine Y00 ?_); (repeat refine Y00 ?_); (refine Y0d tab_ok Y06 0 fun KR hKR => ?_); simp only [List.replicate_succ, List.replicate_zero, List.append_nil, List.nil_append, List.cons_append, List.length_cons, List.length_nil, Nat.reduceAdd]; (repeat' ((first | refine Y2s rfl fun KK hKK => ?_ | refine Y2t rfl rfl fun KK hKK => ?_ | refine Y15 rfl fun KK hKK => ?_ | refine Y14 fun KK hKK => ?_); simp (disch := omega) only [bb, bt, zDs, zD, Y01, simprocAttr, bne_self_eq_false, Int.reduceBNe, Int.reduceBEq, Bool.bne_false, Bool.bne_true, Bool.false_bne, Bool.true_bne]; refine hKK _ _ _ ?_; clear hKK KK)); (refine Y0k ?_); simp only [List.reverse_cons, List.reverse_nil, List.nil_append, List.cons_append]; (refine hKR _ _ (by first | rfl | kernel_rfl) ?_); (try clear hKR KR); (refine qq1 ?_)
 (first | exact hq | (revert hKR; revert KR; exact hq))) : P := h  q
def ww : Nat → D → D
 | k + 1, .sl sz cs _ => .sl sz (cs.map (ww k)) false
 | k + 1, .agg cs => .agg (cs.map (ww k))
 | _, d => d
theorem Ymy {F : Mem} {G : Ghost} : ∀ (k : Nat) (d : D) (u : Value), Rep F G d u → Rep F G (ww k d) u
 | 0, d, u, h => by simpa only [ww] using h
 | k + 1, d, u, h => by
  cases d with
  | sl sz cs full =>
   simp only [Rep, ww] at h ⊢
   obtain ⟨a, len, cap, h1, h2, h3, h4, h5⟩ := h
   refine ⟨a, len, cap, h1, by rw [h2, List.length_map], h3, fun e => by simp at e, ?_⟩
   rcases h5 with rfl | ⟨blk, off, vs, e, hc, hr⟩
   ·left; rfl
   ·exact .inr ⟨blk, off, vs, e, hc, Y1w (fun d u _ h => Ymy k d u h) hr⟩
  | agg cs =>
   simp only [Rep, ww] at h ⊢
   obtain ⟨vs, e, hr⟩ := h
   exact ⟨vs, e, Y1w (fun d u _ h => Ymy k d u h) hr⟩
  | _ => simpa only [ww] using h
theorem ACall.of_flatA {P : Program} {f : FuncId} {ds ds' : List D} {d : D} {H : Hp} {t : Nat} {K : D → Hp → Nat → Prop} (h : PRet P f ds' d) (hd : (ds.map (ww 4)).map ufa = ds') (hk : K d H t) : ACall P f ds H t K := fun w0 F G w us R hL => by
 have hL' : RepL F G (ds.map (ww 4)) us := Y1w (fun d u _ hd => Ymy 4 d u hd) hL
 exact (ACall.of_pret (K := K) h hd hk) w0 F G w us R hL'
theorem Yqg : Y07 exT true = ((150, 1), 0) := by decide +kernel
theorem Yty : Y4c exT ⟨#[98]⟩ = ((2, 1), 0) := by decide +kernel
theorem Yu1 : PRet Tryz.prog 27 [.sl 1 [int 2] false, .sl 1 [int 2] false] (bool true) := by
 refine pri 1 Tryz.func27 Tryz.ntmps27 fun t => ?_
 simp only [Y04]
 refine gga0 ?_
 repeat refine Y00 ?_
 refine Y0i (fun x : Nat => ⟨[], [], x⟩) (fun _ => True) ?_ ?_
 ·refine Y02 ?_
  refine Y05 (fun x : Nat × Nat => ⟨[(0, .sl 1 [int 2] false), (1, .sl 1 [int 2] false), (12, int 1), (13, int x.1)], [], x.2⟩) (fun x => 1 - x.1) (fun x => x.1 = 0 ∨ x.1 = 1) (0, t) (.inl rfl) ele ?_
  rintro ⟨k, tt⟩ h
  simp only at h
  rcases h with rfl | rfl
  ·refine gga0 ?_
   repeat refine Y00 ?_
   refine Y02 ?_
   refine wqa ?_
   ((repeat refine Y00 ?_); (refine Yti ?_))
   refine gga0 ?_
   refine ⟨(1, tt + 1), .inr rfl, by show 1 - 1 < 1 - 0; decide, ?_⟩
   exact ele
  ·refine gga0 ?_
   refine ⟨tt, trivial, ?_⟩
   exact ele
 rintro w -
 refine gga0 ?_
 exact exx Tryz.results27
set_option maxHeartbeats 4000000 in
theorem Y7q : PRet Tryz.prog 4 [] (bool true) := by
 refine pri 1 Tryz.func4 Tryz.ntmps4 fun t => ?_
 simp only [Y04]
 have hO := Ylb 1
 have hR := Ya8 exT Y7v
 rw [Yqg] at hR
 have hS := Ynn
 have hF := Yq7
 have hW := Yni
 have hT := Yew exT Y7v ⟨#[98]⟩
 rw [Yty] at hT
 have hP : PRet Tryz.prog 26 [.v (.string txt), .v (.string ⟨#[115, 121, 115, 116, 101, 109, 32, 49, 32, 49, 10]⟩)] (bool true) := Yoi
 have hE := Yu1
 have hO2 := Ylb 2
 have hO150 := Ylb 150
 refine gga1 hO ?_
 intro KR hKR
 ((try with_reducible intro KR hKR); (first | refine Y0f fun KK hKK => ?_ | refine Y08 rfl fun KK hKK => ?_); simp (disch := omega) only [bb, bt, zDs, zD, Y01, simprocAttr, goC, Y0e, Y0m, and_self])
 refine ACall.of_flatA hR rfl ?_
 (simp (disch := omega) only [bb, bt, zDs, zD, Y01, simprocAttr, Y0n]; refine hKK _ ?_; clear hKK KK)
 refine wra ?_
 ((refine wea ?_); (try clear hKR KR))
 ((repeat refine Y00 ?_); (refine Y03 tab_ok fun KR hKR => ?_))
 refine wra ?_
 ((try with_reducible intro KR hKR); (first | refine Y0f fun KK hKK => ?_ | refine Y08 rfl fun KK hKK => ?_); simp (disch := omega) only [bb, bt, zDs, zD, Y01, simprocAttr, goC, Y0e, Y0m, and_self])
 refine ACall.of_flatA hS rfl ?_
 (simp (disch := omega) only [bb, bt, zDs, zD, Y01, simprocAttr, Y0n]; refine hKK _ ?_; clear hKK KK)
 refine wra ?_
 ((refine wea ?_); (try clear hKR KR))
 ((repeat refine Y00 ?_); (refine Y03 tab_ok fun KR hKR => ?_))
 refine wra ?_
 ((try with_reducible intro KR hKR); (first | refine Y0f fun KK hKK => ?_ | refine Y08 rfl fun KK hKK => ?_); simp (disch := omega) only [bb, bt, zDs, zD, Y01, simprocAttr, goC, Y0e, Y0m, and_self])
 refine ACall.of_flatA hF rfl ?_
 (simp (disch := omega) only [bb, bt, zDs, zD, Y01, simprocAttr, Y0n]; refine hKK _ ?_; clear hKK KK)
 refine wra ?_
 ((refine wea ?_); (try clear hKR KR))
 ((repeat refine Y00 ?_); (refine Y03 tab_ok fun KR hKR => ?_))
 refine wra ?_
 ((try with_reducible intro KR hKR); (first | refine Y0f fun KK hKK => ?_ | refine Y08 rfl fun KK hKK => ?_); simp (disch := omega) only [bb, bt, zDs, zD, Y01, simprocAttr, goC, Y0e, Y0m, and_self])
 refine ACall.of_flatA hW rfl ?_
 (simp (disch := omega) only [bb, bt, zDs, zD, Y01, simprocAttr, Y0n]; refine hKK _ ?_; clear hKK KK)
 refine wra ?_
 ((refine wea ?_); (try clear hKR KR))
 ((repeat refine Y00 ?_); (refine Y03 tab_ok fun KR hKR => ?_))
 refine wra ?_
 ((try with_reducible intro KR hKR); (first | refine Y0f fun KK hKK => ?_ | refine Y08 rfl fun KK hKK => ?_); simp (disch := omega) only [bb, bt, zDs, zD, Y01, simprocAttr, goC, Y0e, Y0m, and_self])
 refine ACall.of_flatA hT rfl ?_
 (simp (disch := omega) only [bb, bt, zDs, zD, Y01, simprocAttr, Y0n]; refine hKK _ ?_; clear hKK KK)
 refine wra ?_
 ((refine wea ?_); (try clear hKR KR))
 ((repeat refine Y00 ?_); (refine Yx8 hO150 hP hE hO2 ?_))
 exact exx Tryz.results4
end Go.Proofs.YtpbpafmgkdihlaaGreatDoor.T
namespace Go.Proofs.YtpbpafmgkdihlaaGreatDoor.T
open Go Go.RowKit Lin
theorem Yfb : ∀ (rs : List Rp) (qs : List (Nat × Nat)), roC (rs.map Y13) qs = roC rs qs
 | [], _ => rfl
 | _ :: _, [] => by simp [roC]
 | r :: rs, p :: qs => by
  have ih := Yfb rs qs
  unfold roC at ih ⊢
  rw [List.map_cons, List.zipWith_cons_cons, List.zipWith_cons_cons, ih]
  simp only [ro1, Y13, List.length_map]
def idH (hs : List Hd) (i k j : Nat) : List Hd := if j < i then hs.map Y2q else if j = i then clH hs k else hs
structure IdR (s : Sy) (qs : List (Nat × Nat)) (i k : Nat) (R : List Blk) : Prop where
 lr : R.length = 2 * s.rs.length
 at_ : ∀ (j : Nat) (r : Rp) (p : Nat × Nat), s.rs[j]? = some r → qs[j]? = some p → p.1 = 2 * j + 9 ∧ R[2 * j + 1]? = some ⟨35, p.2, hdC (idH r.hs i k j)⟩
set_option maxRecDepth 100000 in
set_option maxHeartbeats 16000000 in
theorem Ypr (s : Sy) (ok : OkS s) : PRet Tryz.prog 10 [syD s] (syD (Y0j s)) := by
 refine pri 4 Tryz.func10 Tryz.ntmps10 fun t => ?_
 simp only [Y04]
 have o1 := Ylb 1
 have hr6 := ok.r6
 refine wqa ?_
 refine AW.reserve 1 ?_
 simp only [List.replicate_succ, List.replicate_zero, List.cons_append, List.nil_append]
 ((repeat refine Y00 ?_); (refine Y03 tab_ok fun KR hKR => ?_))
 refine wra ?_
 ((try with_reducible intro KR hKR); (first | refine Y0f fun KK hKK => ?_ | refine Y08 rfl fun KK hKK => ?_); simp (disch := omega) only [bb, bt, zDs, zD, Y01, simprocAttr, goC, Y0e, Y0m, and_self])
 refine Y11p ok rfl fun g2 gr qs R0 B0 B1 B3 t1 hcb ht1 => ?_
 simp only [List.length_cons, List.length_nil, List.cons_append, List.nil_append, Nat.zero_add, Nat.reduceAdd]
 (simp (disch := omega) only [bb, bt, zDs, zD, Y01, simprocAttr, Y0n]; refine hKK _ ?_; clear hKK KK)
 refine Yuk 2 rfl rfl (by decide) fun KK hKK => ?_
 (simp (disch := omega) only [bb, bt, zDs, zD, Y01, simprocAttr])
 refine hKK _ ?_; clear hKK KK
 refine wra ?_
 ((refine wea ?_); (try clear hKR KR))
 refine gga0 ?_
 have hlq := hcb.lq
 have hrc := Ya7 hlq
 have hR0 : IdR s qs 0 0 R0 := ⟨hcb.lr, fun j r p hr hp => by
  obtain ⟨a1, a2⟩ := hcb.at_ j r p hr hp
  refine ⟨by simp only [List.length_cons, List.length_nil] at a1; omega, ?_⟩
  rw [a2]
  unfold idH
  rw [if_neg (by omega)]
  split
  ·rw [Yeh]
  ·rfl⟩
 have hcells : ∀ (i : Nat) (r : Rp) (p : Nat × Nat), s.rs[i]? = some r → qs[i]? = some p → (roC s.rs qs).flatten[i * 3 + 1]? = some (.own 4 p.1 p.2 0 r.hs.length) := fun i r p h1 h2 => Yz4 h1 h2
 generalize hRC : (roC s.rs qs).flatten = RC at *
 have hrd : RC.length / 3 = s.rs.length := by omega
 repeat refine Y00 ?_
 refine Y0i (fun x : List Blk × Nat => ⟨[(2, .ptr 1 (t + 1 + 1) 0), (3, .ptr 2 (t1 + 1) 0)], none :: some ⟨25, t + 1 + 1, [.sl 2 [] true, .sl 3 [] true]⟩ :: some ⟨25, t1 + 1, [.own 2 5 g2 0 s.bs.length, .own 3 7 gr 0 s.rs.length]⟩ :: none :: none :: some ⟨48, g2, bkC s.bs⟩ :: none :: some ⟨30, gr, RC⟩ :: x.1.map some, x.2⟩) (fun x => IdR s qs s.rs.length 0 x.1) ?_ ?_
 ·refine Y02 ?_
  refine Y05 (fun x : Nat × List Blk × Nat => ⟨[(2, .ptr 1 (t + 1 + 1) 0), (3, .ptr 2 (t1 + 1) 0), (4, int x.1)], none :: some ⟨25, t + 1 + 1, [.sl 2 [] true, .sl 3 [] true]⟩ :: some ⟨25, t1 + 1, [.own 2 5 g2 0 s.bs.length, .own 3 7 gr 0 s.rs.length]⟩ :: none :: none :: some ⟨48, g2, bkC s.bs⟩ :: none :: some ⟨30, gr, RC⟩ :: x.2.1.map some, x.2.2⟩) (fun x => s.rs.length - x.1) (fun x => x.1 ≤ s.rs.length ∧ IdR s qs x.1 0 x.2.1) (0, R0, t1 + 1) ⟨Nat.zero_le _, hR0⟩ ele ?_
  rintro ⟨i, R1, tt⟩ ⟨hi, hR1⟩
  simp only at hi hR1
  by_cases hlt : i < s.rs.length
  ·obtain ⟨r, hr⟩ : ∃ y, s.rs[i]? = some y := ⟨_, List.getElem?_eq_getElem hlt⟩
   obtain ⟨p, hp⟩ : ∃ y, qs[i]? = some y := ⟨_, List.getElem?_eq_getElem (by omega)⟩
   have hc1 := hcells i r p hr hp
   have hc2 := Ys9 hc1
   obtain ⟨p1, p2⟩ := p
   simp only at hc1 hc2
   have ho2 := (ok.holds r (List.mem_of_getElem? hr)).2.1
   ((refine ggb0 (F := _∧_∧_) ⟨@Int.ofNat_lt, hlt, hrd⟩ ?_))
   repeat refine Y00 ?_
   refine Y02 ?_
   refine gga0 ?_
   refine Y02 ?_
   refine Y05 (fun x : Nat × List Blk × Nat => ⟨[(2, .ptr 1 (t + 1 + 1) 0), (3, .ptr 2 (t1 + 1) 0), (4, int i), (5, int x.1)], none :: some ⟨25, t + 1 + 1, [.sl 2 [] true, .sl 3 [] true]⟩ :: some ⟨25, t1 + 1, [.own 2 5 g2 0 s.bs.length, .own 3 7 gr 0 s.rs.length]⟩ :: none :: none :: some ⟨48, g2, bkC s.bs⟩ :: none :: some ⟨30, gr, RC⟩ :: x.2.1.map some, x.2.2⟩) (fun x => r.hs.length - x.1) (fun x => x.1 ≤ r.hs.length ∧ IdR s qs i x.1 x.2.1) (0, R1, tt) ⟨Nat.zero_le _, hR1⟩ ele ?_
   rintro ⟨k, R, t2⟩ ⟨hk, hR⟩
   simp only at hk hR
   obtain ⟨p9, pR⟩ := hR.at_ i r (p1, p2) hr hp
   have eid : idH r.hs i k i = clH r.hs k := by unfold idH; rw [if_neg (by omega), if_pos rfl]
   rw [eid] at pR
   simp only at p9 pR
   have hget : ∀ X0 X1 X2 X3 X4 X5 X6 X7 : Option Blk, (X0 :: X1 :: X2 :: X3 :: X4 :: X5 :: X6 :: X7 :: R.map some)[p1]? = some (some ⟨35, p2, hdC (clH r.hs k)⟩) := fun X0 X1 X2 X3 X4 X5 X6 X7 => by
    rw [p9, show 2 * i + 9 = (2 * i + 1) + 1 + 1 + 1 + 1 + 1 + 1 + 1 + 1 by omega]
    simp only [List.getElem?_cons_succ, List.getElem?_map, pR, Option.map_some]
   by_cases hlk : k < r.hs.length
   ·obtain ⟨h, hh⟩ : ∃ y, r.hs[k]? = some y := ⟨_, List.getElem?_eq_getElem hlk⟩
    have hlR := hR.lr
    have hl4 := Y3i (clH r.hs k)
    rw [Yei _ _ hk] at hl4
    have hs4 := Yvc (Yvi hh) 1 1
    have hn4 : hdC ((clH r.hs k).set k ⟨h.b, h.p, 1, 1⟩) = hdC (clH r.hs (k + 1)) := by rw [← Yr1 hh]; rfl
    rw [hn4] at hs4
    have hle4 : k * 4 + 4 ≤ r.hs.length * 4 := by omega
    have hset : ∀ (X0 X1 X2 X3 X4 X5 X6 X7 : Option Blk) (Y : Blk), (X0 :: X1 :: X2 :: X3 :: X4 :: X5 :: X6 :: X7 :: R.map some).set p1 (some Y) = X0 :: X1 :: X2 :: X3 :: X4 :: X5 :: X6 :: X7 :: (R.set (2 * i + 1) Y).map some := fun X0 X1 X2 X3 X4 X5 X6 X7 Y => by
     rw [p9, show 2 * i + 9 = (2 * i + 1) + 1 + 1 + 1 + 1 + 1 + 1 + 1 + 1 by omega]
     simp only [List.set_cons_succ, List.map_set]
    have hne : (p1 = R.length + 1 + 1 + 1 + 1 + 1 + 1 + 1 + 1) = False := by simp only [eq_iff_iff, iff_false]; omega
    have hnx : IdR s qs i (k + 1) (R.set (2 * i + 1) ⟨35, p2, hdC (clH r.hs (k + 1))⟩) := by
     refine ⟨by rw [List.length_set]; exact hlR, fun j x q hx hq => ?_⟩
     obtain ⟨a1, a2⟩ := hR.at_ j x q hx hq
     refine ⟨a1, ?_⟩
     by_cases e : j = i
     ·subst e
      rw [hr, Option.some.injEq] at hx
      rw [hp, Option.some.injEq] at hq
      subst hx hq
      rw [List.getElem?_set_self (by omega)]
      unfold idH
      rw [if_neg (by omega), if_pos rfl]
     ·rw [List.getElem?_set_ne (by omega), a2]
      unfold idH
      rw [if_neg e, if_neg e]
    ((refine ggb0 (F := _∧_∧_∧_∧_∧_∧_) ⟨@Int.ofNat_lt, hlk, hlt, hrd, hc1, hc2, hget⟩ ?_))
    repeat refine Y00 ?_
    refine Y02 ?_
    ((repeat refine Y00 ?_); (refine Y0d tab_ok Y06 0 fun KR hKR => ?_); simp only [List.replicate_succ, List.replicate_zero, List.append_nil, List.nil_append, List.cons_append, List.length_cons, List.length_nil, Nat.reduceAdd])
    ((refine wdb (F := _∧_∧_∧_∧_∧_∧_∧_∧_∧_∧_) ⟨hlk, hlt, hrd, hc1, hc2, hget, hset, hne, hl4, hs4, hle4⟩ ?_))
    ((first | refine Y14 fun KK hKK => ?_ | refine Y15 rfl fun KK hKK => ?_); simp (disch := omega) only [bb, bt, zDs, zD, Y01, simprocAttr, Y2a, Y0t, Y3y, Y0m, ufa, uf]; refine PGive.ret (o1) ?_; simp (disch := omega) only [bb, bt, zDs, zD, Y01, simprocAttr, Y1d]; refine hKK _ _ _ ?_; clear hKK KK)
    ((refine wdb (F := _∧_∧_∧_∧_∧_∧_∧_∧_∧_∧_) ⟨hlk, hlt, hrd, hc1, hc2, hget, hset, hne, hl4, hs4, hle4⟩ ?_))
    ((refine Y0k ?_); simp only [List.reverse_cons, List.reverse_nil, List.nil_append, List.cons_append]; (refine hKR _ _ (by exact Y9o (Yr0 0) (by kernel_rfl)) ?_); (try clear hKR KR); (refine qq1 ?_))
    refine gga0 ?_
    refine ⟨(k + 1, R.set (2 * i + 1) ⟨35, p2, hdC (clH r.hs (k + 1))⟩, t2 + 1), ⟨hlk, hnx⟩, by show r.hs.length - (k + 1) < r.hs.length - k; omega, ?_⟩
    exact ele
   ·have hke : k = r.hs.length := by omega
    subst hke
    ((refine wqb (F := _∧_∧_∧_∧_∧_) ⟨@Int.lt_irrefl, hlt, hrd, hc1, hc2, hget⟩ ?_))
    refine wia ?_
    refine wxa ?_
    have hnx : IdR s qs (i + 1) 0 R := ⟨hR.lr, fun j x q hx hq => by
     obtain ⟨a1, a2⟩ := hR.at_ j x q hx hq
     refine ⟨a1, ?_⟩
     rw [a2]
     unfold idH
     by_cases e1 : j < i
     ·rw [if_pos e1, if_pos (by omega)]
     ·rw [if_neg e1]
      by_cases e2 : j = i
      ·subst e2
       rw [hr, Option.some.injEq] at hx
       subst hx
       rw [if_pos rfl, if_pos (by omega), Yr2]
      ·rw [if_neg e2, if_neg (by omega)]
       split
       ·rw [Yeh]
       ·rfl⟩
    refine gga0 ?_
    refine ⟨(i + 1, R, t2), ⟨hlt, hnx⟩, by show s.rs.length - (i + 1) < s.rs.length - i; omega, ?_⟩
    exact ele
  ·have hie : i = s.rs.length := by omega
   subst hie
   ((refine wqb (F := _∧_) ⟨@Int.lt_irrefl, hrd⟩ ?_))
   refine wia ?_
   refine wxa ?_
   exact ⟨(R1, tt), hR1, ele⟩
 rintro ⟨R, tt⟩ hR
 simp only at hR
 have hlay : LayR 3 (none :: none :: some ⟨48, g2, bkC s.bs⟩ :: none :: some ⟨30, gr, RC⟩ :: R.map some) (s.rs.map Y13) qs := ⟨by rw [List.length_map]; exact hlq, fun j x q hx hq => by
  rw [List.getElem?_map] at hx
  cases e : s.rs[j]? with
  | none => rw [e] at hx; simp at hx
  | some y =>
   rw [e] at hx
   simp only [Option.map_some, Option.some.injEq] at hx
   subst hx
   obtain ⟨a1, a2⟩ := hR.at_ j y q e hq
   refine ⟨by omega, ?_⟩
   rw [a1, show 2 * j + 9 - 3 = (2 * j + 1) + 1 + 1 + 1 + 1 + 1 by omega]
   simp only [List.getElem?_cons_succ, List.getElem?_map, a2, Option.map_some]
   unfold idH
   rw [if_pos (List.getElem?_eq_some_iff.1 e).1]
   rfl⟩
 have z1 := Ymx (k := 2) (m := 3) (H2 := none :: none :: some ⟨48, g2, bkC s.bs⟩ :: none :: some ⟨30, gr, RC⟩ :: R.map some) (b := 5) (g := g2) (bs := s.bs) (by decide) rfl
 have z2 := Yrr (k := 1) (b := 7) (g := gr) hlay (by decide) (by rw [Yfb, hRC]; rfl)
 rw [List.length_map] at z2
 refine AW.tail 3 [none, some ⟨25, t + 1 + 1, [.sl 2 [] true, .sl 3 [] true]⟩, some ⟨25, t1 + 1, [.own 2 5 g2 0 s.bs.length, .own 3 7 gr 0 s.rs.length]⟩] (none :: none :: some ⟨48, g2, bkC s.bs⟩ :: none :: some ⟨30, gr, RC⟩ :: R.map some) rfl ?_
 simp only [zT, zH, List.map_cons, List.map_nil, Option.map_some, Option.map_none, List.length_nil, List.length_cons, Nat.zero_add, Nat.reduceAdd, z1, z2]
 have p1 : ∀ H, zv 3 H 3 (.ptr 1 (t + 1 + 1) 0) = .ptr 1 (t + 1 + 1) 0 := fun H => by simp [zv, zz]
 have p2 : ∀ H, zv 3 H 3 (.ptr 2 (t1 + 1) 0) = .ptr 2 (t1 + 1) 0 := fun H => by simp [zv, zz]
 have p3 : ∀ H sz, zv 3 H 3 (.sl sz [] true) = .sl sz [] true := fun H sz => by simp [zv, zz, zzL]
 simp only [p1, p2, p3]
 refine gga0 ?_
 ((repeat refine Y00 ?_); (refine wta ?_); simp (disch := omega) only [retQ, resD, oneD, bb, bt, zDs, zD, Y01, simprocAttr, Tryz.results10])
 exact Y2c _ _ (by simp only [Y2w, Y37, Ynm, Ynl, Bool.not_false, Bool.and_self])
end Go.Proofs.YtpbpafmgkdihlaaGreatDoor.T
