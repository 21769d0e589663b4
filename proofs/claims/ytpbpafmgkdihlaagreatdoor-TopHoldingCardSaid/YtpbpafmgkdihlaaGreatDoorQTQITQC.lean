import Derived.Test.YtpbpafmgkdihlaaGreatDoorQTWTQQ
import Derived.Test.YtpbpafmgkdihlaaGreatDoorQSBC
import Derived.Test.YtpbpafmgkdihlaaGreatDoorQWIY
import Derived.Test.YtpbpafmgkdihlaaGreatDoorQWC
import Derived.Test.YtpbpafmgkdihlaaGreatDoorQTB
set_option linter.all false
namespace Go.Proofs.YtpbpafmgkdihlaaGreatDoor.T
open Go Go.RowKit
abbrev brL : D := .sl 3 [.v (.string ⟨#[97]⟩), int 5, int 2] false
theorem Ywp (caps : List D) : PRet Tryz.prog 125 [.sl 3 [] false, .fn 126 caps] (bool false) := by
 have hI : PRet Tryz.prog 159 [.sl 3 [] false, .fn 126 caps] (int (-1)) := by
  refine pri 1 Tryz.func159 Tryz.ntmps159 fun t => ?_
  simp only [Y04]
  refine gga0 ?_
  repeat refine Y00 ?_
  refine Y02 ?_
  refine Y05 (fun x : Nat => ⟨[(0, .sl 3 [] false), (7, int 0), (8, int 0)], [], x⟩) (fun _ => 0) (fun _ => True) t trivial ele ?_
  rintro tt -
  refine gga0 ?_
  exact exx Tryz.results159
 refine pri 1 Tryz.func125 Tryz.ntmps125 fun t => ?_
 simp only [Y04]
 refine gga1 hI ?_
 exact exx Tryz.results125
theorem Yw3 : PRet Tryz.prog 88 [brL] (bool true) := by
 refine pri 1 Tryz.func88 Tryz.ntmps88 fun t => ?_
 simp only [Y04]
 refine gga0 ?_
 repeat refine Y00 ?_
 have hN := Yca ⟨#[97]⟩ (by decide)
 rw [show isNm ⟨#[97]⟩ = true by decide +kernel] at hN
 refine Y0i (fun x : Nat => ⟨[(3, int 2)], [], x⟩) (fun _ => True) ?_ ?_
 ·refine Y02 ?_
  refine Y05 (fun x : (Nat × Int) × Nat => ⟨[(0, brL), (3, int x.1.2), (9, brL), (10, int 1), (11, int x.1.1)], [], x.2⟩) (fun x => 1 - x.1.1) (fun x => x.1 = (0, 0) ∨ x.1 = (1, 2)) ((0, 0), t) (.inl rfl) ele ?_
  rintro ⟨⟨k, z⟩, tt⟩ h
  simp only [Prod.mk.injEq] at h
  rcases h with ⟨rfl, rfl⟩ | ⟨rfl, rfl⟩
  ·refine gga0 ?_
   repeat refine Y00 ?_
   refine Y02 ?_
   have hB := Ywp [.ptr 0 (tt + 1) 0]
   refine gga2 hN hB ?_
   refine ⟨((1, 2), tt + 1), .inr rfl, by show 1 - 1 < 1 - 0; decide, ?_⟩
   exact ele
  ·refine gga0 ?_
   refine ⟨tt, trivial, ?_⟩
   exact ele
 rintro w -
 refine gga0 ?_
 exact exx Tryz.results88
theorem Ytl {P Q : Prop} (q : Q) (h : Q → P := by
 intro  hq
 (try with_reducible intro KR hKR)
 (repeat refine Y00 ?_); (repeat refine Y00 ?_); (refine Y0d tab_ok Y06 0 fun KR hKR => ?_); simp only [List.replicate_succ, List.replicate_zero, List.append_nil, List.nil_append, List.cons_append, List.length_cons, List.length_nil, Nat.reduceAdd]; (repeat' ((first | refine Y2s rfl fun KK hKK => ?_ | refine Y2t rfl rfl fun KK hKK => ?_ | refine Y15 rfl fun KK hKK => ?_ | refine Y14 fun KK hKK => ?_); simp (disch := omega) only [bb, bt, zDs, zD, Y01, simprocAttr, bne_self_eq_false, Int.reduceBNe, Int.reduceBEq, Bool.bne_false, Bool.bne_true, Bool.false_bne, Bool.true_bne]; refine hKK _ _ _ ?_; clear hKK KK)); (refine Y0k ?_); simp only [List.reverse_cons, List.reverse_nil, List.nil_append, List.cons_append]; (refine hKR _ _ (by first | rfl | kernel_rfl) ?_); (try clear hKR KR); (refine qq1 ?_)
 (first | exact hq | (revert hKR; revert KR; exact hq))) : P := h  q
theorem Yp1 : PRet Tryz.prog 89 [brL] (.rp [brL, .sl 1 [int 10, int 0] false] 0) := by
 refine pri 3 Tryz.func89 Tryz.ntmps89 fun t => ?_
 simp only [Y04]
 refine gga0 ?_
 repeat refine Y00 ?_
 refine Y0i (fun x : Nat => ⟨[(3, .ptr 1 (t + 1 + 1) 0)], [some ⟨3, t + 1, [int 10, int 0]⟩, some ⟨183, t + 1 + 1, [brL, .own 1 0 (t + 1) 0 2]⟩], x⟩) (fun _ => True) ?_ ?_
 ·refine Y02 ?_
  refine Y05 (fun x : (Int × Int) × Nat => ⟨[(0, brL), (3, .ptr 1 (t + 1 + 1) 0), (4, int x.1.1)], [some ⟨3, t + 1, [int x.1.2, int 0]⟩, some ⟨183, t + 1 + 1, [brL, .own 1 0 (t + 1) 0 2]⟩], x.2⟩) (fun x => (x.1.1 + 1).toNat) (fun x => x.1 = (0, 0) ∨ x.1 = (-1, 10)) ((0, 0), t + 1 + 1) (.inl rfl) ele ?_
  rintro ⟨⟨k, z⟩, tt⟩ h
  simp only [Prod.mk.injEq] at h
  rcases h with ⟨rfl, rfl⟩ | ⟨rfl, rfl⟩
  ·refine gga0 ?_
   repeat refine Y00 ?_
   refine Y02 ?_
   ((repeat refine Y00 ?_); (refine Ytl ?_))
   refine gga0 ?_
   refine ⟨((-1, 10), tt + 1), .inr rfl, by show ((-1 : Int) + 1).toNat < ((0 : Int) + 1).toNat; decide, ?_⟩
   exact ele
  ·refine gga0 ?_
   refine ⟨tt, trivial, ?_⟩
   exact ele
 rintro w -
 refine gga0 ?_
 exact exx Tryz.results89
theorem Ydz {P Q : Prop} (q : Q) (h : Q → P := by
 intro  hq
 (try with_reducible intro KR hKR)
 (repeat refine Y00 ?_); (repeat refine Y00 ?_); (refine Y0d tab_ok Y06 0 fun KR hKR => ?_); simp only [List.replicate_succ, List.replicate_zero, List.append_nil, List.nil_append, List.cons_append, List.length_cons, List.length_nil, Nat.reduceAdd]; (repeat' ((first | refine Y2s rfl fun KK hKK => ?_ | refine Y2t rfl rfl fun KK hKK => ?_ | refine Y15 rfl fun KK hKK => ?_ | refine Y14 fun KK hKK => ?_); simp (disch := omega) only [bb, bt, zDs, zD, Y01, simprocAttr, bne_self_eq_false, Int.reduceBNe, Int.reduceBEq, Bool.bne_false, Bool.bne_true, Bool.false_bne, Bool.true_bne]; refine hKK _ _ _ ?_; clear hKK KK)); (refine Y0k ?_); simp only [List.reverse_cons, List.reverse_nil, List.nil_append, List.cons_append]; (refine hKR _ _ (by first | rfl | kernel_rfl) ?_); (try clear hKR KR); (refine qq1 ?_)
 (first | exact hq | (revert hKR; revert KR; exact hq))) : P := h  q
theorem Yw2 {g0 g1 g2 g3 g4 g5 g6 g7 : Nat} {t : Nat} {K : D → Hp → Nat → Prop} (hK : ∀ t', t ≤ t' → K (.tup []) [some ⟨149, g0, [.rp [brL, .sl 1 [int 10, int 0] false] 0]⟩, some ⟨3, g1, [int 10]⟩, some ⟨3, g2, [int 10]⟩, some ⟨59, g3, [.sl 1 [] true]⟩, some ⟨3, g4, [int 0]⟩, some ⟨4, g5, [bool false]⟩, some ⟨184, g6, [.fn 127 [.ptr 5 g5 0, .ptr 4 g4 0, .ptr 2 g2 0, .ptr 0 g0 0, .ptr 1 g1 0, .ptr 3 g3 0, .ptr 6 g6 0]]⟩, some ⟨3, g7, [int 0]⟩] t') : ACall Tryz.prog 127 [.own 1 7 g7 0 1, int 0, int 0, .ptr 5 g5 0, .ptr 4 g4 0, .ptr 2 g2 0, .ptr 0 g0 0, .ptr 1 g1 0, .ptr 3 g3 0, .ptr 6 g6 0] [some ⟨149, g0, [.rp [brL, .sl 1 [int 10, int 0] false] 0]⟩, some ⟨3, g1, [int 10]⟩, some ⟨3, g2, [int 10]⟩, some ⟨59, g3, [.sl 1 [] true]⟩, some ⟨3, g4, [int 0]⟩, some ⟨4, g5, [bool false]⟩, some ⟨184, g6, [.fn 127 [.ptr 5 g5 0, .ptr 4 g4 0, .ptr 2 g2 0, .ptr 0 g0 0, .ptr 1 g1 0, .ptr 3 g3 0, .ptr 6 g6 0]]⟩, some ⟨3, g7, [int 0]⟩] t K := by
 refine ACall.enter tab_ok Tryz.func127 rfl rfl Tryz.ntmps127 (by simp) ?_
 simp only [Y04]
 refine wqa ?_
 ((repeat refine Y00 ?_); (refine Ydz ?_))
 refine wia ?_
 ((repeat refine Y00 ?_); (refine wta ?_); simp (disch := omega) only [retQ, resD, oneD, bb, bt, zDs, zD, Y01, simprocAttr, Tryz.results127])
 exact hK _ (by omega)
theorem Yw1 {g0 g1 g2 g3 g4 g5 g6 g7 : Nat} {t : Nat} {K : D → Hp → Nat → Prop} (hK : ∀ t', t ≤ t' → K (.tup []) [some ⟨149, g0, [.rp [brL, .sl 1 [int 10, int 0] false] 0]⟩, some ⟨3, g1, [int 10]⟩, some ⟨3, g2, [int 10]⟩, some ⟨59, g3, [.sl 1 [] true]⟩, some ⟨3, g4, [int 0]⟩, some ⟨4, g5, [bool false]⟩, some ⟨184, g6, [.fn 127 [.ptr 5 g5 0, .ptr 4 g4 0, .ptr 2 g2 0, .ptr 0 g0 0, .ptr 1 g1 0, .ptr 3 g3 0, .ptr 6 g6 0]]⟩, some ⟨3, g7, [int 1]⟩] t') : ACall Tryz.prog 127 [.own 1 7 g7 0 1, int 5, int 1, .ptr 5 g5 0, .ptr 4 g4 0, .ptr 2 g2 0, .ptr 0 g0 0, .ptr 1 g1 0, .ptr 3 g3 0, .ptr 6 g6 0] [some ⟨149, g0, [.rp [brL, .sl 1 [int 10, int 0] false] 0]⟩, some ⟨3, g1, [int 10]⟩, some ⟨3, g2, [int 10]⟩, some ⟨59, g3, [.sl 1 [] true]⟩, some ⟨3, g4, [int 0]⟩, some ⟨4, g5, [bool false]⟩, some ⟨184, g6, [.fn 127 [.ptr 5 g5 0, .ptr 4 g4 0, .ptr 2 g2 0, .ptr 0 g0 0, .ptr 1 g1 0, .ptr 3 g3 0, .ptr 6 g6 0]]⟩, some ⟨3, g7, [int 1]⟩] t K := by
 refine ACall.enter tab_ok Tryz.func127 rfl rfl Tryz.ntmps127 (by simp) ?_
 simp only [Y04]
 refine wqa ?_
 ((repeat refine Y00 ?_); (refine Ydz ?_))
 refine wia ?_
 ((repeat refine Y00 ?_); (refine wta ?_); simp (disch := omega) only [retQ, resD, oneD, bb, bt, zDs, zD, Y01, simprocAttr, Tryz.results127])
 exact hK _ (by omega)
theorem Yw0 {g0 g1 g2 g3 g4 g5 g6 g7 : Nat} {t : Nat} {K : D → Hp → Nat → Prop} (hK : ∀ t' t2, t ≤ t' → K (.tup []) [some ⟨149, g0, [.rp [brL, .sl 1 [int 10, int 0] false] 0]⟩, some ⟨3, g1, [int 10]⟩, some ⟨3, g2, [int 10]⟩, some ⟨59, g3, [.own 1 8 t' 0 1]⟩, some ⟨3, g4, [int 2]⟩, some ⟨4, g5, [bool true]⟩, some ⟨184, g6, [.fn 127 [.ptr 5 g5 0, .ptr 4 g4 0, .ptr 2 g2 0, .ptr 0 g0 0, .ptr 1 g1 0, .ptr 3 g3 0, .ptr 6 g6 0]]⟩, none, some ⟨3, t', [int 2]⟩] t2) : ACall Tryz.prog 127 [.own 1 7 g7 0 1, int 10, int 2, .ptr 5 g5 0, .ptr 4 g4 0, .ptr 2 g2 0, .ptr 0 g0 0, .ptr 1 g1 0, .ptr 3 g3 0, .ptr 6 g6 0] [some ⟨149, g0, [.rp [brL, .sl 1 [int 10, int 0] false] 0]⟩, some ⟨3, g1, [int 10]⟩, some ⟨3, g2, [int 10]⟩, some ⟨59, g3, [.sl 1 [] true]⟩, some ⟨3, g4, [int 0]⟩, some ⟨4, g5, [bool false]⟩, some ⟨184, g6, [.fn 127 [.ptr 5 g5 0, .ptr 4 g4 0, .ptr 2 g2 0, .ptr 0 g0 0, .ptr 1 g1 0, .ptr 3 g3 0, .ptr 6 g6 0]]⟩, some ⟨3, g7, [int 2]⟩] t K := by
 refine ACall.enter tab_ok Tryz.func127 rfl rfl Tryz.ntmps127 (by simp) ?_
 simp only [Y04]
 refine wqa ?_
 ((repeat refine Y00 ?_); (refine Ydz ?_))
 refine wia ?_
 refine wsa ?_
 refine wqa ?_
 refine wia ?_
 repeat refine Y00 ?_
 ((refine AW.freeze (7) (by first | rfl | (simp only [setH, List.getElem?_cons_zero, List.getElem?_cons_succ]; done)) ?_); simp (disch := omega) only [fzT, fz, fzL, Y0p, Y0y, fzH, fzB, eq_self, bb, bt, zDs, zD, Y01, simprocAttr])
 ((repeat refine Y00 ?_); (refine Y03 tab_ok fun KR hKR => ?_))
 refine wra ?_
 have hC := Y7z [2] (by decide)
 ((first | refine Y0f fun KK hKK => ?_ | refine Y08 rfl fun KK hKK => ?_); simp (disch := omega) only [bb, bt, zDs, zD, Y01, simprocAttr, goC, Y0e, Y0m, and_self]; refine ACall.of_fresh (hC) (by first | (simp only [List.map_cons, List.map_nil, List.append_nil, List.nil_append, List.cons_append, ufa, uf]; done) | rfl) ?_; simp (disch := omega) only [bb, bt, zDs, zD, Y01, simprocAttr, Y0n]; refine hKK _ ?_; clear hKK KK)
 refine wra ?_
 ((refine wea ?_); (try clear hKR KR))
 ((repeat refine Y00 ?_); (refine wta ?_); simp (disch := omega) only [retQ, resD, oneD, bb, bt, zDs, zD, Y01, simprocAttr, Tryz.results127])
 exact hK _ _ (by omega)
theorem Ytk {P Q : Prop} (q : Q) (h : Q → P := by
 intro  hq
 (try with_reducible intro KR hKR)
 (repeat refine Y00 ?_); (repeat refine Y00 ?_); (refine Y0d tab_ok Y06 0 fun KR hKR => ?_); simp only [List.replicate_succ, List.replicate_zero, List.append_nil, List.nil_append, List.cons_append, List.length_cons, List.length_nil, Nat.reduceAdd]; (repeat' ((first | refine Y2s rfl fun KK hKK => ?_ | refine Y2t rfl rfl fun KK hKK => ?_ | refine Y15 rfl fun KK hKK => ?_ | refine Y14 fun KK hKK => ?_); simp (disch := omega) only [bb, bt, zDs, zD, Y01, simprocAttr, bne_self_eq_false, Int.reduceBNe, Int.reduceBEq, Bool.bne_false, Bool.bne_true, Bool.false_bne, Bool.true_bne]; refine hKK _ _ _ ?_; clear hKK KK)); (refine Y0k ?_); simp only [List.reverse_cons, List.reverse_nil, List.nil_append, List.cons_append]; (refine hKR _ _ (by first | rfl | kernel_rfl) ?_); (try clear hKR KR); (refine qq1 ?_)
 (first | exact hq | (revert hKR; revert KR; exact hq))) : P := h  q
theorem Ygw {P Q : Prop} (q : Q) (h : Q → P := by
 intro  hq
 (try with_reducible intro KR hKR)
 (refine qq1 ?_)
 (first | exact hq | (revert hKR; revert KR; exact hq))) : P := h  q
set_option maxHeartbeats 4000000 in
theorem Yn6 {g0 g1 g2 g3 g4 g5 g6 g7 : Nat} {t : Nat} {K : D → Hp → Nat → Prop} (hK : ∀ t' t2, t ≤ t' → K (.tup []) [some ⟨149, g0, [.rp [brL, .sl 1 [int 10, int 0] false] 0]⟩, some ⟨3, g1, [int 10]⟩, some ⟨3, g2, [int 10]⟩, some ⟨59, g3, [.own 1 8 (t') 0 1]⟩, some ⟨3, g4, [int 2]⟩, some ⟨4, g5, [bool true]⟩, some ⟨184, g6, [.fn 127 [.ptr 5 g5 0, .ptr 4 g4 0, .ptr 2 g2 0, .ptr 0 g0 0, .ptr 1 g1 0, .ptr 3 g3 0, .ptr 6 g6 0]]⟩, none, some ⟨3, t', [int 2]⟩] t2) : ACall Tryz.prog 127 [.own 1 7 g7 0 0, int 0, int 0, .ptr 5 g5 0, .ptr 4 g4 0, .ptr 2 g2 0, .ptr 0 g0 0, .ptr 1 g1 0, .ptr 3 g3 0, .ptr 6 g6 0] [some ⟨149, g0, [.rp [brL, .sl 1 [int 10, int 0] false] 0]⟩, some ⟨3, g1, [int 10]⟩, some ⟨3, g2, [int 10]⟩, some ⟨59, g3, [.sl 1 [] true]⟩, some ⟨3, g4, [int 0]⟩, some ⟨4, g5, [bool false]⟩, some ⟨184, g6, [.fn 127 [.ptr 5 g5 0, .ptr 4 g4 0, .ptr 2 g2 0, .ptr 0 g0 0, .ptr 1 g1 0, .ptr 3 g3 0, .ptr 6 g6 0]]⟩, some ⟨3, g7, [int 0]⟩] t K := by
 refine ACall.enter tab_ok Tryz.func127 rfl rfl Tryz.ntmps127 (by simp) ?_
 simp only [Y04]
 refine wqa ?_
 ((repeat refine Y00 ?_); (refine Ytk ?_))
 refine wia ?_
 refine wsa ?_
 refine wqa ?_
 refine wia ?_
 refine wsa ?_
 refine wqa ?_
 refine Y02 ?_
 refine Y05 (fun x : Nat × Hp × Nat => ⟨[(0, .own 1 7 g7 0 0), (1, int 0), (2, int 0), (3, .ptr 5 g5 0), (4, .ptr 4 g4 0), (5, .ptr 2 g2 0), (6, .ptr 0 g0 0), (7, .ptr 1 g1 0), (8, .ptr 3 g3 0), (9, .ptr 6 g6 0), (13, int 0), (14, int x.1)], x.2.1, x.2.2⟩) (fun x => 3 - x.1) (fun x => (x.1 = 0 ∧ x.2.1 = [some ⟨149, g0, [.rp [brL, .sl 1 [int 10, int 0] false] 0]⟩, some ⟨3, g1, [int 10]⟩, some ⟨3, g2, [int 10]⟩, some ⟨59, g3, [.sl 1 [] true]⟩, some ⟨3, g4, [int 0]⟩, some ⟨4, g5, [bool false]⟩, some ⟨184, g6, [.fn 127 [.ptr 5 g5 0, .ptr 4 g4 0, .ptr 2 g2 0, .ptr 0 g0 0, .ptr 1 g1 0, .ptr 3 g3 0, .ptr 6 g6 0]]⟩, some ⟨3, g7, [int 0]⟩] ∧ t ≤ x.2.2) ∨ (x.1 = 1 ∧ x.2.1 = [some ⟨149, g0, [.rp [brL, .sl 1 [int 10, int 0] false] 0]⟩, some ⟨3, g1, [int 10]⟩, some ⟨3, g2, [int 10]⟩, some ⟨59, g3, [.sl 1 [] true]⟩, some ⟨3, g4, [int 0]⟩, some ⟨4, g5, [bool false]⟩, some ⟨184, g6, [.fn 127 [.ptr 5 g5 0, .ptr 4 g4 0, .ptr 2 g2 0, .ptr 0 g0 0, .ptr 1 g1 0, .ptr 3 g3 0, .ptr 6 g6 0]]⟩, some ⟨3, g7, [int 0]⟩] ∧ t ≤ x.2.2) ∨ (x.1 = 2 ∧ x.2.1 = [some ⟨149, g0, [.rp [brL, .sl 1 [int 10, int 0] false] 0]⟩, some ⟨3, g1, [int 10]⟩, some ⟨3, g2, [int 10]⟩, some ⟨59, g3, [.sl 1 [] true]⟩, some ⟨3, g4, [int 0]⟩, some ⟨4, g5, [bool false]⟩, some ⟨184, g6, [.fn 127 [.ptr 5 g5 0, .ptr 4 g4 0, .ptr 2 g2 0, .ptr 0 g0 0, .ptr 1 g1 0, .ptr 3 g3 0, .ptr 6 g6 0]]⟩, some ⟨3, g7, [int 1]⟩] ∧ t ≤ x.2.2) ∨ (x.1 = 3 ∧ ∃ t', t ≤ t' ∧ x.2.1 = [some ⟨149, g0, [.rp [brL, .sl 1 [int 10, int 0] false] 0]⟩, some ⟨3, g1, [int 10]⟩, some ⟨3, g2, [int 10]⟩, some ⟨59, g3, [.own 1 8 (t') 0 1]⟩, some ⟨3, g4, [int 2]⟩, some ⟨4, g5, [bool true]⟩, some ⟨184, g6, [.fn 127 [.ptr 5 g5 0, .ptr 4 g4 0, .ptr 2 g2 0, .ptr 0 g0 0, .ptr 1 g1 0, .ptr 3 g3 0, .ptr 6 g6 0]]⟩, none, some ⟨3, t', [int 2]⟩])) (0, [some ⟨149, g0, [.rp [brL, .sl 1 [int 10, int 0] false] 0]⟩, some ⟨3, g1, [int 10]⟩, some ⟨3, g2, [int 10]⟩, some ⟨59, g3, [.sl 1 [] true]⟩, some ⟨3, g4, [int 0]⟩, some ⟨4, g5, [bool false]⟩, some ⟨184, g6, [.fn 127 [.ptr 5 g5 0, .ptr 4 g4 0, .ptr 2 g2 0, .ptr 0 g0 0, .ptr 1 g1 0, .ptr 3 g3 0, .ptr 6 g6 0]]⟩, some ⟨3, g7, [int 0]⟩], t + 1) (.inl ⟨rfl, rfl, Nat.le_succ t⟩) ele ?_
 rintro ⟨k, H, tt⟩ h
 simp only at h ⊢
 rcases h with ⟨rfl, rfl, htt⟩ | ⟨rfl, rfl, htt⟩ | ⟨rfl, rfl, htt⟩ | ⟨rfl, t', ht', rfl⟩
 ·refine wqa ?_
  refine wia ?_
  refine wsa ?_
  repeat refine Y00 ?_
  refine Y02 ?_
  repeat refine Y00 ?_
  refine Y24 tab_ok Y06 0 20 rfl (by kernel_rfl) fun KR hKR => ?_
  simp only [List.take_succ_cons, List.take_zero, List.replicate_zero, List.append_nil]
  refine wda ?_
  refine Y0k ?_
  simp only [List.reverse_cons, List.reverse_nil, List.nil_append, List.cons_append]
  refine hKR _ _ (by kernel_rfl) fun KS hKS => ?_
  clear hKR KR
  simp only [List.drop_succ_cons, List.drop_zero]
  ((try with_reducible intro KR hKR); (first | refine Y0f fun KK hKK => ?_ | refine Y08 rfl fun KK hKK => ?_); simp (disch := omega) only [bb, bt, zDs, zD, Y01, simprocAttr, goC, Y0e, Y0m, and_self])
  refine Yw2 fun t' ht => ?_
  (simp (disch := omega) only [bb, bt, zDs, zD, Y01, simprocAttr, Y0n]; refine hKK _ ?_; clear hKK KK)
  refine Y0o ?_
  refine hKS _ ?_
  clear hKS KS
  refine Ygw ?_
  refine gga0 ?_
  refine ⟨(1, [some ⟨149, g0, [.rp [brL, .sl 1 [int 10, int 0] false] 0]⟩, some ⟨3, g1, [int 10]⟩, some ⟨3, g2, [int 10]⟩, some ⟨59, g3, [.sl 1 [] true]⟩, some ⟨3, g4, [int 0]⟩, some ⟨4, g5, [bool false]⟩, some ⟨184, g6, [.fn 127 [.ptr 5 g5 0, .ptr 4 g4 0, .ptr 2 g2 0, .ptr 0 g0 0, .ptr 1 g1 0, .ptr 3 g3 0, .ptr 6 g6 0]]⟩, some ⟨3, g7, [int 0]⟩], t'), .inr (.inl ⟨rfl, rfl, by show t ≤ t'; omega⟩), by show 3 - (0 + 1) < 3 - 0; decide, ?_⟩
  exact ele
 ·refine wqa ?_
  refine wia ?_
  refine wsa ?_
  repeat refine Y00 ?_
  refine Y02 ?_
  repeat refine Y00 ?_
  refine Y24 tab_ok Y06 0 20 rfl (by kernel_rfl) fun KR hKR => ?_
  simp only [List.take_succ_cons, List.take_zero, List.replicate_zero, List.append_nil]
  refine wda ?_
  refine Y0k ?_
  simp only [List.reverse_cons, List.reverse_nil, List.nil_append, List.cons_append]
  refine hKR _ _ (by kernel_rfl) fun KS hKS => ?_
  clear hKR KR
  simp only [List.drop_succ_cons, List.drop_zero]
  ((try with_reducible intro KR hKR); (first | refine Y0f fun KK hKK => ?_ | refine Y08 rfl fun KK hKK => ?_); simp (disch := omega) only [bb, bt, zDs, zD, Y01, simprocAttr, goC, Y0e, Y0m, and_self])
  refine Yw1 fun t' ht => ?_
  (simp (disch := omega) only [bb, bt, zDs, zD, Y01, simprocAttr, Y0n]; refine hKK _ ?_; clear hKK KK)
  refine Y0o ?_
  refine hKS _ ?_
  clear hKS KS
  refine Ygw ?_
  refine gga0 ?_
  refine ⟨(2, [some ⟨149, g0, [.rp [brL, .sl 1 [int 10, int 0] false] 0]⟩, some ⟨3, g1, [int 10]⟩, some ⟨3, g2, [int 10]⟩, some ⟨59, g3, [.sl 1 [] true]⟩, some ⟨3, g4, [int 0]⟩, some ⟨4, g5, [bool false]⟩, some ⟨184, g6, [.fn 127 [.ptr 5 g5 0, .ptr 4 g4 0, .ptr 2 g2 0, .ptr 0 g0 0, .ptr 1 g1 0, .ptr 3 g3 0, .ptr 6 g6 0]]⟩, some ⟨3, g7, [int 1]⟩], t'), .inr (.inr (.inl ⟨rfl, rfl, by show t ≤ t'; omega⟩)), by show 3 - (1 + 1) < 3 - 1; decide, ?_⟩
  exact ele
 ·refine wqa ?_
  refine wia ?_
  refine wsa ?_
  repeat refine Y00 ?_
  refine Y02 ?_
  repeat refine Y00 ?_
  refine Y24 tab_ok Y06 0 20 rfl (by kernel_rfl) fun KR hKR => ?_
  simp only [List.take_succ_cons, List.take_zero, List.replicate_zero, List.append_nil]
  refine wda ?_
  refine Y0k ?_
  simp only [List.reverse_cons, List.reverse_nil, List.nil_append, List.cons_append]
  refine hKR _ _ (by kernel_rfl) fun KS hKS => ?_
  clear hKR KR
  simp only [List.drop_succ_cons, List.drop_zero]
  ((try with_reducible intro KR hKR); (first | refine Y0f fun KK hKK => ?_ | refine Y08 rfl fun KK hKK => ?_); simp (disch := omega) only [bb, bt, zDs, zD, Y01, simprocAttr, goC, Y0e, Y0m, and_self])
  refine Yw0 fun t' t2 ht => ?_
  (simp (disch := omega) only [bb, bt, zDs, zD, Y01, simprocAttr, Y0n]; refine hKK _ ?_; clear hKK KK)
  refine Y0o ?_
  refine hKS _ ?_
  clear hKS KS
  refine Ygw ?_
  refine gga0 ?_
  refine ⟨(3, [some ⟨149, g0, [.rp [brL, .sl 1 [int 10, int 0] false] 0]⟩, some ⟨3, g1, [int 10]⟩, some ⟨3, g2, [int 10]⟩, some ⟨59, g3, [.own 1 8 (t') 0 1]⟩, some ⟨3, g4, [int 2]⟩, some ⟨4, g5, [bool true]⟩, some ⟨184, g6, [.fn 127 [.ptr 5 g5 0, .ptr 4 g4 0, .ptr 2 g2 0, .ptr 0 g0 0, .ptr 1 g1 0, .ptr 3 g3 0, .ptr 6 g6 0]]⟩, none, some ⟨3, t', [int 2]⟩], t2), .inr (.inr (.inr ⟨rfl, t', by omega, rfl⟩)), by show 3 - (2 + 1) < 3 - 2; decide, ?_⟩
  exact ele
 ·refine gga0 ?_
  simp only [retQ, Tryz.results127, resD, oneD]
  exact hK _ _ ht'
theorem Ytj {P Q : Prop} (q : Q) (h : Q → P := by
 intro  hq
 (try with_reducible intro KR hKR)
 (repeat refine Y00 ?_); (repeat refine Y00 ?_); (refine Y0d tab_ok Y06 0 fun KR hKR => ?_); simp only [List.replicate_succ, List.replicate_zero, List.append_nil, List.nil_append, List.cons_append, List.length_cons, List.length_nil, Nat.reduceAdd]; (repeat' ((first | refine Y2s rfl fun KK hKK => ?_ | refine Y2t rfl rfl fun KK hKK => ?_ | refine Y15 rfl fun KK hKK => ?_ | refine Y14 fun KK hKK => ?_); simp (disch := omega) only [bb, bt, zDs, zD, Y01, simprocAttr, bne_self_eq_false, Int.reduceBNe, Int.reduceBEq, Bool.bne_false, Bool.bne_true, Bool.false_bne, Bool.true_bne]; refine hKK _ _ _ ?_; clear hKK KK)); (refine Y0k ?_); simp only [List.reverse_cons, List.reverse_nil, List.nil_append, List.cons_append]; (refine hKR _ _ (by first | rfl | kernel_rfl) ?_); (try clear hKR KR); (refine qq1 ?_)
 (first | exact hq | (revert hKR; revert KR; exact hq))) : P := h  q
theorem Yvu {P Q : Prop} (q : Q) (h : Q → P := by
 intro  hq
 (try with_reducible intro KR hKR)
 (refine qq1 ?_)
 (first | exact hq | (revert hKR; revert KR; exact hq))) : P := h  q
set_option maxHeartbeats 4000000 in
theorem Ytt : PRet Tryz.prog 90 [.rp [brL, .sl 1 [int 10, int 0] false] 0, int 10, int 10] (.tup [.sl 1 [int 2] false, bool true]) := by
 refine pri 2 Tryz.func90 Tryz.ntmps90 fun t => ?_
 simp only [Y04]
 refine wqa ?_
 refine wqa ?_
 refine wqa ?_
 refine wqa ?_
 refine wqa ?_
 repeat refine Y00 ?_
 refine Y24 tab_ok Y06 1 7 rfl (by kernel_rfl) fun KR hKR => ?_
 simp only [List.take_succ_cons, List.take_zero, List.replicate_succ, List.replicate_zero, List.append_nil, List.nil_append, List.cons_append]
 refine wda ?_
 refine Y0k ?_
 simp only [List.reverse_cons, List.reverse_nil, List.nil_append, List.cons_append]
 refine hKR _ _ (by kernel_rfl) fun KS hKS => ?_
 clear hKR KR
 simp only [List.drop_succ_cons, List.drop_zero]
 ((try with_reducible intro KR hKR); (first | refine Y0f fun KK hKK => ?_ | refine Y08 rfl fun KK hKK => ?_); simp (disch := omega) only [bb, bt, zDs, zD, Y01, simprocAttr, goC, Y0e, Y0m, and_self])
 refine Yn6 fun t' t2 ht => ?_
 (simp (disch := omega) only [bb, bt, zDs, zD, Y01, simprocAttr, Y0n]; refine hKK _ ?_; clear hKK KK)
 refine Y0o ?_
 refine hKS _ ?_
 clear hKS KS
 refine Yvu ?_
 ((repeat refine Y00 ?_); (refine Ytj ?_))
 exact exx Tryz.results90
theorem Yn4 : PRet Tryz.prog 60 [brL, int 10, int 10] (.tup [.sl 1 [int 2] false, int 0]) := by
 refine pri 1 Tryz.func60 Tryz.ntmps60 fun t => ?_
 simp only [Y04]
 have hV := Yw3
 have hN := Yp1
 have hF := Ytt
 refine gga0 ?_
 repeat refine Y00 ?_
 refine Y0i (fun x : Nat => ⟨[(0, brL), (1, int 10), (2, int 10)], [], x⟩) (fun _ => True) ?_ ?_
 ·refine Y02 ?_
  refine gga1 hV ?_
  refine ⟨t, trivial, ?_⟩
  exact ele
 rintro w -
 refine gga2 hN hF ?_
 exact exx Tryz.results60
theorem Yq7 : PRet Tryz.prog 24 [brL, int 10] (.tup [.sl 1 [int 2] false, int 0]) := by
 refine pri 1 Tryz.func24 Tryz.ntmps24 fun t => ?_
 simp only [Y04]
 have hW := Yn4
 refine gga1 hW ?_
 exact exx Tryz.results24
theorem Ylr (j : Nat) : liesAt Tryz.prog Tryz.prog.depth 102 ((3 + j) / Tryz.prog.cellsOf 102) 0 100 1 = true := by
 have h3 : Tryz.prog.cellsOf 102 = 3 := by kernel_rfl
 rw [h3]
 obtain ⟨k, hk⟩ : ∃ k, (3 + j) / 3 = k + 1 := ⟨(3 + j) / 3 - 1, by omega⟩
 rw [hk]
 have h : ∀ k, liesAt Tryz.prog Tryz.prog.depth 102 (k + 1) 0 100 1 = true := fun k => by kernel_rfl
 exact h k
theorem Ysu {d : D} {H : Hp} {t : Nat} {K : D → Hp → Nat → Prop} (hK : K d H t) : ACall Tryz.prog 157 [d] H t K := fun w0 F G w us R hL => by
 simp only [RepL] at hL
 obtain ⟨u, _, rfl, hu, rfl⟩ := hL
 refine .inr ⟨u, ?_, F, G, u, d, H, t, rfl, .refl _ _ _, R, hu, hK⟩
 rw [run_callFunc_extern Tryz.func157 (by kernel_rfl) (by kernel_rfl) (by kernel_rfl) (e := Extern.AbiNoEscape.same) (by kernel_rfl)]
 rw [Lib.run_noEscape]
 rfl
theorem Yef {pb gp : Nat} {B e : D} {H : Hp} {t : Nat} {K : D → Hp → Nat → Prop} (hp : H[pb]? = some (some ⟨102, gp, [.v (.pointer none), B, e]⟩))
    (hK : K (.tup []) (setH H pb ⟨102, gp, [.ptr pb gp 0, B, e]⟩) t) : ACall Tryz.prog 122 [.ptr pb gp 0] H t K := by
  refine ACall.enter tab_ok Tryz.func122 rfl rfl Tryz.ntmps122 (by simp) ?_
  simp only [Y04]
  ((repeat refine Y00 ?_); (refine Y03 tab_ok fun KR hKR => ?_))
  refine wrb hp ?_
  refine Ymn Tryz.underlying97 (by decide) rfl ?_
  simp only [St.put, Y1r, ↓reduceIte, Nat.reduceEqDiff]
  ((refine wea ?_); (try clear hKR KR))
  refine wia ?_
  ((repeat refine Y00 ?_); (refine Y03 tab_ok fun KR hKR => ?_))
  refine wrb hp ?_
  refine Ygr (bl := ⟨102, gp, [.v (.pointer none), B, e]⟩) tab_ok Tryz.underlying97 Tryz.underlying203 (ie := T100) rfl (by decide) (by decide) rfl hp (by simp) ?_
  simp only [St.put, Y1r, ↓reduceIte, Nat.reduceEqDiff]
  ((try with_reducible intro KR hKR); (first | refine Y0f fun KK hKK => ?_ | refine Y08 rfl fun KK hKK => ?_); simp (disch := omega) only [bb, bt, zDs, zD, Y01, simprocAttr, goC, Y0e, Y0m, and_self])
  refine Ysu ?_
  (simp (disch := omega) only [bb, bt, zDs, zD, Y01, simprocAttr, Y0n]; refine hKK _ ?_; clear hKK KK)
  refine Ymq (bl := ⟨102, gp, [.v (.pointer none), B, e]⟩) tab_ok Tryz.underlying203 Tryz.underlying97 (ie := T100) rfl (by decide) rfl hp Ylr ?_
  simp only [St.put, Y1r, ↓reduceIte, Nat.reduceEqDiff]
  refine wrb hp ?_
  ((refine wea ?_); (try clear hKR KR))
  simp only [retQ, Tryz.results122, resD, oneD]
  exact hK
theorem Yee {pb gp : Nat} {B e : D} {H : Hp} {t : Nat} {K : D → Hp → Nat → Prop} (hp : H[pb]? = some (some ⟨102, gp, [.ptr pb gp 0, B, e]⟩))
    (hK : K (.tup []) H t) : ACall Tryz.prog 122 [.ptr pb gp 0] H t K := by
  refine ACall.enter tab_ok Tryz.func122 rfl rfl Tryz.ntmps122 (by simp) ?_
  simp only [Y04]
  ((repeat refine Y00 ?_); (refine Y03 tab_ok fun KR hKR => ?_))
  refine wrb hp ?_
  refine Ymm (bl := ⟨102, gp, [.ptr pb gp 0, B, e]⟩) Tryz.underlying97 (by decide) rfl hp ?_
  simp only [St.put, Y1r, ↓reduceIte, Nat.reduceEqDiff]
  ((refine wea ?_); (try clear hKR KR))
  refine wia ?_
  ((repeat refine Y00 ?_); (refine Y03 tab_ok fun KR hKR => ?_))
  refine wrb hp ?_
  refine Yit (bl := ⟨102, gp, [.ptr pb gp 0, B, e]⟩) tab_ok Tryz.underlying97 (ie := T100) rfl (by decide) rfl rfl hp ?_
  simp only [St.put, Y1r, ↓reduceIte, Nat.reduceEqDiff]
  ((refine wea ?_); (try clear hKR KR))
  refine wia ?_
  refine wsa ?_
  simp only [retQ, Tryz.results122, resD, oneD]
  exact hK
theorem Y5n {H : Hp} {b : Nat} {bl : Blk} (h : b < H.length) : setH H b bl = H.set b (some bl) := by unfold setH; rw [if_neg (by omega)]
structure Pap (H : Hp) (pb gp ub gb : Nat) (P0 e : D) (bs : List D) : Prop where
 hp : H[pb]? = some (some ⟨102, gp, [P0, .own 1 ub gb 0 bs.length, e]⟩)
 hb : H[ub]? = some (some ⟨5, gb, bs⟩)
 own : P0 = .v (.pointer none) ∨ P0 = .ptr pb gp 0
def Y3b (H : Hp) (pb gp ub t : Nat) (e : D) (bs : List D) : Hp := setH (setH H ub ⟨5, t, bs⟩) pb ⟨102, gp, [.ptr pb gp 0, .own 1 ub t 0 bs.length, e]⟩
theorem Y4a {H : Hp} {pb gp ub gb : Nat} {P0 e : D} {bs : List D} {s : ByteArray} {t : Nat} {K : D → Hp → Nat → Prop} (h : Pap H pb gp ub gb P0 e bs) (hs : 0 < s.size) (hl : bs.length + s.size ≤ 1000000)
    (hK : K (.tup [int s.size, .v .nilIface]) (Y3b H pb gp ub (t + 1) e (bs ++ strD s)) (t + 1)) : ACall Tryz.prog 84 [.ptr pb gp 0, .v (.string s)] H t K := by
  refine ACall.enter tab_ok Tryz.func84 rfl rfl Tryz.ntmps84 (by simp) ?_
  simp only [Y04]
  have hc : Y5e tab 141 .nilIface = .v .nilIface := rfl
  refine wqb hc ?_
  have hne : pb ≠ ub := fun e => by
    have h1 := h.hp
    rw [e, h.hb] at h1
    cases h1
  repeat refine Y00 ?_
  refine Y0i (fun x : Unit => ⟨[(0, .ptr pb gp 0), (1, .v (.string s))], setH H pb ⟨102, gp, [.ptr pb gp 0, .own 1 ub gb 0 bs.length, e]⟩, t⟩) (fun _ => True) ?_ ?_
  · ((repeat refine Y00 ?_); (refine Y03 tab_ok fun KR hKR => ?_))
    refine wra ?_
    ((try with_reducible intro KR hKR); (first | refine Y0f fun KK hKK => ?_ | refine Y08 rfl fun KK hKK => ?_); simp (disch := omega) only [bb, bt, zDs, zD, Y01, simprocAttr, goC, Y0e, Y0m, and_self])
    rcases h.own with rfl | rfl
    · refine Yef h.hp ?_
      (simp (disch := omega) only [bb, bt, zDs, zD, Y01, simprocAttr, Y0n]; refine hKK _ ?_; clear hKK KK)
      ((refine wea ?_); (try clear hKR KR))
      refine ⟨(), trivial, ?_⟩
      exact ele
    · refine Yee h.hp ?_
      (simp (disch := omega) only [bb, bt, zDs, zD, Y01, simprocAttr, Y0n]; refine hKK _ ?_; clear hKK KK)
      ((refine wea ?_); (try clear hKR KR))
      refine ⟨(), trivial, ?_⟩
      (simp (disch := omega) only [StLe, tmLe, Y0b, hpLe, bl, bb, bt, zDs, zD, Y01, simprocAttr])
      have e1 := Y5n (bl := ⟨102, gp, [.ptr pb gp 0, .own 1 ub gb 0 bs.length, e]⟩) (List.getElem?_eq_some_iff.1 h.hp).1
      unfold setH at e1
      rw [e1, Y99 h.hp]
      exact Y0b _
  rintro _ -
  have hpl : pb ≤ H.length := Nat.le_of_lt (List.getElem?_eq_some_iff.1 h.hp).1
  have hul : ub < H.length := (List.getElem?_eq_some_iff.1 h.hb).1
  have hp2 : (setH H pb ⟨102, gp, [.ptr pb gp 0, .own 1 ub gb 0 bs.length, e]⟩)[pb]? = some (some ⟨102, gp, [.ptr pb gp 0, .own 1 ub gb 0 bs.length, e]⟩) := Ya5 _ hpl
  have hb2 : (setH H pb ⟨102, gp, [.ptr pb gp 0, .own 1 ub gb 0 bs.length, e]⟩)[ub]? = some (some ⟨5, gb, bs⟩) := (Y5m _ hne.symm).trans h.hb
  have hl2 : ub ≤ (setH H pb ⟨102, gp, [.ptr pb gp 0, .own 1 ub gb 0 bs.length, e]⟩).length := Nat.le_of_lt (List.getElem?_eq_some_iff.1 hb2).1
  generalize hH1 : setH H pb ⟨102, gp, [.ptr pb gp 0, .own 1 ub gb 0 bs.length, e]⟩ = H1 at *
  ((repeat refine Y00 ?_); (refine Y03 tab_ok fun KR hKR => ?_))
  refine wrb hp2 ?_
  refine Yri (bl := ⟨5, gb, bs⟩) (i := T98) (e := T5) (iu := T9) tab_ok (by decide) rfl rfl rfl rfl rfl rfl rfl rfl rfl rfl hb2 rfl rfl rfl hs (by omega) ?_
  simp only [St.put, Y1r, ↓reduceIte, Nat.reduceEqDiff]
  have hp3 : (setH H1 ub ⟨5, t + 1, bs ++ strD s⟩)[pb]? = some (some ⟨102, gp, [.ptr pb gp 0, .own 1 ub gb 0 bs.length, e]⟩) := (Y5m _ hne).trans hp2
  generalize hH2 : setH H1 ub ⟨5, t + 1, bs ++ strD s⟩ = H2 at *
  refine wrb hp3 ?_
  ((refine wea ?_); (try clear hKR KR))
  refine ggb0 hc ?_
  ((repeat refine Y00 ?_); (refine wta ?_); simp (disch := omega) only [retQ, resD, oneD, bb, bt, zDs, zD, Y01, simprocAttr, Tryz.results84])
  have hpl' : pb < H.length := (List.getElem?_eq_some_iff.1 h.hp).1
  have e1 : (if pb = List.length H2 then H2 ++ [some ⟨102, gp, [D.ptr pb gp 0, D.own 1 ub (t + 1) 0 (bs.length + s.size), e]⟩] else List.set H2 pb (some ⟨102, gp, [D.ptr pb gp 0, D.own 1 ub (t + 1) 0 (bs.length + s.size), e]⟩)) = Y3b H pb gp ub (t + 1) e (bs ++ strD s) := by
    unfold Y3b
    rw [List.length_append, Y78, ← hH2, ← hH1]
    show setH (setH (setH H pb _) ub _) pb _ = _
    rw [Y5n (H := H) hpl', Y5n (b := ub) (H := H.set pb _) (by rw [List.length_set]; exact hul), Y5n (b := pb) (by rw [List.length_set, List.length_set]; exact hpl'), Y5n (H := H) hul, Y5n (b := pb) (by rw [List.length_set]; exact hpl'), List.set_comm _ _ hne, List.set_set]
  rw [e1]
  exact hK
end Go.Proofs.YtpbpafmgkdihlaaGreatDoor.T
