import Derived.Test.YtjmmenfbcbagoaaMQC
import Derived.Test.YtjmmenfbcbagoaaWRS
set_option linter.all false
section
namespace Go.Proofs.Ytjmmenfbcbagoaa.T
open Go Go.RowKit Lin
theorem gdza5_MQG {C1 C2 C3 C4 C5 P Q : Prop} (c1 : C1) (c2 : C2) (c3 : C3) (c4 : C4) (c5 : C5) (q : Q) (h : C1 → C2 → C3 → C4 → C5 → Q → P := by
  intro cc1 cc2 cc3 cc4 cc5 hq
  (try with_reducible intro KR hKR)
  (repeat refine AW_seq ?_); (repeat refine AW_seq ?_); (refine AW_drawn_k tab_ok follows_mixed 0 fun KR hKR => ?_); simp only [List.replicate_succ, List.replicate_zero, List.append_nil, List.nil_append, List.cons_append, List.length_cons, List.length_nil, Nat.reduceAdd]; (repeat' ((first | refine awD_n rfl fun KK hKK => ?_ | refine awD_g rfl rfl fun KK hKK => ?_ | refine awD_gc rfl fun KK hKK => ?_ | refine awD_nc fun KK hKK => ?_); simp (disch := omega) only [bb, bt, zDs, zD, eqCells, simprocAttr, bne_self_eq_false, Int.reduceBNe, Int.reduceBEq, Bool.bne_false, Bool.bne_true, Bool.false_bne, Bool.true_bne, goCDS, callDS_fn, argsZ, argsD, ufa, uf]; (try ((first | with_reducible refine PGive.ret (cc1) ?_ | with_reducible refine PGive.ret (cc2) ?_ | with_reducible refine PGive.ret (cc3) ?_ | with_reducible refine PGive.ret (cc4) ?_ | with_reducible refine PGive.ret (cc5) ?_); simp (disch := omega) only [bb, bt, zDs, zD, eqCells, simprocAttr, afterDS, bne_self_eq_false, Int.reduceBNe, Int.reduceBEq, Bool.bne_false, Bool.bne_true, Bool.false_bne, Bool.true_bne])); refine hKK _ _ _ ?_; clear hKK KK)); (refine awD_nil ?_); simp only [List.reverse_cons, List.reverse_nil, List.nil_append, List.cons_append]; (refine hKR _ _ (by first | rfl | kernel_rfl) ?_); (try clear hKR KR); (repeat (with_reducible first | refine q1 ?_ | refine q2 ?_ | refine q3 ?_ | refine q4 ?_ | refine q5 ?_ | refine q6 ?_ | (refine q7 ?_ ?_; (focus (with_unfolding_all rfl)))))
  (first | exact hq | (revert hKR; revert KR; exact hq))) : P := h c1 c2 c3 c4 c5 q
theorem gga6_MQG {C1 C2 C3 C4 C5 C6 P Q : Prop} (c1 : C1) (c2 : C2) (c3 : C3) (c4 : C4) (c5 : C5) (c6 : C6) (q : Q) (h : C1 → C2 → C3 → C4 → C5 → C6 → Q → P := by
  intro cc1 cc2 cc3 cc4 cc5 cc6 hq
  (try with_reducible intro KR hKR)
  (repeat' (first | (with_reducible refine AW_seq ?_) | (with_reducible refine AW_region_k tab_ok fun KR hKR => ?_) | ((first | with_reducible refine AW_skip ?_ | with_reducible refine AW_exit ?_ | ((with_reducible refine awOps_nil ?_); refine hKR _ ?_; (try clear hKR KR))); (repeat (with_reducible first | refine q1 ?_ | refine q2 ?_ | refine q3 ?_ | refine q4 ?_ | refine q5 ?_ | refine q6 ?_ | (refine q7 ?_ ?_; (focus (with_unfolding_all rfl)))))) | ((first | ((with_reducible refine at_ops ?_); (first | refine awOps_n rfl fun KK hKK => ?_ | refine awOps_g rfl rfl fun KK hKK => ?_ | refine awOps_gc rfl fun KK hKK => ?_ | refine awOps_nc fun KK hKK => ?_)) | with_reducible refine AW_cond_k (tab := tab) fun KK hKK => ?_); simp (disch := omega) only [bb, bt, zDs, zD, eqCells, simprocAttr, bne_self_eq_false, Int.reduceBNe, Int.reduceBEq, Bool.bne_false, Bool.bne_true, Bool.false_bne, Bool.true_bne, goC, callO_fn, argsD, and_self]; (try ((first | (with_reducible refine ACall.of_pret (cc1) ?_ ?_; (focus (first | (simp only [um]; done) | rfl))) | (with_reducible refine ACall.of_pret (cc2) ?_ ?_; (focus (first | (simp only [um]; done) | rfl))) | (with_reducible refine ACall.of_pret (cc3) ?_ ?_; (focus (first | (simp only [um]; done) | rfl))) | (with_reducible refine ACall.of_pret (cc4) ?_ ?_; (focus (first | (simp only [um]; done) | rfl))) | (with_reducible refine ACall.of_pret (cc5) ?_ ?_; (focus (first | (simp only [um]; done) | rfl))) | (with_reducible refine ACall.of_pret (cc6) ?_ ?_; (focus (first | (simp only [um]; done) | rfl)))); simp only [afterC, St.put, putTM, ↓reduceIte, Nat.reduceEqDiff])); refine hKK _ ?_; clear hKK KK; (first | with_reducible refine at_ops ?_ | with_reducible refine i1 ?_ | with_reducible refine i0 ?_))))
  (first | exact hq | (revert hKR; revert KR; exact hq))) : P := h c1 c2 c3 c4 c5 c6 q
set_option linter.unusedSimpArgs false

/-! Chapter 16: the examples. -/
theorem equalStrs (a b : List ByteArray) (ha : a.length ≤ 1000000) (hb : b.length ≤ 1000000) : PRet Try.prog 34 [strsD a, strsD b] (bool (a == b)) := by
  refine PRet.intro 1 fun t => ACall.enter tab_ok Try.func34 rfl rfl Try.ntmps34 (by simp) ?_
  simp only [enterTM]
  ((refine wqa ?_))
  by_cases hl : a.length = b.length
  rotate_left 1
  · have e1 : ((a.length : Int) != (b.length : Int)) = true := by simpa using fun h => hl (by omega)
    ((refine wqb e1 ?_))
    ((refine wia ?_))
    ((refine wqa ?_))
    ((repeat refine AW_seq ?_); (refine wta ?_); simp (disch := omega) only [retQ, resD, oneD, rsv, rs, rsL, rsL_eq_map, List.map_map, bb, bt, zDs, zD, eqCells, simprocAttr, Try.results34])
    have : (a == b) = false := by rw [beq_eq_false_iff_ne]; intro h; exact hl (by rw [h])
    rw [this]
  have e1 : ((a.length : Int) != (b.length : Int)) = false := by simp [hl]
  ((refine wqb e1 ?_))
  ((refine wia ?_))
  ((refine wsa ?_))
  ((refine wqa ?_))
  ((repeat refine AW_seq ?_))
  refine AW_mid (fun x : Nat => ⟨[], [], x⟩) (fun _ => (a == b) = true) ?_ ?_
  · refine AW_block ?_
    refine AW_loop_w (fun x : Nat × Nat => ⟨[(0, strsD a), (1, strsD b), (12, int a.length), (13, int x.1)], [], x.2⟩) (fun x => a.length - x.1) (fun x => x.1 ≤ a.length ∧ (a == b) = (a.drop x.1 == b.drop x.1)) (0, t) ⟨Nat.zero_le _, rfl⟩ (by (simp (disch := omega) only [StLe, tmLe, hpLe_refl, hpLe, bl, bb, bt, zDs, zD, eqCells, simprocAttr])) ?_
    rintro ⟨k, t2⟩ ⟨hk, he⟩
    simp only at hk he
    by_cases hlt : k < a.length
    · have hltb : k < b.length := by omega
      obtain ⟨x, hx⟩ : ∃ y, a[k]? = some y := ⟨_, List.getElem?_eq_getElem hlt⟩
      obtain ⟨y, hy⟩ : ∃ y, b[k]? = some y := ⟨_, List.getElem?_eq_getElem hltb⟩
      have hda : a.drop k = x :: a.drop (k + 1) := by
        obtain ⟨h1, h2⟩ := List.getElem?_eq_some_iff.1 hx
        rw [List.drop_eq_getElem_cons h1, h2]
      have hdb : b.drop k = y :: b.drop (k + 1) := by
        obtain ⟨h1, h2⟩ := List.getElem?_eq_some_iff.1 hy
        rw [List.drop_eq_getElem_cons h1, h2]
      rw [hda, hdb, List.cons_beq_cons] at he
      ((refine wqb (F := _∧_) ⟨@Int.ofNat_lt, hlt⟩ ?_))
      ((refine wia ?_))
      ((refine wsa ?_))
      ((repeat refine AW_seq ?_))
      refine AW_block ?_
      ((refine wqa ?_))
      ((repeat refine AW_seq ?_); (refine AW_drawn_k tab_ok follows_mixed 0 fun KR hKR => ?_); simp only [List.replicate_succ, List.replicate_zero, List.append_nil, List.nil_append, List.cons_append, List.length_cons, List.length_nil, Nat.reduceAdd])
      ((refine wdb (F := _∧_∧_∧_) ⟨hlt, hltb, hx, hy⟩ ?_))
      ((refine awD_nil ?_); simp only [List.reverse_cons, List.reverse_nil, List.nil_append, List.cons_append]; (refine hKR _ _ (by first | rfl | kernel_rfl) ?_); (try clear hKR KR); (repeat (with_reducible first | refine q1 ?_ | refine q2 ?_ | refine q3 ?_ | refine q4 ?_ | refine q5 ?_ | refine q6 ?_ | (refine q7 ?_ ?_; (focus (with_unfolding_all rfl))))))
      by_cases hxy : x = y
      · have e2 : (x != y) = false := by simp [hxy]
        have e3 : decide (x = y) = true := by simp [hxy]
        ((refine wib e3 ?_))
        ((refine wsa ?_))
        ((refine wqa ?_))
        refine ⟨(k + 1, t2 + 1), ⟨hlt, by rw [he, hxy, beq_self_eq_true, Bool.true_and]⟩, by show a.length - (k + 1) < a.length - k; omega, ?_⟩
        (simp (disch := omega) only [StLe, tmLe, hpLe_refl, hpLe, bl, bb, bt, zDs, zD, eqCells, simprocAttr])
      · have e2 : (x != y) = true := by simpa using hxy
        have e3 : decide (x = y) = false := by simpa using hxy
        ((refine wib e3 ?_))
        ((refine wqa ?_))
        ((repeat refine AW_seq ?_); (refine wta ?_); simp (disch := omega) only [retQ, resD, oneD, rsv, rs, rsL, rsL_eq_map, List.map_map, bb, bt, zDs, zD, eqCells, simprocAttr, Try.results34])
        rw [he, beq_eq_false_iff_ne.2 hxy]; rfl
    · ((refine wqb (F := _∧_) ⟨@Int.ofNat_lt, hlt⟩ ?_))
      ((refine wia ?_))
      ((refine wxa ?_))
      refine ⟨t2, ?_, by (simp (disch := omega) only [StLe, tmLe, hpLe_refl, hpLe, bl, bb, bt, zDs, zD, eqCells, simprocAttr])⟩
      rw [he, List.drop_eq_nil_of_le (by omega), List.drop_eq_nil_of_le (by omega)]; rfl
  · rintro t2 he
    ((refine wqa ?_))
    ((repeat refine AW_seq ?_); (refine wta ?_); simp (disch := omega) only [retQ, resD, oneD, rsv, rs, rsL, rsL_eq_map, List.map_map, bb, bt, zDs, zD, eqCells, simprocAttr, Try.results34])
    rw [he]
def hA16 : ByteArray := ⟨#[97]⟩
def hP16 : ByteArray := ⟨#[112]⟩
def hQ16 : ByteArray := ⟨#[113]⟩
theorem of16 (n : Int) : PRet Try.prog 26 [int n] (frD (n, 1)) := by
  refine PRet.intro 1 fun t => ACall.enter tab_ok Try.func26 rfl rfl Try.ntmps26 (by simp) ?_
  simp only [enterTM]
  ((refine gga0 ?_))
  ((repeat refine AW_seq ?_); (refine wta ?_); simp (disch := omega) only [retQ, resD, oneD, rsv, rs, rsL, rsL_eq_map, List.map_map, bb, bt, zDs, zD, eqCells, simprocAttr, Try.results26])
theorem end16 (b : ByteArray) (n : Int) : PRet Try.prog 88 [str b, int n] (.agg [str b, int n, int 1, int 1]) := by
  refine PRet.intro 1 fun t => ACall.enter tab_ok Try.func88 rfl rfl Try.ntmps88 (by simp) ?_
  simp only [enterTM]
  have hw := of16 1
  ((refine gga1 hw ?_))
  ((repeat refine AW_seq ?_); (refine wta ?_); simp (disch := omega) only [retQ, resD, oneD, rsv, rs, rsL, rsL_eq_map, List.map_map, bb, bt, zDs, zD, eqCells, simprocAttr, Try.results88])
def ex16 : Nat → Sy
  | 0 => ⟨[⟨hA16, 5⟩, ⟨hB, 5⟩], [⟨hP16, [⟨hA16, 1, 1, 1⟩, ⟨hE, 0, 1, 1⟩], false⟩, ⟨hQ16, [⟨hB, 1, 1, 1⟩, ⟨hE, 0, 1, 1⟩], false⟩, ⟨hR, [⟨hA16, 1, 1, 1⟩, ⟨hE, 0, 1, 1⟩, ⟨hB, 1, 1, 1⟩], false⟩]⟩
  | _ => ⟨[⟨hA16, 5⟩, ⟨hB, 5⟩], [⟨hR, [⟨hA16, 1, 1, 1⟩, ⟨hE, 0, 1, 1⟩, ⟨hB, 1, 1, 1⟩], false⟩]⟩
theorem example16_0 : PRet Try.prog 51 [int 0] (syD (ex16 0)) := by
  refine PRet.intro 3 fun t => ACall.enter tab_ok Try.func51 rfl rfl Try.ntmps51 (by simp) ?_
  simp only [enterTM]
  have w1 := end16 ⟨#[97]⟩ 1
  have w2 := end16 ⟨#[]⟩ 0
  have w3 := end16 ⟨#[98]⟩ 1
  ((refine gga3 w1 w2 w3 ?_))
  ((repeat refine AW_seq ?_); (refine wta ?_); simp (disch := omega) only [retQ, resD, oneD, rsv, rs, rsL, rsL_eq_map, List.map_map, bb, bt, zDs, zD, eqCells, simprocAttr, Try.results51])
  rfl
theorem example16_2 : PRet Try.prog 51 [int 2] (syD (ex16 2)) := by
  refine PRet.intro 3 fun t => ACall.enter tab_ok Try.func51 rfl rfl Try.ntmps51 (by simp) ?_
  simp only [enterTM]
  have w1 := end16 ⟨#[97]⟩ 1
  have w2 := end16 ⟨#[]⟩ 0
  have w3 := end16 ⟨#[98]⟩ 1
  ((refine gga3 w1 w2 w3 ?_))
  ((repeat refine AW_seq ?_); (refine wta ?_); simp (disch := omega) only [retQ, resD, oneD, rsv, rs, rsL, rsL_eq_map, List.map_map, bb, bt, zDs, zD, eqCells, simprocAttr, Try.results51])
  rfl
theorem ex16_fits (k : Nat) : Fits (ex16 k) := by
  cases k with
  | zero => exact small_fits (by decide +kernel)
  | succ k => exact small_fits (by show smallS (ex16 1) = true; decide +kernel)
theorem ex16_jam : jamP (ex16 0) = ([hA16, hB], 0) := by decide +kernel
theorem ex16_wit : witP (ex16 0) hR = ([(-1, 1), (-1, 1), (1, 1)], 0) := by decide +kernel
theorem ex16_modes : modesP (ex16 2) = ([[(-1, 1), (1, 1)]], 0) := by decide +kernel
set_option maxHeartbeats 2000000 in
theorem awake16 : PRet Try.prog 19 [] (bool true) := by
  refine PRet.intro 1 fun t => ACall.enter tab_ok Try.func19 rfl rfl Try.ntmps19 (by simp) ?_
  simp only [enterTM]
  have hJ : PRet Try.prog 32 [syD (ex16 0)] (.tup [.sl 1 [str hA16, str hB] false, int 0]) := by
    have := jammed_prog (ex16 0) (ex16_fits 0)
    rw [ex16_jam] at this
    exact this
  have hW : PRet Try.prog 24 [syD (ex16 0), .v (.string ⟨#[114]⟩)] (.tup [frs [(-1, 1), (-1, 1), (1, 1)], int 0]) := by
    have := witness_prog (ex16 0) (ex16_fits 0) hR
    rw [ex16_wit] at this
    exact this
  have hF : PRet Try.prog 31 [syD (ex16 2)] (.tup [int 1, int 0]) := by
    have := freedom_prog (ex16 2) (ex16_fits 2)
    rw [ex16_modes] at this
    exact this
  have hM : PRet Try.prog 52 [syD (ex16 2)] (.tup [.sl 1 [frs [(-1, 1), (1, 1)]] false, int 0]) := by
    have := modes_prog (ex16 2) (ex16_fits 2)
    rw [ex16_modes] at this
    exact this
  have w1 := of16 (-1)
  have w2 := of16 1
  have hS : PRet Try.prog 34 [.sl 1 [str hA16, str hB] false, .sl 1 [.v (.string ⟨#[97]⟩), .v (.string ⟨#[98]⟩)] false] (bool true) := equalStrs [hA16, hB] [hA16, hB] (by simp) (by simp)
  have hE3 : PRet Try.prog 16 [frs [(-1, 1), (-1, 1), (1, 1)], .sl 2 [int (-1), int 1, int (-1), int 1, int 1, int 1] false] (bool true) := equalFr [(-1, 1), (-1, 1), (1, 1)] [(-1, 1), (-1, 1), (1, 1)] (by simp) (by simp)
  have hE2 : PRet Try.prog 16 [frs [(-1, 1), (1, 1)], .sl 2 [int (-1), int 1, int 1, int 1] false] (bool true) := equalFr [(-1, 1), (1, 1)] [(-1, 1), (1, 1)] (by simp) (by simp)
  ((refine gga6_MQG example16_0 example16_2 hJ hW hF hM ?_))
  ((repeat refine AW_seq ?_); (refine gdza5_MQG w1 w2 hS hE3 hE2 ?_))
  ((repeat refine AW_seq ?_); (refine wta ?_); simp (disch := omega) only [retQ, resD, oneD, rsv, rs, rsL, rsL_eq_map, List.map_map, bb, bt, zDs, zD, eqCells, simprocAttr, Try.results19])
def longM (s : Sy) (nm : ByteArray) : Bool := !smallS s || decide ((60 : Int) < nm.size)
theorem long16 (s : Sy) (nm : ByteArray) : PRet Try.prog 20 [syD s, str nm] (bool (longM s nm)) := by
  refine PRet.intro 1 fun t => ACall.enter tab_ok Try.func20 rfl rfl Try.ntmps20 (by simp) ?_
  simp only [enterTM]
  have hS := small_ref s
  cases hs : smallS s
  · rw [hs] at hS
    have e : longM s nm = true := by simp [longM, hs]
    ((refine gga1 hS ?_))
    ((repeat refine AW_seq ?_); (refine wta ?_); simp (disch := omega) only [retQ, resD, oneD, rsv, rs, rsL, rsL_eq_map, List.map_map, bb, bt, zDs, zD, eqCells, simprocAttr, Try.results20, e])
  · rw [hs] at hS
    have e : longM s nm = decide ((60 : Int) < nm.size) := by simp [longM, hs]
    ((refine gga1 hS ?_))
    ((repeat refine AW_seq ?_); (refine wta ?_); simp (disch := omega) only [retQ, resD, oneD, rsv, rs, rsL, rsL_eq_map, List.map_map, bb, bt, zDs, zD, eqCells, simprocAttr, Try.results20, e])
end Go.Proofs.Ytjmmenfbcbagoaa.T
end

section
namespace Go.Proofs.Ytjmmenfbcbagoaa.T
open Go Go.RowKit Lin
set_option linter.unusedSimpArgs false

/-! Chapter 16: what its laws' own functions return. -/
def idxS (x : ByteArray) : List ByteArray → Nat → Int
  | [], _ => -1
  | y :: r, k => if x = y then k else idxS x r (k + 1)
theorem idxS_mem (x : ByteArray) : ∀ (l : List ByteArray) (k : Nat), decide (0 ≤ idxS x l k) = l.contains x
  | [], k => by simp [idxS]
  | y :: r, k => by
    have := idxS_mem x r (k + 1)
    rw [List.contains_cons, ← this]
    by_cases h : x = y
    · subst h; simp [idxS]
    · simp [idxS, h]
theorem indexStrs (l : List ByteArray) (x : ByteArray) (hl : l.length ≤ 1000000) : PRet Try.prog 66 [strsD l, str x] (int (idxS x l 0)) := by
  refine PRet.intro 1 fun t => ACall.enter tab_ok Try.func66 rfl rfl Try.ntmps66 (by simp) ?_
  simp only [enterTM]
  ((refine wqa ?_))
  ((refine wqa ?_))
  ((repeat refine AW_seq ?_))
  refine AW_block ?_
  refine AW_loop_w (fun k : Nat => ⟨[(0, strsD l), (1, str x), (7, int l.length), (8, int k)], [], t⟩) (fun k => l.length - k) (fun k => k ≤ l.length ∧ idxS x l 0 = idxS x (l.drop k) k) 0 ⟨Nat.zero_le _, rfl⟩ (by (simp (disch := omega) only [StLe, tmLe, hpLe_refl, hpLe, bl, bb, bt, zDs, zD, eqCells, simprocAttr])) fun k ⟨hk, hi⟩ => ?_
  by_cases hlt : k < l.length
  · obtain ⟨y, hy⟩ : ∃ y, l[k]? = some y := ⟨_, List.getElem?_eq_getElem hlt⟩
    have hd : l.drop k = y :: l.drop (k + 1) := by
      obtain ⟨h1, h2⟩ := List.getElem?_eq_some_iff.1 hy
      rw [List.drop_eq_getElem_cons h1, h2]
    rw [hd] at hi
    ((refine wqb (F := _∧_) ⟨@Int.ofNat_lt, hlt⟩ ?_))
    ((refine wia ?_))
    ((refine wsa ?_))
    ((repeat refine AW_seq ?_))
    refine AW_block ?_
    ((refine wqa ?_))
    by_cases hxy : x = y
    · have e1 : (x == y) = true := by simp [hxy]
      have e2 : decide (y = x) = true := by simp [hxy]
      have e3 : decide (x = y) = true := by simp [hxy]
      ((refine wqb (F := _∧_∧_∧_∧_) ⟨hlt, hy, e1, e2, e3⟩ ?_))
      ((refine wia ?_))
      ((refine wqa ?_))
      ((repeat refine AW_seq ?_); (refine wta ?_); simp (disch := omega) only [retQ, resD, oneD, rsv, rs, rsL, rsL_eq_map, List.map_map, bb, bt, zDs, zD, eqCells, simprocAttr, Try.results66, hi])
      simp only [idxS, hxy, if_true]
    · have e1 : (x == y) = false := by simpa using hxy
      have e2 : decide (y = x) = false := by simpa using Ne.symm hxy
      have e3 : decide (x = y) = false := by simpa using hxy
      ((refine wqb (F := _∧_∧_∧_∧_) ⟨hlt, hy, e1, e2, e3⟩ ?_))
      ((refine wia ?_))
      ((refine wsa ?_))
      ((refine wqa ?_))
      refine ⟨k + 1, ⟨hlt, by rw [hi]; simp only [idxS]; rw [if_neg hxy]⟩, by omega, ?_⟩
      (simp (disch := omega) only [StLe, tmLe, hpLe_refl, hpLe, bl, bb, bt, zDs, zD, eqCells, simprocAttr])
  · ((refine wqb (F := _∧_) ⟨@Int.ofNat_lt, hlt⟩ ?_))
    ((refine wia ?_))
    ((refine wxa ?_))
    ((refine wqa ?_))
    ((repeat refine AW_seq ?_); (refine wta ?_); simp (disch := omega) only [retQ, resD, oneD, rsv, rs, rsL, rsL_eq_map, List.map_map, bb, bt, zDs, zD, eqCells, simprocAttr, Try.results66, hi])
    rw [List.drop_eq_nil_of_le (by omega)]; rfl
theorem containsStrs (l : List ByteArray) (x : ByteArray) (hl : l.length ≤ 1000000) : PRet Try.prog 25 [strsD l, str x] (bool (l.contains x)) := by
  refine PRet.intro 1 fun t => ACall.enter tab_ok Try.func25 rfl rfl Try.ntmps25 (by simp) ?_
  simp only [enterTM]
  ((refine wqa ?_))
  ((repeat refine AW_seq ?_); (refine AW_region_k tab_ok fun KR hKR => ?_)); ((refine wra ?_))
  ((refine wka1 (indexStrs l x hl) ?_))
  ((refine wra ?_)); ((refine wea ?_); (try clear hKR KR))
  ((repeat refine AW_seq ?_); (refine wta ?_); simp (disch := omega) only [retQ, resD, oneD, rsv, rs, rsL, rsL_eq_map, List.map_map, bb, bt, zDs, zD, eqCells, simprocAttr, Try.results25])
  rw [← idxS_mem x l 0]
set_option maxHeartbeats 1000000 in
theorem refAddB (a b : Int × Int) (ha : 0 ≤ a.2 ∧ a.2 ≤ 1152921504606846976 ∧ -1152921504606846976 ≤ a.1 ∧ a.1 ≤ 1152921504606846976) (hb : 0 ≤ b.2 ∧ b.2 ≤ 1152921504606846976 ∧ -1152921504606846976 ≤ b.1 ∧ b.1 ≤ 1152921504606846976) : PRet Try.prog 68 [frD a, frD b] (fe (addR a b)) := by
  obtain ⟨a1, a2, a3, a4⟩ := ha
  obtain ⟨b1, b2, b3, b4⟩ := hb
  obtain ⟨n, d⟩ := a
  obtain ⟨u, v⟩ := b
  simp only at *
  have s1 := refSize n (by omega)
  have s2 := refSize u (by omega)
  have s3 := refSize d (by omega)
  have s4 := refSize v (by omega)
  have m1 := refMul n.natAbs v.natAbs (by omega)
  have m2 := refMul u.natAbs d.natAbs (by omega)
  have m3 := refMul d.natAbs v.natAbs (by omega)
  have c1 : n.natAbs * v.natAbs ≤ 1152921504606846976 * 1152921504606846976 := Nat.mul_le_mul (by omega) (by omega)
  have c2 : u.natAbs * d.natAbs ≤ 1152921504606846976 * 1152921504606846976 := Nat.mul_le_mul (by omega) (by omega)
  have c3 : d.natAbs * v.natAbs ≤ 1152921504606846976 * 1152921504606846976 := Nat.mul_le_mul (by omega) (by omega)
  unfold addR
  simp only
  generalize n.natAbs * v.natAbs = x at *
  generalize u.natAbs * d.natAbs = y at *
  generalize d.natAbs * v.natAbs = z at *
  refine PRet.intro 2 fun t => ACall.enter tab_ok Try.func68 rfl rfl Try.ntmps68 (by simp) ?_
  simp only [enterTM]
  ((refine gga0 ?_))
  ((repeat refine AW_seq ?_); (refine gdoa3 s1 s4 m1 ?_))
  ((repeat refine AW_seq ?_); (refine gdoa3 s2 s3 m2 ?_))
  ((repeat refine AW_seq ?_); (refine gdoa3 s3 s4 m3 ?_))
  by_cases hsg : decide (n < 0) = decide (u < 0)
  · have e : (decide (n < 0) == decide (u < 0)) = true := by rw [hsg]; simp
    rw [if_pos hsg]
    have hp := refPlus x y (by omega)
    have hm := made (x + y) (decide (n < 0)) z (by omega) (by omega)
    generalize madeP (x + y) (decide (n < 0)) z = r at *
    ((refine ggb0 e ?_))
    ((repeat refine AW_seq ?_); (refine gdza2 hp hm ?_))
    ((repeat refine AW_seq ?_); (refine wta ?_); simp (disch := omega) only [retQ, resD, oneD, rsv, rs, rsL, rsL_eq_map, List.map_map, bb, bt, zDs, zD, eqCells, simprocAttr, Try.results68])
  · have e : (decide (n < 0) == decide (u < 0)) = false := by simpa using hsg
    rw [if_neg hsg]
    have hl := refLess x y (by omega)
    by_cases hlt : x < y
    · rw [decide_eq_true hlt] at hl
      rw [if_pos hlt]
      have hp := refMinus y x (by omega)
      have hm := made (y - x) (decide (u < 0)) z (by omega) (by omega)
      generalize madeP (y - x) (decide (u < 0)) z = r at *
      ((refine ggb1 e hl ?_))
      ((repeat refine AW_seq ?_); (refine gdza2 hp hm ?_))
      ((repeat refine AW_seq ?_); (refine wta ?_); simp (disch := omega) only [retQ, resD, oneD, rsv, rs, rsL, rsL_eq_map, List.map_map, bb, bt, zDs, zD, eqCells, simprocAttr, Try.results68])
    · rw [decide_eq_false hlt] at hl
      rw [if_neg hlt]
      have hp := refMinus x y (by omega)
      have hm := made (x - y) (decide (n < 0)) z (by omega) (by omega)
      generalize madeP (x - y) (decide (n < 0)) z = r at *
      ((refine ggb1 e hl ?_))
      ((repeat refine AW_seq ?_); (refine gdza2 hp hm ?_))
      ((repeat refine AW_seq ?_); (refine wta ?_); simp (disch := omega) only [retQ, resD, oneD, rsv, rs, rsL, rsL_eq_map, List.map_map, bb, bt, zDs, zD, eqCells, simprocAttr, Try.results68])
def prK (l : List Int) (x : List (Int × Int)) : Nat → (Int × Int) × Bool
  | 0 => ((0, 1), true)
  | k + 1 => if (prK l x k).2 = true then
      (if (mulR (x.getD k (0, 0)) (at_ l k, 1)).2 = 0 ∧ (addR (prK l x k).1 (mulR (x.getD k (0, 0)) (at_ l k, 1)).1).2 = 0 then ((addR (prK l x k).1 (mulR (x.getD k (0, 0)) (at_ l k, 1)).1).1, true) else ((prK l x k).1, false))
    else prK l x k
theorem prK_stuck {l : List Int} {x : List (Int × Int)} {k : Nat} (h : (prK l x k).2 = false) : ∀ n, prK l x (k + n) = prK l x k
  | 0 => rfl
  | n + 1 => by
    have ih := prK_stuck h n
    show prK l x (k + n + 1) = _
    simp only [prK, ih, h, Bool.false_eq_true, if_false]
end Go.Proofs.Ytjmmenfbcbagoaa.T
end

section
namespace Go.Proofs.Ytjmmenfbcbagoaa.T
open Go Go.RowKit Lin
set_option linter.unusedSimpArgs false

/-! Chapter 16: sums of numbers times fractions. -/
theorem madeP_bound (n d : Nat) (neg : Bool) : 0 ≤ (madeP n neg d).1.2 ∧ (madeP n neg d).1.2 ≤ 1152921504606846976 ∧ -1152921504606846976 ≤ (madeP n neg d).1.1 ∧ (madeP n neg d).1.1 ≤ 1152921504606846976 := by
  unfold madeP
  split
  · simp
  · unfold signP
    generalize n / Nat.gcd n d = a
    generalize d / Nat.gcd n d = b
    split
    · simp
    · cases neg
      · simp only [Bool.false_eq_true, if_false]; omega
      · simp only [if_true]; omega
theorem prK_val {l : List Int} {x : List (Int × Int)} {Z : Nat → Int} {D : Int} (hD : D ≠ 0) (hX : ∀ (k : Nat) (f : Int × Int), x[k]? = some f → Val f (Z k) D) (hb : ∀ n ∈ l, -1000 ≤ n ∧ n ≤ 1000) : ∀ k, k ≤ l.length → k ≤ x.length → (prK l x k).2 = true → Val (prK l x k).1 (sumN (fun j => Lin.at_ l j * Z j) k) D
  | 0, _, _, _ => ⟨by show vfrac 0 1 = true; decide, hD, by simp [prK, sumN]⟩
  | k + 1, h1, h2, h => by
    obtain ⟨f, hf⟩ : ∃ y, x[k]? = some y := ⟨_, List.getElem?_eq_getElem (by omega)⟩
    obtain ⟨n, hn⟩ : ∃ y, l[k]? = some y := ⟨_, List.getElem?_eq_getElem (by omega)⟩
    have hnb := hb n (List.mem_of_getElem? hn)
    have ef : x.getD k (0, 0) = f := by rw [List.getD_eq_getElem?_getD, hf]; rfl
    have en : Lin.at_ l k = n := by simp [Lin.at_, hn]
    simp only [prK, ef, en] at h ⊢
    cases hp : (prK l x k).2
    · rw [hp] at h; simp [hp] at h
    rw [hp] at h
    simp only [if_true] at h ⊢
    by_cases hc : (mulR f (n, 1)).2 = 0 ∧ (addR (prK l x k).1 (mulR f (n, 1)).1).2 = 0
    · rw [if_pos hc]
      have v1 := prK_val hD hX hb k (by omega) (by omega) hp
      have v2 := (hX k f hf).mul (Val.one (n := n) (by omega)) hc.1
      have v3 := v1.add v2 hc.2
      refine v3.to hD ?_
      simp only [sumN, en]
      grind
    · rw [if_neg hc] at h
      simp at h
set_option maxHeartbeats 2000000 in
theorem product16 (l : List Int) (x : List (Int × Int)) {Z : Nat → Int} {D : Int} (hD : D ≠ 0) (hX : ∀ (k : Nat) (f : Int × Int), x[k]? = some f → Val f (Z k) D) (hb : ∀ n ∈ l, -1000 ≤ n ∧ n ≤ 1000) (hlx : l.length ≤ x.length) (hl : l.length ≤ 1000) : PRet Try.prog 27 [ints l, frs x] (.tup [frD (prK l x l.length).1, bool (prK l x l.length).2]) := by
  refine PRet.intro 1 fun t => ACall.enter tab_ok Try.func27 rfl rfl Try.ntmps27 (by simp) ?_
  simp only [enterTM]
  have h0 := of16 0
  ((refine gga1 h0 ?_))
  ((repeat refine AW_seq ?_))
  refine AW_mid (fun x' : Nat => ⟨[(4, .ptr 0 (t + 1) 0), (6, .ptr 1 (t + 1 + 1) 0)], [some ⟨42, t + 1, [int 0, int 0]⟩, some ⟨42, t + 1 + 1, [int (prK l x l.length).1.1, int (prK l x l.length).1.2]⟩], x'⟩) (fun _ => (prK l x l.length).2 = true) ?_ ?_
  · refine AW_block ?_
    refine AW_loop_w (fun y : Nat × Nat => ⟨[(1, frs x), (4, .ptr 0 (t + 1) 0), (6, .ptr 1 (t + 1 + 1) 0), (14, ints l), (15, int l.length), (16, int y.1)], [some ⟨42, t + 1, [int 0, int 0]⟩, some ⟨42, t + 1 + 1, [int (prK l x y.1).1.1, int (prK l x y.1).1.2]⟩], y.2⟩) (fun y => l.length - y.1) (fun y => y.1 ≤ l.length ∧ (prK l x y.1).2 = true) (0, t + 1 + 1) ⟨Nat.zero_le _, rfl⟩ (by (simp (disch := omega) only [StLe, tmLe, hpLe_refl, hpLe, bl, bb, bt, zDs, zD, eqCells, simprocAttr, prK])) ?_
    rintro ⟨k, tt⟩ ⟨hk, hp⟩
    simp only at hk hp
    by_cases hlt : k < l.length
    · obtain ⟨f, hf⟩ : ∃ y, x[k]? = some y := ⟨_, List.getElem?_eq_getElem (by omega)⟩
      obtain ⟨n, hn⟩ : ∃ y, l[k]? = some y := ⟨_, List.getElem?_eq_getElem (by omega)⟩
      have hnb := hb n (List.mem_of_getElem? hn)
      have ef : x.getD k (0, 0) = f := by rw [List.getD_eq_getElem?_getD, hf]; rfl
      have en : Lin.at_ l k = n := by simp [Lin.at_, hn]
      have hV := prK_val hD hX hb k hk (by omega) hp
      have hst : prK l x (k + 1) = if (mulR f (n, 1)).2 = 0 ∧ (addR (prK l x k).1 (mulR f (n, 1)).1).2 = 0 then ((addR (prK l x k).1 (mulR f (n, 1)).1).1, true) else ((prK l x k).1, false) := by
        simp only [prK, ef, en, hp, if_true]
      have hra := frC_read x k f hf
      have hxd := frC_div x
      have hkx : k < x.length := by omega
      have hO := of16 n
      have hT := refTimes f (n, 1) (hX k f hf).v (Val.one (n := n) (by omega)).v
      have hmb : 0 ≤ (mulR f (n, 1)).1.2 ∧ (mulR f (n, 1)).1.2 ≤ 1152921504606846976 ∧ -1152921504606846976 ≤ (mulR f (n, 1)).1.1 ∧ (mulR f (n, 1)).1.1 ≤ 1152921504606846976 := madeP_bound _ _ _
      obtain ⟨v1, v2, v3, v4, _⟩ := fr_bounds hV.v
      have hA := refAddB (prK l x k).1 (mulR f (n, 1)).1 ⟨by omega, v2, v3, v4⟩ hmb
      have hstk := fun h : (prK l x (k + 1)).2 = false => prK_stuck (l := l) (x := x) h (l.length - (k + 1))
      rw [show k + 1 + (l.length - (k + 1)) = l.length by omega] at hstk
      generalize addR (prK l x k).1 (mulR f (n, 1)).1 = B at *
      generalize mulR f (n, 1) = A at *
      generalize hS : prK l x k = S at *
      by_cases e1 : A.2 = 0
      · have e1' : (A.2 != 0) = false := by simp [e1]
        by_cases e2 : B.2 = 0
        · have e2' : (B.2 != 0) = false := by simp [e2]
          rw [if_pos ⟨e1, e2⟩] at hst
          ((refine ggb0 (F := _∧_) ⟨@Int.ofNat_lt, hlt⟩ ?_))
          ((repeat refine AW_seq ?_))
          refine AW_block ?_
          ((refine ggb0 (F := _∧_) ⟨hlt, hn⟩ ?_))
          ((repeat refine AW_seq ?_); (refine gdob2 (F := _∧_∧_) ⟨hxd, hkx, hra⟩ hO hT ?_))
          ((refine ggb1 (F := _∧_) ⟨e1', e2'⟩ hA ?_))
          refine ⟨(k + 1, tt + 1 + 1), ⟨hlt, by rw [hst]⟩, by show l.length - (k + 1) < l.length - k; omega, ?_⟩
          simp only [hst]
          (simp (disch := omega) only [StLe, tmLe, hpLe_refl, hpLe, bl, bb, bt, zDs, zD, eqCells, simprocAttr])
        · have e2' : (B.2 != 0) = true := by simpa using e2
          rw [if_neg (fun h => e2 h.2)] at hst
          have hend := hstk (by rw [hst])
          rw [hst] at hend
          ((refine ggb0 (F := _∧_) ⟨@Int.ofNat_lt, hlt⟩ ?_))
          ((repeat refine AW_seq ?_))
          refine AW_block ?_
          ((refine ggb0 (F := _∧_) ⟨hlt, hn⟩ ?_))
          ((repeat refine AW_seq ?_); (refine gdob2 (F := _∧_∧_) ⟨hxd, hkx, hra⟩ hO hT ?_))
          ((refine ggb1 (F := _∧_) ⟨e1', e2'⟩ hA ?_))
          ((repeat refine AW_seq ?_); (refine wta ?_); simp (disch := omega) only [retQ, resD, oneD, rsv, rs, rsL, rsL_eq_map, List.map_map, bb, bt, zDs, zD, eqCells, simprocAttr, Try.results27, hend])
      · have e1' : (A.2 != 0) = true := by simpa using e1
        rw [if_neg (fun h => e1 h.1)] at hst
        have hend := hstk (by rw [hst])
        rw [hst] at hend
        ((refine ggb0 (F := _∧_) ⟨@Int.ofNat_lt, hlt⟩ ?_))
        ((repeat refine AW_seq ?_))
        refine AW_block ?_
        ((refine ggb0 (F := _∧_) ⟨hlt, hn⟩ ?_))
        ((repeat refine AW_seq ?_); (refine gdob2 (F := _∧_∧_) ⟨hxd, hkx, hra⟩ hO hT ?_))
        ((refine ggb1 e1' hA ?_))
        ((repeat refine AW_seq ?_); (refine wta ?_); simp (disch := omega) only [retQ, resD, oneD, rsv, rs, rsL, rsL_eq_map, List.map_map, bb, bt, zDs, zD, eqCells, simprocAttr, Try.results27, hend])
    · have hke : k = l.length := by omega
      subst hke
      ((refine wqb @Int.lt_irrefl ?_))
      ((refine wia ?_))
      ((refine wxa ?_))
      exact ⟨tt, hp, by (simp (disch := omega) only [StLe, tmLe, hpLe_refl, hpLe, bl, bb, bt, zDs, zD, eqCells, simprocAttr])⟩
  rintro t2 hp
  ((refine gga0 ?_))
  ((repeat refine AW_seq ?_); (refine wta ?_); simp (disch := omega) only [retQ, resD, oneD, rsv, rs, rsL, rsL_eq_map, List.map_map, bb, bt, zDs, zD, eqCells, simprocAttr, Try.results27, hp])
/-! What the modes are (plain). -/
theorem modes_val {m : List (List Int)} (hv : validP m = true) {v : List (Int × Int)} (hmem : v ∈ (nullP m).1) : (v.any fun x => x.1 != 0) = true ∧ ∃ Z D, D ≠ 0 ∧ Ker m Z ∧ ∀ (k : Nat) (f : Int × Int), v[k]? = some f → Val f (Z k) D := by
  unfold nullP at hmem
  rw [if_pos hv] at hmem
  simp only at hmem
  obtain ⟨h1, h2, h3⟩ := validP_iff.1 hv
  have hs := valid_small hv
  have iv := elim_inv (ups_mover m (wid m)) hs.lens (wid m) (Nat.le_refl _)
  rw [← elim_by] at iv
  have in2 := iv.small2 hs (Nat.le_refl _)
  have hd2 := iv.den_small2 hs (Nat.le_refl _)
  generalize elim m (wid m) = f at *
  obtain ⟨c, hcn, hc, rfl⟩ := nulls_mem f (wid m) (wid m) v hmem
  have ok : ∀ k c, k < f.pivots.length → c < wid m → (makeP (-(Lin.at_ (Lin.row f.rows k) c)) f.den).2 = 0 := fun k c hk hc => by
    have := in2 k c hk hc
    exact makeP_ok (by omega) hd2 iv.den0
  obtain ⟨q1', q2'⟩ := nvec_q iv ok hcn f.pivots.length (Nat.le_refl _)
  have ho := nvec_one iv hcn hc f.pivots.length (Nat.le_refl _)
  refine ⟨List.any_eq_true.2 ⟨_, List.mem_of_getElem? ho, by decide⟩, nX f c f.pivots.length, f.den, iv.den0, fun r hr => ?_, fun k p hp => ⟨allV_at q1' hp, iv.den0, q2' k p hp⟩⟩
  rw [nX_sum iv hcn hc (Lin.at_ r) f.pivots.length (Nat.le_refl _), van_sum iv hcn (iv.van_lt hcn) hr]
  omega
theorem modes_count {m : List (List Int)} (hv : validP m = true) : (nullP m).1.length + rankP m (wid m) = wid m ∧ (nullP m).2 = 0 := by
  have hs := valid_small hv
  have iv := elim_inv (ups_mover m (wid m)) hs.lens (wid m) (Nat.le_refl _)
  rw [← elim_by] at iv
  unfold nullP
  rw [if_pos hv]
  exact ⟨nulls_rank iv, rfl⟩
theorem jamN_mem {s : Sy} (ok : OkS s) {L : List (List (Int × Int))} {k : Nat} {b : Bk} (hb : s.bs[k]? = some b) : (jamN s.bs L s.bs.length).contains b.nm = !L.any (movB k) := by
  have hk := (List.getElem?_eq_some_iff.1 hb).1
  have eb : (s.bs.getD k ⟨ByteArray.empty, 0⟩) = b := by rw [List.getD_eq_getElem?_getD, hb]; rfl
  rw [Bool.eq_iff_iff, List.contains_iff_mem]
  unfold jamN
  rw [List.mem_map]
  constructor
  · rintro ⟨i, hi, e⟩
    rw [List.mem_filter, List.mem_range] at hi
    obtain ⟨a, ha⟩ : ∃ y, s.bs[i]? = some y := ⟨_, List.getElem?_eq_getElem hi.1⟩
    have ea : (s.bs.getD i ⟨ByteArray.empty, 0⟩) = a := by rw [List.getD_eq_getElem?_getD, ha]; rfl
    rw [ea] at e
    have := ok.inj i k a b ha hb e
    subst this
    exact hi.2
  · intro h
    exact ⟨k, List.mem_filter.2 ⟨List.mem_range.2 hk, h⟩, by rw [eb]⟩
/-- What the law asks of the modes. -/
theorem modes_law {s : Sy} (hv : validS s = true) : (modesP s).2 = 0 ∧ (fixA s ≠ [] → ((modesP s).1.length : Int) = (s.bs.length : Int) - (rankP (rowsF s (fixA s)) (wid (rowsF s (fixA s))) : Int)) ∧ (fixA s = [] → (modesP s).1.length = s.bs.length) ∧ ∀ v ∈ (modesP s).1, (v.any fun x => x.1 != 0) = true ∧ ∃ (Z : Nat → Int) (D : Int), D ≠ 0 ∧ (∀ r ∈ rowsF s (fixA s), sumN (fun k => Lin.at_ r k * Z k) r.length = 0) ∧ ∀ (k : Nat) (f : Int × Int), v[k]? = some f → Val f (Z k) D := by
  have ok := validS_ok hv
  have hr6 := ok.r6
  have hfl := fixP_len s.rs (-1) s.rs.length
  refine ⟨(modesP_facts s).2.2.2 hv, fun h0 => ?_, fun h0 => ?_, fun v hm => ?_⟩
  · obtain ⟨rv, rw', rm⟩ := rowsF_valid ok h0 (by unfold fixA; omega) (fun i hi => fixP_lt hi)
    have e : modesP s = nullP (rowsF s (fixA s)) := by simp [modesP, hv, h0]
    rw [e]
    have := (modes_count rv).1
    omega
  · simp [modesP, hv, h0, unitM]
  · by_cases h0 : fixA s = []
    · have e : modesP s = (unitM s.bs.length, 0) := by simp [modesP, hv, h0]
      rw [e] at hm
      obtain ⟨i, hi, rfl⟩ := List.mem_map.1 hm
      rw [List.mem_range] at hi
      refine ⟨List.any_eq_true.2 ⟨(1, 1), ?_, by decide⟩, fun k => if k = i then 1 else 0, 1, by decide, fun r hr => ?_, fun k f hf => ?_⟩
      · unfold unitR
        exact List.mem_map.2 ⟨i, List.mem_range.2 hi, by simp⟩
      · rw [h0] at hr
        simp [rowsF] at hr
      · unfold unitR at hf
        rw [List.getElem?_map] at hf
        by_cases hk : k < s.bs.length
        · rw [List.getElem?_range hk] at hf
          simp only [Option.map_some, Option.some.injEq] at hf
          subst hf
          by_cases e : k = i
          · simp only [e, if_true]; exact Val.one (by decide)
          · simp only [e, if_false]; exact Val.one (by decide)
        · rw [List.getElem?_eq_none (by simp; omega)] at hf
          simp at hf
    · obtain ⟨rv, rw', rm⟩ := rowsF_valid ok h0 (by unfold fixA; omega) (fun i hi => fixP_lt hi)
      have e : modesP s = nullP (rowsF s (fixA s)) := by simp [modesP, hv, h0]
      rw [e] at hm
      obtain ⟨a, Z, D, hD, hK, hX⟩ := modes_val rv hm
      refine ⟨a, Z, D, hD, fun r hr => ?_, hX⟩
      rw [(rm r hr).2, ← rw']
      exact hK r hr
end Go.Proofs.Ytjmmenfbcbagoaa.T
end
