import Derived.Test.YtalhegbjlfkipaaTB
set_option linter.all false
namespace Go.Proofs.Ytalhegbjlfkipaa.T
open Go Go.RowKit
set_option linter.unusedSimpArgs false

theorem isNan (a : Int) : PRet Try.prog 64 [int a] (bool false) := by
  refine PRet.intro 1 fun t => ACall.enter tab_ok Try.func64 rfl rfl Try.ntmps64 (by simp) ?_
  simp only [enterTM]
  ((refine wqa ?_))
  ((repeat refine AW_seq ?_); (refine AW_region_k tab_ok fun KR hKR => ?_); (repeat ((first | refine awOps_n rfl fun KK hKK => ?_ | refine awOps_g rfl rfl fun KK hKK => ?_ | refine awOps_gc rfl fun KK hKK => ?_); simp (disch := omega) only [bb, bt, zDs, zD, eqCells, simprocAttr, bne_self_eq_false]; refine hKK _ ?_; clear hKK KK)); (refine awOps_nil ?_); (refine hKR _ ?_); (try clear hKR KR); (repeat (with_reducible first | refine q1 ?_ | refine q2 ?_ | refine q3 ?_ | refine q4 ?_ | refine q5 ?_ | refine q6 ?_ | (refine q7 ?_ ?_; (focus (with_unfolding_all rfl))))))
  ((repeat refine AW_seq ?_); (refine wta ?_); simp (disch := omega) only [retQ, resD, oneD, rsv, rs, rsL, rsL_eq_map, List.map_map, bb, bt, zDs, zD, eqCells, simprocAttr, Try.results64])
theorem lessInt (a b : Int) : PRet Try.prog 57 [int a, int b] (bool (decide (a < b))) := by
  refine PRet.intro 1 fun t => ACall.enter tab_ok Try.func57 rfl rfl Try.ntmps57 (by simp) ?_
  simp only [enterTM]
  ((refine wqa ?_))
  ((repeat refine AW_seq ?_); (refine AW_region_k tab_ok fun KR hKR => ?_)); ((refine wra ?_))
  ((refine wka1 (isNan a) ?_))
  ((refine wra ?_)); ((refine wea ?_); (try clear hKR KR))
  ((repeat refine AW_seq ?_); (refine wta ?_); simp (disch := omega) only [retQ, resD, oneD, rsv, rs, rsL, rsL_eq_map, List.map_map, bb, bt, zDs, zD, eqCells, simprocAttr, Try.results57])
/-- Does a list of numbers grow? -/
def sortedP (l : List Int) : Bool := (List.range (l.length - 1)).all fun i => !decide (((l[i + 1]?).getD 0) < ((l[i]?).getD 0))
theorem isSorted (l : List Int) (hl : l.length ≤ 1000000) : PRet Try.prog 33 [ints l] (bool (sortedP l)) := by
  refine PRet.intro 1 fun t => ACall.enter tab_ok Try.func33 rfl rfl Try.ntmps33 (by simp) ?_
  simp only [enterTM]
  ((refine wqa ?_))
  ((refine wqa ?_))
  ((repeat refine AW_seq ?_))
  refine AW_mid (fun x : Nat => ⟨[], [], x⟩) (fun _ => sortedP l = true) ?_ ?_
  · refine AW_block ?_
    refine AW_loop_w (fun x : Int × Nat => ⟨[(0, ints l), (3, int x.1)], [], x.2⟩) (fun x => x.1.toNat) (fun x => -1 ≤ x.1 ∧ x.1 < l.length ∧ sortedP l = (List.range x.1.toNat).all fun i => !decide (((l[i + 1]?).getD 0) < ((l[i]?).getD 0))) ((l.length : Int) - 1, t) ⟨by omega, by omega, by unfold sortedP; rw [show ((l.length : Int) - 1).toNat = l.length - 1 by omega]⟩ (by (simp (disch := omega) only [StLe, tmLe, hpLe_refl, hpLe, bl, bb, bt, zDs, zD, eqCells, simprocAttr])) ?_
    rintro ⟨i, t2⟩ ⟨h1, h2, he⟩
    simp only at h1 h2 he
    by_cases hlt : 0 < i
    · obtain ⟨k, rfl⟩ : ∃ k : Nat, i = ((k + 1 : Nat) : Int) := ⟨i.toNat - 1, by omega⟩
      have hk1 : k + 1 < l.length := by omega
      have hk : k < l.length := by omega
      obtain ⟨x, hx⟩ : ∃ y, l[k + 1]? = some y := ⟨_, List.getElem?_eq_getElem hk1⟩
      obtain ⟨y, hy⟩ : ∃ y, l[k]? = some y := ⟨_, List.getElem?_eq_getElem hk⟩
      have hp : ((k + 1 : Nat) : Int) - 1 = (k : Int) := by omega
      rw [Int.toNat_natCast, List.range_succ, List.all_append, List.all_cons, List.all_nil, Bool.and_true, hx, hy, Option.getD_some, Option.getD_some] at he
      ((refine wqb hlt ?_))
      ((refine wia ?_))
      ((refine wsa ?_))
      ((repeat refine AW_seq ?_))
      refine AW_block ?_
      ((repeat refine AW_seq ?_); (refine AW_drawn_k tab_ok follows_mixed 0 fun KR hKR => ?_); simp only [List.replicate_succ, List.replicate_zero, List.append_nil, List.nil_append, List.cons_append, List.length_cons, List.length_nil, Nat.reduceAdd])
      ((refine wdb (F := _∧_∧_∧_∧_) ⟨hk1, hk, hx, hy, hp⟩ ?_))
      ((first | refine awD_nc fun KK hKK => ?_ | refine awD_gc rfl fun KK hKK => ?_); simp (disch := omega) only [bb, bt, zDs, zD, eqCells, simprocAttr, goCDS, callDS_fn, argsZ, argsD, ufa, uf]; refine PGive.ret (lessInt x y) ?_; simp (disch := omega) only [bb, bt, zDs, zD, eqCells, simprocAttr, afterDS]; refine hKK _ _ _ ?_; clear hKK KK)
      ((refine wda ?_))
      ((refine awD_nil ?_); simp only [List.reverse_cons, List.reverse_nil, List.nil_append, List.cons_append]; (refine hKR _ _ (by first | rfl | kernel_rfl) ?_); (try clear hKR KR); (repeat (with_reducible first | refine q1 ?_ | refine q2 ?_ | refine q3 ?_ | refine q4 ?_ | refine q5 ?_ | refine q6 ?_ | (refine q7 ?_ ?_; (focus (with_unfolding_all rfl))))))
      by_cases hxy : x < y
      · rw [decide_eq_true hxy] at he ⊢
        ((refine wia ?_))
        ((refine wqa ?_))
        ((repeat refine AW_seq ?_); (refine wta ?_); simp (disch := omega) only [retQ, resD, oneD, rsv, rs, rsL, rsL_eq_map, List.map_map, bb, bt, zDs, zD, eqCells, simprocAttr, Try.results33])
        rw [he]; simp
      · rw [decide_eq_false hxy] at he ⊢
        ((refine wia ?_))
        ((refine wsa ?_))
        ((refine wqb hp ?_))
        refine ⟨((k : Int), t2 + 1), ⟨by omega, by omega, by rw [he, Int.toNat_natCast]; simp⟩, by show (k : Int).toNat < ((k + 1 : Nat) : Int).toNat; omega, ?_⟩
        (simp (disch := omega) only [StLe, tmLe, hpLe_refl, hpLe, bl, bb, bt, zDs, zD, eqCells, simprocAttr])
    · ((refine wqb hlt ?_))
      ((refine wia ?_))
      ((refine wxa ?_))
      refine ⟨t2, ?_, by (simp (disch := omega) only [StLe, tmLe, hpLe_refl, hpLe, bl, bb, bt, zDs, zD, eqCells, simprocAttr])⟩
      rw [he, show i.toNat = 0 by omega]; rfl
  · rintro t2 he
    ((refine wqa ?_))
    ((repeat refine AW_seq ?_); (refine wta ?_); simp (disch := omega) only [retQ, resD, oneD, rsv, rs, rsL, rsL_eq_map, List.map_map, bb, bt, zDs, zD, eqCells, simprocAttr, Try.results33])
    rw [he]
end Go.Proofs.Ytalhegbjlfkipaa.T
