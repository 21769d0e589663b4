import Derived.Test.YtpcakodemleoiaaGreatFTB
import Derived.Test.YtpcakodemleoiaaGreatFWN
set_option linter.all false
section
namespace Go.Proofs.YtpcakodemleoiaaGreat.T
open Go Go.RowKit Lin
theorem equalFr (a b : List (Int × Int)) (ha : a.length ≤ 1000000) (hb : b.length ≤ 1000000) : PRet Tryz.prog 22 [frs a, frs b] (bool (a == b)) := by
  refine PRet.intro 1 fun t => ACall.enter tab_ok Tryz.func22 rfl rfl Tryz.ntmps22 (by simp) ?_
  simp only [enterTM]
  have hla := frC_len a
  have hlb := frC_len b
  have ha2 : (frC a).length / 2 = a.length := by omega
  have hb2 : (frC b).length / 2 = b.length := by omega
  ((refine wqa ?_))
  by_cases hl : a.length = b.length
  rotate_left 1
  · have e1 : ((a.length : Int) != (b.length : Int)) = true := by simpa using fun h => hl (by omega)
    ((refine wqb (F := _∧_∧_) ⟨ha2, hb2, e1⟩ ?_))
    ((refine wia ?_))
    ((refine wqa ?_))
    ((repeat refine AW_seq ?_); (refine wta ?_); simp (disch := omega) only [retQ, resD, oneD, rsv, rs, rsL, rsL_eq_map, List.map_map, bb, bt, zDs, zD, eqCells, simprocAttr, Tryz.results22])
    have : (a == b) = false := by rw [beq_eq_false_iff_ne]; intro h; exact hl (by rw [h])
    rw [this]
  have e1 : ((a.length : Int) != (b.length : Int)) = false := by simp [hl]
  ((refine wqb (F := _∧_∧_) ⟨ha2, hb2, e1⟩ ?_))
  ((refine wia ?_))
  ((refine wsa ?_))
  ((refine wqb ha2 ?_))
  ((repeat refine AW_seq ?_))
  refine AW_mid (fun x : Nat => ⟨[], [], x⟩) (fun _ => (a == b) = true) ?_ ?_
  · refine AW_block ?_
    refine AW_loop_w (fun x : Nat × Nat => ⟨[(0, frs a), (1, frs b), (12, int a.length), (13, int x.1)], [], x.2⟩) (fun x => a.length - x.1) (fun x => x.1 ≤ a.length ∧ (a == b) = (a.drop x.1 == b.drop x.1)) (0, t) ⟨Nat.zero_le _, rfl⟩ (by (simp (disch := omega) only [StLe, tmLe, hpLe_refl, hpLe, bl, bb, bt, zDs, zD, eqCells, simprocAttr])) ?_
    rintro ⟨k, t2⟩ ⟨hk, he⟩
    simp only at hk he
    by_cases hlt : k < a.length
    · have hltb : k < b.length := by omega
      obtain ⟨x, hx⟩ : ∃ y, a[k]? = some y := ⟨_, List.getElem?_eq_getElem hlt⟩
      obtain ⟨y, hy⟩ : ∃ y, b[k]? = some y := ⟨_, List.getElem?_eq_getElem hltb⟩
      have hda : a.drop k = x :: a.drop (k + 1) := by
        obtain ⟨h1, h2⟩ := List.getElem?_eq_some_iff.1 hx
        rw [List.drop_eq_getElem_cons h1, h2]
      have hdb : b.drop k = y :: b.drop (k + 1) := by
        obtain ⟨h1, h2⟩ := List.getElem?_eq_some_iff.1 hy
        rw [List.drop_eq_getElem_cons h1, h2]
      rw [hda, hdb, List.cons_beq_cons] at he
      ((refine wqb (F := _∧_) ⟨@Int.ofNat_lt, hlt⟩ ?_))
      ((refine wia ?_))
      ((refine wsa ?_))
      ((repeat refine AW_seq ?_))
      refine AW_block ?_
      ((refine wqa ?_))
      ((repeat refine AW_seq ?_); (refine AW_drawn_k tab_ok follows_mixed 0 fun KR hKR => ?_); simp only [List.replicate_succ, List.replicate_zero, List.append_nil, List.nil_append, List.cons_append, List.length_cons, List.length_nil, Nat.reduceAdd])
      have hra := frC_read a k x hx
      have hrb := frC_read b k y hy
      ((refine wdb (F := _∧_∧_∧_∧_∧_) ⟨ha2, hb2, hlt, hltb, hra, hrb⟩ ?_))
      ((refine awD_nil ?_); simp only [List.reverse_cons, List.reverse_nil, List.nil_append, List.cons_append]; (refine hKR _ _ (by first | rfl | kernel_rfl) ?_); (try clear hKR KR); (repeat (with_reducible first | refine q1 ?_ | refine q2 ?_ | refine q3 ?_ | refine q4 ?_ | refine q5 ?_ | refine q6 ?_ | (refine q7 ?_ ?_; (focus (with_unfolding_all rfl))))))
      have hbe : (x == y) = ((x.1 == y.1) && (x.2 == y.2)) := rfl
      by_cases hxy : x = y
      · subst hxy
        ((refine wia ?_))
        ((refine wsa ?_))
        ((refine wqa ?_))
        refine ⟨(k + 1, t2 + 1), ⟨hlt, by rw [he, beq_self_eq_true, Bool.true_and]⟩, by show a.length - (k + 1) < a.length - k; omega, ?_⟩
        (simp (disch := omega) only [StLe, tmLe, hpLe_refl, hpLe, bl, bb, bt, zDs, zD, eqCells, simprocAttr])
      · have e2 := beq_eq_false_iff_ne.2 hxy
        rw [hbe] at e2
        (simp (disch := omega) only [bb, bt, zDs, zD, eqCells, simprocAttr, e2])
        ((refine wia ?_))
        ((refine wqa ?_))
        ((repeat refine AW_seq ?_); (refine wta ?_); simp (disch := omega) only [retQ, resD, oneD, rsv, rs, rsL, rsL_eq_map, List.map_map, bb, bt, zDs, zD, eqCells, simprocAttr, Tryz.results22])
        rw [he, beq_eq_false_iff_ne.2 hxy]; rfl
    · ((refine wqb (F := _∧_) ⟨@Int.ofNat_lt, hlt⟩ ?_))
      ((refine wia ?_))
      ((refine wxa ?_))
      refine ⟨t2, ?_, by (simp (disch := omega) only [StLe, tmLe, hpLe_refl, hpLe, bl, bb, bt, zDs, zD, eqCells, simprocAttr])⟩
      rw [he, List.drop_eq_nil_of_le (by omega), List.drop_eq_nil_of_le (by omega)]; rfl
  · rintro t2 he
    ((refine wqa ?_))
    ((repeat refine AW_seq ?_); (refine wta ?_); simp (disch := omega) only [retQ, resD, oneD, rsv, rs, rsL, rsL_eq_map, List.map_map, bb, bt, zDs, zD, eqCells, simprocAttr, Tryz.results22])
    rw [he]
end Go.Proofs.YtpcakodemleoiaaGreat.T
end
section
namespace Go.Proofs.YtpcakodemleoiaaGreat.T
open Go Go.RowKit Lin
end Go.Proofs.YtpcakodemleoiaaGreat.T
end

