import Derived.Test.YtalhegbjlfkipaaTK
import Derived.Test.YtalhegbjlfkipaaTB
import Derived.Test.YtalhegbjlfkipaaGPF
set_option linter.all false
namespace Go.Proofs.Ytalhegbjlfkipaa.T
open Go Go.RowKit
set_option linter.unusedSimpArgs false

/-! Graphs: their edges as cells; what is valid; small helpers over slices. -/
def edC (l : List (Int × Int)) : List D := l.flatMap fun e => [int e.1, int e.2]
abbrev eds (l : List (Int × Int)) : D := .sl 2 (edC l) false
theorem edC_len (l : List (Int × Int)) : (edC l).length = l.length * 2 := by
  induction l with
  | nil => rfl
  | cons a l ih => simp only [edC, List.flatMap_cons, List.length_append, List.length_cons, List.length_nil] at ih ⊢; omega
theorem edC_div (l : List (Int × Int)) : (edC l).length / 2 = l.length := by rw [edC_len]; omega
theorem edC_read : ∀ (l : List (Int × Int)) (i : Nat) (p : Int × Int), l[i]? = some p → ((edC l).drop (i * 2)).take 2 = [int p.1, int p.2]
  | [], i, p, h => by simp at h
  | a :: l, 0, p, h => by simp at h; subst h; rfl
  | a :: l, i + 1, p, h => by
    have ih := edC_read l i p (by simpa using h)
    have e : (i + 1) * 2 = i * 2 + 1 + 1 := by omega
    rw [e]
    exact ih
theorem edC_0 {l : List (Int × Int)} {i : Nat} {p : Int × Int} (h : l[i]? = some p) : (edC l)[i * 2]? = some (int p.1) := by
  have := congrArg (·[0]?) (edC_read l i p h)
  simpa [List.getElem?_take] using this
theorem edC_1 {l : List (Int × Int)} {i : Nat} {p : Int × Int} (h : l[i]? = some p) : (edC l)[i * 2 + 1]? = some (int p.2) := by
  have := congrArg (·[1]?) (edC_read l i p h)
  simpa [List.getElem?_take] using this
theorem fz_ed (b g : Nat) (cs : List D) (l : List (Int × Int)) : fzL b g cs (edC l) = edC l := by
  induction l with
  | nil => rfl
  | cons a l ih =>
    simp only [edC, List.flatMap_cons, List.cons_append, List.nil_append] at ih ⊢
    simp only [fzL, fz, ih]
/-- What is wrong with an edge. -/
def badE (n : Int) (e : Int × Int) : Bool := (e.1 == e.2 || decide ((if e.2 < e.1 then e.2 else e.1) < 0)) || decide (n ≤ (if e.1 < e.2 then e.2 else e.1))
def validG (n : Int) (l : List (Int × Int)) : Bool := (decide (0 ≤ n) && decide (n ≤ 1000) && decide (l.length ≤ 4000)) && !l.any (badE n)
theorem valid1 (n : Int) (a b : Int) : PRet Try.prog 50 [.agg [int a, int b], .rp [int n] 0] (bool (badE n (a, b))) := by
  refine PRet.intro 1 fun t => ACall.enter tab_ok Try.func50 rfl rfl Try.ntmps50 (by simp) ?_
  simp only [enterTM]
  cases h1 : (a == b)
  · cases h2 : decide ((if b < a then b else a) < 0)
    · ((refine ggb0 (F := _∧_) ⟨h1, h2⟩ ?_))
      ((repeat refine AW_seq ?_); (refine wta ?_); simp (disch := omega) only [retQ, resD, oneD, rsv, rs, rsL, rsL_eq_map, List.map_map, bb, bt, zDs, zD, eqCells, simprocAttr, Try.results50])
      simp only [badE, h1, h2, Bool.false_or]
    · ((refine ggb0 (F := _∧_) ⟨h1, h2⟩ ?_))
      ((repeat refine AW_seq ?_); (refine wta ?_); simp (disch := omega) only [retQ, resD, oneD, rsv, rs, rsL, rsL_eq_map, List.map_map, bb, bt, zDs, zD, eqCells, simprocAttr, Try.results50])
      simp only [badE, h1, h2, Bool.or_true, Bool.true_or]
  · ((refine ggb0 h1 ?_))
    ((repeat refine AW_seq ?_); (refine wta ?_); simp (disch := omega) only [retQ, resD, oneD, rsv, rs, rsL, rsL_eq_map, List.map_map, bb, bt, zDs, zD, eqCells, simprocAttr, Try.results50])
    simp only [badE, h1, Bool.true_or]
/-- The first place where a predicate holds, or -1. -/
def idx {α : Type} (p : α → Bool) : List α → Nat → Int
  | [], _ => -1
  | x :: r, k => if p x then k else idx p r (k + 1)
theorem idx_any {α : Type} (p : α → Bool) : ∀ (l : List α) (k : Nat), decide (0 ≤ idx p l k) = l.any p
  | [], k => rfl
  | x :: r, k => by
    simp only [idx, List.any_cons]
    by_cases h : p x = true
    · simp [h]
    · have := idx_any p r (k + 1)
      simp only [Bool.not_eq_true] at h
      simpa [h] using this
set_option maxHeartbeats 800000 in
theorem indexFuncEd (l : List (Int × Int)) (g : FuncId) (caps : List D) (p : Int × Int → Bool) (hl : l.length ≤ 1000000) (hp : ∀ x ∈ l, PRet Try.prog g ((.agg [int x.1, int x.2] :: caps).map ufa) (bool (p x))) : PRet Try.prog 63 [eds l, .fn g caps] (int (idx p l 0)) := by
  refine PRet.intro 1 fun t => ACall.enter tab_ok Try.func63 rfl rfl Try.ntmps63 (by simp) ?_
  simp only [enterTM]
  ((refine wqa ?_))
  ((refine wqb edC_div ?_))
  refine AW_block ?_
  refine AW_loop_w (fun k : Nat => ⟨[(0, eds l), (1, .fn g caps), (7, int l.length), (8, int k)], [], t⟩) (fun k => l.length - k) (fun k => k ≤ l.length ∧ idx p l 0 = idx p (l.drop k) k) 0 ⟨Nat.zero_le _, rfl⟩ (by (simp (disch := omega) only [StLe, tmLe, hpLe_refl, hpLe, bl, bb, bt, zDs, zD, eqCells, simprocAttr])) fun k ⟨hk, hi⟩ => ?_
  by_cases hlt : k < l.length
  · obtain ⟨x, hx⟩ : ∃ x, l[k]? = some x := ⟨_, List.getElem?_eq_getElem hlt⟩
    have hm := List.mem_of_getElem? hx
    have hr : k * 2 + 2 ≤ l.length * 2 := by omega
    have hr2 : k * 2 < l.length * 2 := by omega
    have hd : l.drop k = x :: l.drop (k + 1) := by
      obtain ⟨h1, h2⟩ := List.getElem?_eq_some_iff.1 hx
      rw [List.drop_eq_getElem_cons h1, h2]
    rw [hd] at hi
    ((refine wqb (F := _∧_) ⟨@Int.ofNat_lt, hlt⟩ ?_))
    ((refine wia ?_))
    ((refine wsa ?_))
    ((repeat refine AW_seq ?_))
    refine AW_block ?_
    ((refine wqa ?_))
    ((repeat refine AW_seq ?_); (refine AW_region_k tab_ok fun KR hKR => ?_)); ((refine wrb (F := _∧_∧_∧_∧_∧_) ⟨hlt, hr2, edC_len, edC_div, (edC_read l k x hx), hr⟩ ?_))
    ((refine wka1 (hp x hm) ?_))
    ((refine wea ?_); (try clear hKR KR))
    cases hpx : p x
    · ((refine wib hpx ?_))
      ((refine wsa ?_))
      ((refine wqa ?_))
      refine ⟨k + 1, ⟨hlt, by rw [hi]; simp [idx, hpx]⟩, by omega, ?_⟩
      (simp (disch := omega) only [StLe, tmLe, hpLe_refl, hpLe, bl, bb, bt, zDs, zD, eqCells, simprocAttr])
    · ((refine wib hpx ?_))
      ((refine wqa ?_))
      ((repeat refine AW_seq ?_); (refine wta ?_); simp (disch := omega) only [retQ, resD, oneD, rsv, rs, rsL, rsL_eq_map, List.map_map, bb, bt, zDs, zD, eqCells, simprocAttr, Try.results63, hi, idx, hpx])
  · ((refine wqb (F := _∧_) ⟨@Int.ofNat_lt, hlt⟩ ?_))
    ((refine wia ?_))
    ((refine wxa ?_))
    ((refine wqa ?_))
    ((repeat refine AW_seq ?_); (refine wta ?_); simp (disch := omega) only [retQ, resD, oneD, rsv, rs, rsL, rsL_eq_map, List.map_map, bb, bt, zDs, zD, eqCells, simprocAttr, Try.results63, hi])
    rw [List.drop_eq_nil_of_le (by omega)]; rfl
theorem containsFuncEd (l : List (Int × Int)) (g : FuncId) (caps : List D) (p : Int × Int → Bool) (hl : l.length ≤ 1000000) (hp : ∀ x ∈ l, PRet Try.prog g ((.agg [int x.1, int x.2] :: caps).map ufa) (bool (p x))) : PRet Try.prog 49 [eds l, .fn g caps] (bool (l.any p)) := by
  refine PRet.intro 1 fun t => ACall.enter tab_ok Try.func49 rfl rfl Try.ntmps49 (by simp) ?_
  simp only [enterTM]
  ((refine wqa ?_))
  ((repeat refine AW_seq ?_); (refine AW_region_k tab_ok fun KR hKR => ?_)); ((refine wra ?_))
  ((refine wka1 (indexFuncEd l g caps p hl hp) ?_))
  ((refine wra ?_)); ((refine wea ?_); (try clear hKR KR))
  ((repeat refine AW_seq ?_); (refine wta ?_); simp (disch := omega) only [retQ, resD, oneD, rsv, rs, rsL, rsL_eq_map, List.map_map, bb, bt, zDs, zD, eqCells, simprocAttr, Try.results49])
  rw [← idx_any p l 0]
set_option maxHeartbeats 800000 in
theorem indexFuncRows (l : List (List Int)) (g : FuncId) (caps : List D) (p : List Int → Bool) (hl : l.length ≤ 1000000) (hp : ∀ x ∈ l, PRet Try.prog g ((ints x :: caps).map ufa) (bool (p x))) : PRet Try.prog 52 [mat l, .fn g caps] (int (idx p l 0)) := by
  refine PRet.intro 1 fun t => ACall.enter tab_ok Try.func52 rfl rfl Try.ntmps52 (by simp) ?_
  simp only [enterTM]
  ((refine wqa ?_))
  ((refine wqb edC_div ?_))
  refine AW_block ?_
  refine AW_loop_w (fun k : Nat => ⟨[(0, mat l), (1, .fn g caps), (7, int l.length), (8, int k)], [], t⟩) (fun k => l.length - k) (fun k => k ≤ l.length ∧ idx p l 0 = idx p (l.drop k) k) 0 ⟨Nat.zero_le _, rfl⟩ (by (simp (disch := omega) only [StLe, tmLe, hpLe_refl, hpLe, bl, bb, bt, zDs, zD, eqCells, simprocAttr])) fun k ⟨hk, hi⟩ => ?_
  by_cases hlt : k < l.length
  · obtain ⟨x, hx⟩ : ∃ x, l[k]? = some x := ⟨_, List.getElem?_eq_getElem hlt⟩
    have hm := List.mem_of_getElem? hx
    have hr : k * 2 + 2 ≤ l.length * 2 := by omega
    have hr2 : k * 2 < l.length * 2 := by omega
    have hd : l.drop k = x :: l.drop (k + 1) := by
      obtain ⟨h1, h2⟩ := List.getElem?_eq_some_iff.1 hx
      rw [List.drop_eq_getElem_cons h1, h2]
    rw [hd] at hi
    ((refine wqb (F := _∧_) ⟨@Int.ofNat_lt, hlt⟩ ?_))
    ((refine wia ?_))
    ((refine wsa ?_))
    ((repeat refine AW_seq ?_))
    refine AW_block ?_
    ((refine wqa ?_))
    ((repeat refine AW_seq ?_); (refine AW_region_k tab_ok fun KR hKR => ?_)); ((refine wrb (F := _∧_∧_) ⟨hlt, hr2, hx⟩ ?_))
    ((refine wka1 (hp x hm) ?_))
    ((refine wea ?_); (try clear hKR KR))
    cases hpx : p x
    · ((refine wib hpx ?_))
      ((refine wsa ?_))
      ((refine wqa ?_))
      refine ⟨k + 1, ⟨hlt, by rw [hi]; simp [idx, hpx]⟩, by omega, ?_⟩
      (simp (disch := omega) only [StLe, tmLe, hpLe_refl, hpLe, bl, bb, bt, zDs, zD, eqCells, simprocAttr])
    · ((refine wib hpx ?_))
      ((refine wqa ?_))
      ((repeat refine AW_seq ?_); (refine wta ?_); simp (disch := omega) only [retQ, resD, oneD, rsv, rs, rsL, rsL_eq_map, List.map_map, bb, bt, zDs, zD, eqCells, simprocAttr, Try.results52, hi, idx, hpx])
  · ((refine wqb (F := _∧_) ⟨@Int.ofNat_lt, hlt⟩ ?_))
    ((refine wia ?_))
    ((refine wxa ?_))
    ((refine wqa ?_))
    ((repeat refine AW_seq ?_); (refine wta ?_); simp (disch := omega) only [retQ, resD, oneD, rsv, rs, rsL, rsL_eq_map, List.map_map, bb, bt, zDs, zD, eqCells, simprocAttr, Try.results52, hi])
    rw [List.drop_eq_nil_of_le (by omega)]; rfl
theorem containsFuncRows (l : List (List Int)) (g : FuncId) (caps : List D) (p : List Int → Bool) (hl : l.length ≤ 1000000) (hp : ∀ x ∈ l, PRet Try.prog g ((ints x :: caps).map ufa) (bool (p x))) : PRet Try.prog 24 [mat l, .fn g caps] (bool (l.any p)) := by
  refine PRet.intro 1 fun t => ACall.enter tab_ok Try.func24 rfl rfl Try.ntmps24 (by simp) ?_
  simp only [enterTM]
  ((refine wqa ?_))
  ((repeat refine AW_seq ?_); (refine AW_region_k tab_ok fun KR hKR => ?_)); ((refine wra ?_))
  ((refine wka1 (indexFuncRows l g caps p hl hp) ?_))
  ((refine wra ?_)); ((refine wea ?_); (try clear hKR KR))
  ((repeat refine AW_seq ?_); (refine wta ?_); simp (disch := omega) only [retQ, resD, oneD, rsv, rs, rsL, rsL_eq_map, List.map_map, bb, bt, zDs, zD, eqCells, simprocAttr, Try.results24])
  rw [← idx_any p l 0]
theorem valid (n : Int) (l : List (Int × Int)) (hl : l.length ≤ 1000000) : PRet Try.prog 19 [int n, eds l] (bool (validG n l)) := by
  have hC := containsFuncEd l 50 [.rp [int n] 0] (badE n) hl (fun x _ => valid1 n x.1 x.2)
  refine PRet.intro 1 fun t => ACall.enter tab_ok Try.func19 rfl rfl Try.ntmps19 (by simp) ?_
  simp only [enterTM]
  ((refine wqa ?_))
  by_cases h1 : n < 0
  · ((refine ggb0 h1 ?_))
    ((repeat refine AW_seq ?_); (refine wta ?_); simp (disch := omega) only [retQ, resD, oneD, rsv, rs, rsL, rsL_eq_map, List.map_map, bb, bt, zDs, zD, eqCells, simprocAttr, Try.results19])
    have : ¬ 0 ≤ n := by omega
    simp only [validG, this, decide_false, Bool.false_and]
  by_cases h2 : 1000 < n
  · ((refine ggb0 (F := _∧_) ⟨h1, h2⟩ ?_))
    ((repeat refine AW_seq ?_); (refine wta ?_); simp (disch := omega) only [retQ, resD, oneD, rsv, rs, rsL, rsL_eq_map, List.map_map, bb, bt, zDs, zD, eqCells, simprocAttr, Try.results19])
    have : ¬ n ≤ 1000 := by omega
    simp only [validG, this, decide_false, Bool.false_and, Bool.and_false]
  by_cases h3 : (4000 : Int) < l.length
  · ((refine ggb0 (F := _∧_∧_∧_) ⟨h1, h2, h3, edC_div⟩ ?_))
    ((repeat refine AW_seq ?_); (refine wta ?_); simp (disch := omega) only [retQ, resD, oneD, rsv, rs, rsL, rsL_eq_map, List.map_map, bb, bt, zDs, zD, eqCells, simprocAttr, Try.results19])
    have : ¬ l.length ≤ 4000 := by omega
    simp only [validG, this, decide_false, Bool.false_and, Bool.and_false]
  ((refine wqb (F := _∧_∧_∧_) ⟨h1, h2, h3, edC_div⟩ ?_))
  ((refine wia ?_))
  ((refine wsa ?_))
  ((refine AW.freeze (0) (by first | rfl | (simp only [setH, List.getElem?_cons_zero, List.getElem?_cons_succ, fz_ed]; done)) ?_); simp (disch := omega) only [fzT, fz, fzL, fzL_ints, fzL_mat, fzH, fzB, eq_self, bb, bt, zDs, zD, eqCells, simprocAttr, fz_ed])
  ((refine gga1 hC ?_))
  ((repeat refine AW_seq ?_); (refine wta ?_); simp (disch := omega) only [retQ, resD, oneD, rsv, rs, rsL, rsL_eq_map, List.map_map, bb, bt, zDs, zD, eqCells, simprocAttr, Try.results19])
  have a1 : 0 ≤ n := by omega
  have a2 : n ≤ 1000 := by omega
  have a3 : l.length ≤ 4000 := by omega
  simp only [validG, a1, a2, a3, decide_true, Bool.true_and]
end Go.Proofs.Ytalhegbjlfkipaa.T
