import Derived.Test.YtcppnmohgaobdaaGreatRTB
import Derived.Test.YtcppnmohgaobdaaGreatRTN
set_option linter.all false
namespace Go.Proofs.YtcppnmohgaobdaaGreat.T
open Go Go.RowKit
set_option maxHeartbeats 400000 in
theorem within1 (n most : Int) (h : 0 ≤ most ∧ most ≤ 67108864) : PRet Tryz.prog 107 [int n, .rp [int most] 0] (bool (decide (n < -most) || decide (most < n))) := by
  refine PRet.intro 1 fun t => ACall.enter tab_ok Tryz.func107 rfl rfl Tryz.ntmps107 (by simp) ?_
  simp only [enterTM]
  ((refine wqa ?_))
  by_cases h1 : n < -most
  · ((refine wqb h1 ?_))
    ((repeat refine AW_seq ?_); (refine wta ?_); simp (disch := omega) only [retQ, resD, oneD, rsv, rs, rsL, rsL_eq_map, List.map_map, bb, bt, zDs, zD, eqCells, simprocAttr, Tryz.results107, h1, Bool.true_or])
  · by_cases h2 : most < n
    · ((refine wqb (F := _∧_) ⟨h1, h2⟩ ?_))
      ((repeat refine AW_seq ?_); (refine wta ?_); simp (disch := omega) only [retQ, resD, oneD, rsv, rs, rsL, rsL_eq_map, List.map_map, bb, bt, zDs, zD, eqCells, simprocAttr, Tryz.results107, h1, h2, Bool.or_true])
    · ((refine wqb (F := _∧_) ⟨h1, h2⟩ ?_))
      ((repeat refine AW_seq ?_); (refine wta ?_); simp (disch := omega) only [retQ, resD, oneD, rsv, rs, rsL, rsL_eq_map, List.map_map, bb, bt, zDs, zD, eqCells, simprocAttr, Tryz.results107, h1, h2, Bool.or_self])
def idx {α : Type} (p : α → Bool) : List α → Nat → Int
  | [], _ => -1
  | x :: r, k => if p x then k else idx p r (k + 1)
theorem idx_any {α : Type} (p : α → Bool) : ∀ (l : List α) (k : Nat), decide (0 ≤ idx p l k) = l.any p
  | [], k => rfl
  | x :: r, k => by
    simp only [idx, List.any_cons]
    by_cases h : p x = true
    · simp [h]
    · have := idx_any p r (k + 1)
      simp only [Bool.not_eq_true] at h
      simpa [h] using this
set_option maxHeartbeats 800000 in
theorem indexFuncInts (l : List D) (g : FuncId) (caps : List D) (p : D → Bool) (hl : l.length ≤ 1000000) (hp : ∀ x ∈ l, PRet Tryz.prog g ((x :: caps).map ufa) (bool (p x))) : PRet Tryz.prog 110 [.sl 1 l false, .fn g caps] (int (idx p l 0)) := by
  refine PRet.intro 1 fun t => ACall.enter tab_ok Tryz.func110 rfl rfl Tryz.ntmps110 (by simp) ?_
  simp only [enterTM]
  ((refine wqa ?_))
  ((refine wqb @Nat.lt_one_iff ?_))
  refine AW_block ?_
  refine AW_loop_w (fun k : Nat => ⟨[(0, .sl 1 l false), (1, .fn g caps), (7, int l.length), (8, int k)], [], t⟩) (fun k => l.length - k) (fun k => k ≤ l.length ∧ idx p l 0 = idx p (l.drop k) k) 0 ⟨Nat.zero_le _, rfl⟩ (by (simp (disch := omega) only [StLe, tmLe, hpLe_refl, hpLe, bl, bb, bt, zDs, zD, eqCells, simprocAttr])) fun k ⟨hk, hi⟩ => ?_
  by_cases hlt : k < l.length
  · obtain ⟨x, hx⟩ : ∃ x, l[k]? = some x := ⟨_, List.getElem?_eq_getElem hlt⟩
    have hm := List.mem_of_getElem? hx
    have hd : l.drop k = x :: l.drop (k + 1) := by
      obtain ⟨h1, h2⟩ := List.getElem?_eq_some_iff.1 hx
      rw [List.drop_eq_getElem_cons h1, h2]
    rw [hd] at hi
    ((refine wqb (F := _∧_) ⟨@Int.ofNat_lt, hlt⟩ ?_))
    ((refine wia ?_))
    ((refine wsa ?_))
    ((repeat refine AW_seq ?_))
    refine AW_block ?_
    ((refine wqa ?_))
    ((repeat refine AW_seq ?_); (refine AW_region_k tab_ok fun KR hKR => ?_)); ((refine wrb (F := _∧_) ⟨hlt, hx⟩ ?_))
    ((refine wka1 (hp x hm) ?_))
    ((refine wea ?_); (try clear hKR KR))
    cases hpx : p x
    · ((refine wib hpx ?_))
      ((refine wsa ?_))
      ((refine wqa ?_))
      refine ⟨k + 1, ⟨hlt, by rw [hi]; simp [idx, hpx]⟩, by omega, ?_⟩
      (simp (disch := omega) only [StLe, tmLe, hpLe_refl, hpLe, bl, bb, bt, zDs, zD, eqCells, simprocAttr])
    · ((refine wib hpx ?_))
      ((refine wqa ?_))
      ((repeat refine AW_seq ?_); (refine wta ?_); simp (disch := omega) only [retQ, resD, oneD, rsv, rs, rsL, rsL_eq_map, List.map_map, bb, bt, zDs, zD, eqCells, simprocAttr, Tryz.results110, hi, idx, hpx])
  · ((refine wqb (F := _∧_) ⟨@Int.ofNat_lt, hlt⟩ ?_))
    ((refine wia ?_))
    ((refine wxa ?_))
    ((refine wqa ?_))
    ((repeat refine AW_seq ?_); (refine wta ?_); simp (disch := omega) only [retQ, resD, oneD, rsv, rs, rsL, rsL_eq_map, List.map_map, bb, bt, zDs, zD, eqCells, simprocAttr, Tryz.results110, hi])
    rw [List.drop_eq_nil_of_le (by omega)]; rfl
theorem containsFuncInts (l : List D) (g : FuncId) (caps : List D) (p : D → Bool) (hl : l.length ≤ 1000000) (hp : ∀ x ∈ l, PRet Tryz.prog g ((x :: caps).map ufa) (bool (p x))) : PRet Tryz.prog 106 [.sl 1 l false, .fn g caps] (bool (l.any p)) := by
  refine PRet.intro 1 fun t => ACall.enter tab_ok Tryz.func106 rfl rfl Tryz.ntmps106 (by simp) ?_
  simp only [enterTM]
  ((refine wqa ?_))
  ((repeat refine AW_seq ?_); (refine AW_region_k tab_ok fun KR hKR => ?_)); ((refine wra ?_))
  ((refine wka1 (indexFuncInts l g caps p hl hp) ?_))
  ((refine wra ?_)); ((refine wea ?_); (try clear hKR KR))
  ((repeat refine AW_seq ?_); (refine wta ?_); simp (disch := omega) only [retQ, resD, oneD, rsv, rs, rsL, rsL_eq_map, List.map_map, bb, bt, zDs, zD, eqCells, simprocAttr, Tryz.results106])
  rw [← idx_any p l 0]
set_option maxHeartbeats 800000 in
theorem indexFuncRows (l : List D) (g : FuncId) (caps : List D) (p : D → Bool) (hl : l.length ≤ 1000000) (hp : ∀ x ∈ l, PRet Tryz.prog g ((x :: caps).map ufa) (bool (p x))) : PRet Tryz.prog 105 [.sl 1 l false, .fn g caps] (int (idx p l 0)) := by
  refine PRet.intro 1 fun t => ACall.enter tab_ok Tryz.func105 rfl rfl Tryz.ntmps105 (by simp) ?_
  simp only [enterTM]
  ((refine wqa ?_))
  ((refine wqb @Nat.lt_one_iff ?_))
  refine AW_block ?_
  refine AW_loop_w (fun k : Nat => ⟨[(0, .sl 1 l false), (1, .fn g caps), (7, int l.length), (8, int k)], [], t⟩) (fun k => l.length - k) (fun k => k ≤ l.length ∧ idx p l 0 = idx p (l.drop k) k) 0 ⟨Nat.zero_le _, rfl⟩ (by (simp (disch := omega) only [StLe, tmLe, hpLe_refl, hpLe, bl, bb, bt, zDs, zD, eqCells, simprocAttr])) fun k ⟨hk, hi⟩ => ?_
  by_cases hlt : k < l.length
  · obtain ⟨x, hx⟩ : ∃ x, l[k]? = some x := ⟨_, List.getElem?_eq_getElem hlt⟩
    have hm := List.mem_of_getElem? hx
    have hd : l.drop k = x :: l.drop (k + 1) := by
      obtain ⟨h1, h2⟩ := List.getElem?_eq_some_iff.1 hx
      rw [List.drop_eq_getElem_cons h1, h2]
    rw [hd] at hi
    ((refine wqb (F := _∧_) ⟨@Int.ofNat_lt, hlt⟩ ?_))
    ((refine wia ?_))
    ((refine wsa ?_))
    ((repeat refine AW_seq ?_))
    refine AW_block ?_
    ((refine wqa ?_))
    ((repeat refine AW_seq ?_); (refine AW_region_k tab_ok fun KR hKR => ?_)); ((refine wrb (F := _∧_) ⟨hlt, hx⟩ ?_))
    ((refine wka1 (hp x hm) ?_))
    ((refine wea ?_); (try clear hKR KR))
    cases hpx : p x
    · ((refine wib hpx ?_))
      ((refine wsa ?_))
      ((refine wqa ?_))
      refine ⟨k + 1, ⟨hlt, by rw [hi]; simp [idx, hpx]⟩, by omega, ?_⟩
      (simp (disch := omega) only [StLe, tmLe, hpLe_refl, hpLe, bl, bb, bt, zDs, zD, eqCells, simprocAttr])
    · ((refine wib hpx ?_))
      ((refine wqa ?_))
      ((repeat refine AW_seq ?_); (refine wta ?_); simp (disch := omega) only [retQ, resD, oneD, rsv, rs, rsL, rsL_eq_map, List.map_map, bb, bt, zDs, zD, eqCells, simprocAttr, Tryz.results105, hi, idx, hpx])
  · ((refine wqb (F := _∧_) ⟨@Int.ofNat_lt, hlt⟩ ?_))
    ((refine wia ?_))
    ((refine wxa ?_))
    ((refine wqa ?_))
    ((repeat refine AW_seq ?_); (refine wta ?_); simp (disch := omega) only [retQ, resD, oneD, rsv, rs, rsL, rsL_eq_map, List.map_map, bb, bt, zDs, zD, eqCells, simprocAttr, Tryz.results105, hi])
    rw [List.drop_eq_nil_of_le (by omega)]; rfl
theorem containsFuncRows (l : List D) (g : FuncId) (caps : List D) (p : D → Bool) (hl : l.length ≤ 1000000) (hp : ∀ x ∈ l, PRet Tryz.prog g ((x :: caps).map ufa) (bool (p x))) : PRet Tryz.prog 96 [.sl 1 l false, .fn g caps] (bool (l.any p)) := by
  refine PRet.intro 1 fun t => ACall.enter tab_ok Tryz.func96 rfl rfl Tryz.ntmps96 (by simp) ?_
  simp only [enterTM]
  ((refine wqa ?_))
  ((repeat refine AW_seq ?_); (refine AW_region_k tab_ok fun KR hKR => ?_)); ((refine wra ?_))
  ((refine wka1 (indexFuncRows l g caps p hl hp) ?_))
  ((refine wra ?_)); ((refine wea ?_); (try clear hKR KR))
  ((repeat refine AW_seq ?_); (refine wta ?_); simp (disch := omega) only [retQ, resD, oneD, rsv, rs, rsL, rsL_eq_map, List.map_map, bb, bt, zDs, zD, eqCells, simprocAttr, Tryz.results96])
  rw [← idx_any p l 0]
def withinP (l : List Int) (most : Int) : Bool := !(l.any fun n => decide (n < -most) || decide (most < n))
def D.num : D → Int
  | .v (.int _ n) => n
  | _ => 0
theorem any_ints (q : Int → Bool) (l : List Int) : ((l.map int).any fun d => q d.num) = l.any q := by
  induction l with
  | nil => rfl
  | cons x r ih => rw [List.map_cons, List.any_cons, List.any_cons, ih]; rfl
theorem within (l : List Int) (most : Int) (h : 0 ≤ most ∧ most ≤ 67108864) (hl : l.length ≤ 1000000) : PRet Tryz.prog 98 [ints l, int most] (bool (withinP l most)) := by
  have hc := containsFuncInts (l.map int) 107 [.rp [int most] 0] (fun d => decide (d.num < -most) || decide (most < d.num)) (by simpa using hl) (fun x hx => by
    obtain ⟨n, _, rfl⟩ := List.mem_map.1 hx
    exact within1 n most h)
  rw [any_ints (fun n => decide (n < -most) || decide (most < n))] at hc
  refine PRet.intro 1 fun t => ACall.enter tab_ok Tryz.func98 rfl rfl Tryz.ntmps98 (by simp) ?_
  simp only [enterTM]
  ((refine wqa ?_))
  ((refine AW.freeze (0) (by first | rfl | (simp only [setH, List.getElem?_cons_zero, List.getElem?_cons_succ]; done)) ?_); simp (disch := omega) only [fzT, fz, fzL, fzL_ints, fzL_mat, fzH, fzB, eq_self, bb, bt, zDs, zD, eqCells, simprocAttr])
  ((repeat refine AW_seq ?_); (refine AW_region_k tab_ok fun KR hKR => ?_)); ((refine wra ?_))
  ((refine wka1 hc ?_))
  ((refine wra ?_)); ((refine wea ?_); (try clear hKR KR))
  ((repeat refine AW_seq ?_); (refine wta ?_); simp (disch := omega) only [retQ, resD, oneD, rsv, rs, rsL, rsL_eq_map, List.map_map, bb, bt, zDs, zD, eqCells, simprocAttr, Tryz.results98])
  rfl
def validP (m : List (List Int)) : Bool := decide (1 ≤ m.length ∧ m.length ≤ 6) && (let n := (m.headD []).length; decide (1 ≤ n ∧ n ≤ 12) && m.all fun r => decide (r.length = n) && withinP r 32)
theorem valid1 (r : List Int) (n : Nat) (hl : r.length ≤ 1000000) (hn : n ≤ 1000000) : PRet Tryz.prog 97 [ints r, .rp [int n] 0] (bool (!(decide (r.length = n) && withinP r 32))) := by
  refine PRet.intro 1 fun t => ACall.enter tab_ok Tryz.func97 rfl rfl Tryz.ntmps97 (by simp) ?_
  simp only [enterTM]
  ((refine wqa ?_))
  by_cases h : r.length = n
  · have h1 : ((r.length : Int) != (n : Int)) = false := by simp [h]
    ((repeat refine AW_seq ?_); (refine AW_region_k tab_ok fun KR hKR => ?_)); ((refine wrb (F := _∧_) ⟨@Nat.lt_one_iff, h1⟩ ?_))
    ((refine wka1 (within r 32 (by omega) hl) ?_))
    ((refine wra ?_)); ((refine wea ?_); (try clear hKR KR))
    ((repeat refine AW_seq ?_); (refine wta ?_); simp (disch := omega) only [retQ, resD, oneD, rsv, rs, rsL, rsL_eq_map, List.map_map, bb, bt, zDs, zD, eqCells, simprocAttr, Tryz.results97, h, decide_true, Bool.true_and])
  · have h1 : ((r.length : Int) != (n : Int)) = true := by simpa using fun e => h (by omega)
    ((refine wqb (F := _∧_) ⟨@Nat.lt_one_iff, h1⟩ ?_))
    ((repeat refine AW_seq ?_); (refine wta ?_); simp (disch := omega) only [retQ, resD, oneD, rsv, rs, rsL, rsL_eq_map, List.map_map, bb, bt, zDs, zD, eqCells, simprocAttr, Tryz.results97, h, decide_false, Bool.false_and])
def D.ints : D → List Int
  | .sl _ cs _ => cs.map D.num
  | _ => []
theorem D.ints_ints (l : List Int) : (T.ints l).ints = l := by
  show (l.map int).map D.num = l
  rw [List.map_map]
  exact List.map_id l
theorem any_rows (q : List Int → Bool) (m : List (List Int)) : ((m.map T.ints).any fun d => q d.ints) = m.any q := by
  induction m with
  | nil => rfl
  | cons x r ih => rw [List.map_cons, List.any_cons, List.any_cons, ih, D.ints_ints]
theorem valid (m : List (List Int)) (hm : m.length ≤ 1000000) (hl : ∀ r ∈ m, r.length ≤ 1000000) : PRet Tryz.prog 83 [mat m] (bool (validP m)) := by
  refine PRet.intro 1 fun t => ACall.enter tab_ok Tryz.func83 rfl rfl Tryz.ntmps83 (by simp) ?_
  simp only [enterTM]
  ((refine wqa ?_))
  by_cases h1 : (m.length : Int) < 1
  · ((refine wqb (F := _∧_) ⟨h1, @Nat.lt_one_iff⟩ ?_))
    ((refine wia ?_))
    ((refine wqa ?_))
    ((repeat refine AW_seq ?_); (refine wta ?_); simp (disch := omega) only [retQ, resD, oneD, rsv, rs, rsL, rsL_eq_map, List.map_map, bb, bt, zDs, zD, eqCells, simprocAttr, Tryz.results83])
    have : validP m = false := by unfold validP; rw [decide_eq_false (by omega)]; rfl
    rw [this]
  by_cases h2 : (6 : Int) < m.length
  · ((refine wqb (F := _∧_∧_) ⟨h1, h2, @Nat.lt_one_iff⟩ ?_))
    ((refine wia ?_))
    ((refine wqa ?_))
    ((repeat refine AW_seq ?_); (refine wta ?_); simp (disch := omega) only [retQ, resD, oneD, rsv, rs, rsL, rsL_eq_map, List.map_map, bb, bt, zDs, zD, eqCells, simprocAttr, Tryz.results83])
    have : validP m = false := by unfold validP; rw [decide_eq_false (by omega)]; rfl
    rw [this]
  ((refine wqb (F := _∧_∧_) ⟨h1, h2, @Nat.lt_one_iff⟩ ?_))
  ((refine wia ?_))
  ((refine wsa ?_))
  obtain ⟨r0, m', rfl⟩ : ∃ r0 m', m = r0 :: m' := by
    cases m with
    | nil => simp at h1
    | cons a b => exact ⟨a, b, rfl⟩
  ((refine wqb @Nat.lt_one_iff ?_))
  ((refine AW.freeze (0) (by first | rfl | (simp only [setH, List.getElem?_cons_zero, List.getElem?_cons_succ]; done)) ?_); simp (disch := omega) only [fzT, fz, fzL, fzL_ints, fzL_mat, fzH, fzB, eq_self, bb, bt, zDs, zD, eqCells, simprocAttr])
  have e0 : validP (r0 :: m') = (decide (1 ≤ r0.length ∧ r0.length ≤ 12) && (r0 :: m').all fun r => decide (r.length = r0.length) && withinP r 32) := by
    unfold validP
    rw [decide_eq_true (p := 1 ≤ (r0 :: m').length ∧ _) (by omega), Bool.true_and]
    rfl
  by_cases h3 : (1 : Int) ≤ r0.length
  · by_cases h4 : (r0.length : Int) ≤ 12
    · have hr0 := hl r0 (by simp)
      have hc := containsFuncRows ((r0 :: m').map ints) 97 [.rp [int r0.length] 0] (fun d => (fun r => !(decide (r.length = r0.length) && withinP r 32)) d.ints) (by simpa using hm) (fun x hx => by
        obtain ⟨r, hr, rfl⟩ := List.mem_map.1 hx
        simp only [D.ints_ints]
        exact valid1 r r0.length (hl r hr) hr0)
      rw [any_rows (fun r => !(decide (r.length = r0.length) && withinP r 32))] at hc
      ((repeat refine AW_seq ?_); (refine AW_region_k tab_ok fun KR hKR => ?_)); ((refine wrb (F := _∧_) ⟨h3, h4⟩ ?_))
      ((refine wka1 hc ?_))
      ((refine wra ?_)); ((refine wea ?_); (try clear hKR KR))
      ((repeat refine AW_seq ?_); (refine wta ?_); simp (disch := omega) only [retQ, resD, oneD, rsv, rs, rsL, rsL_eq_map, List.map_map, bb, bt, zDs, zD, eqCells, simprocAttr, Tryz.results83])
      rw [e0, decide_eq_true (p := 1 ≤ r0.length ∧ _) (by omega), Bool.true_and, List.not_any_eq_all_not]
      simp
    · ((refine wqb (F := _∧_) ⟨h3, h4⟩ ?_))
      ((repeat refine AW_seq ?_); (refine wta ?_); simp (disch := omega) only [retQ, resD, oneD, rsv, rs, rsL, rsL_eq_map, List.map_map, bb, bt, zDs, zD, eqCells, simprocAttr, Tryz.results83])
      rw [e0, decide_eq_false (p := 1 ≤ r0.length ∧ _) (by omega), Bool.false_and]
  · ((refine wqb h3 ?_))
    ((repeat refine AW_seq ?_); (refine wta ?_); simp (disch := omega) only [retQ, resD, oneD, rsv, rs, rsL, rsL_eq_map, List.map_map, bb, bt, zDs, zD, eqCells, simprocAttr, Tryz.results83])
    rw [e0, decide_eq_false (p := 1 ≤ r0.length ∧ _) (by omega), Bool.false_and]
end Go.Proofs.YtcppnmohgaobdaaGreat.T

