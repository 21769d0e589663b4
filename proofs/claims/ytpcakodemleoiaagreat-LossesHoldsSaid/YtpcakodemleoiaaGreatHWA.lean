import Derived.Test.YtpcakodemleoiaaGreatHTB
import Derived.Test.YtpcakodemleoiaaGreatHTN
set_option linter.all false
namespace Go.Proofs.YtpcakodemleoiaaGreat.T
open Go Go.RowKit
set_option maxHeartbeats 400000 in
theorem within1 (n most : Int) (h : 0 ≤ most ∧ most ≤ 67108864) : PRet Tryz.prog 139 [int n, .rp [int most] 0] (bool (decide (n < -most) || decide (most < n))) := by
 refine PRet.intro 1 fun t => ACall.enter tab_ok Tryz.func139 rfl rfl Tryz.ntmps139 (by simp) ?_
 simp only [Y06]
 ((refine wqa ?_))
 by_cases h1 : n < -most
 ·((refine wqb h1 ?_))
  ((repeat refine Y01 ?_); (refine wta ?_); simp (disch := omega) only [retQ, resD, oneD, rsv, rs, rsL, Y02, List.map_map, bb, bt, zDs, zD, Y00, simprocAttr, Tryz.results139, h1, Bool.true_or])
 ·by_cases h2 : most < n
  ·((refine wqb (F := _∧_) ⟨h1, h2⟩ ?_))
   ((repeat refine Y01 ?_); (refine wta ?_); simp (disch := omega) only [retQ, resD, oneD, rsv, rs, rsL, Y02, List.map_map, bb, bt, zDs, zD, Y00, simprocAttr, Tryz.results139, h1, h2, Bool.or_true])
  ·((refine wqb (F := _∧_) ⟨h1, h2⟩ ?_))
   ((repeat refine Y01 ?_); (refine wta ?_); simp (disch := omega) only [retQ, resD, oneD, rsv, rs, rsL, Y02, List.map_map, bb, bt, zDs, zD, Y00, simprocAttr, Tryz.results139, h1, h2, Bool.or_self])
def idx {α : Type} (p : α → Bool) : List α → Nat → Int
 | [], _ => -1
 | x :: r, k => if p x then k else idx p r (k + 1)
theorem Y7z {α : Type} (p : α → Bool) : ∀ (l : List α) (k : Nat), decide (0 ≤ idx p l k) = l.any p
 | [], k => rfl
 | x :: r, k => by
  simp only [idx, List.any_cons]
  by_cases h : p x = true
  ·simp [h]
  ·have := Y7z p r (k + 1)
   simp only [Bool.not_eq_true] at h
   simpa [h] using this
set_option maxHeartbeats 800000 in
theorem indexFuncInts (l : List D) (g : FuncId) (caps : List D) (p : D → Bool) (hl : l.length ≤ 1000000) (hp : ∀ x ∈ l, PRet Tryz.prog g ((x :: caps).map ufa) (bool (p x))) : PRet Tryz.prog 149 [.sl 1 l false, .fn g caps] (int (idx p l 0)) := by
 refine PRet.intro 1 fun t => ACall.enter tab_ok Tryz.func149 rfl rfl Tryz.ntmps149 (by simp) ?_
 simp only [Y06]
 ((refine wqa ?_))
 ((refine wqb @Nat.lt_one_iff ?_))
 refine Y04 ?_
 refine Y07 (fun k : Nat => ⟨[(0, .sl 1 l false), (1, .fn g caps), (7, int l.length), (8, int k)], [], t⟩) (fun k => l.length - k) (fun k => k ≤ l.length ∧ idx p l 0 = idx p (l.drop k) k) 0 ⟨Nat.zero_le _, rfl⟩ (by (simp (disch := omega) only [StLe, tmLe, Y03, hpLe, bl, bb, bt, zDs, zD, Y00, simprocAttr])) fun k ⟨hk, hi⟩ => ?_
 by_cases hlt : k < l.length
 ·obtain ⟨x, hx⟩ : ∃ x, l[k]? = some x := ⟨_, List.getElem?_eq_getElem hlt⟩
  have hm := List.mem_of_getElem? hx
  have hd : l.drop k = x :: l.drop (k + 1) := by
   obtain ⟨h1, h2⟩ := List.getElem?_eq_some_iff.1 hx
   rw [List.drop_eq_getElem_cons h1, h2]
  rw [hd] at hi
  ((refine wqb (F := _∧_) ⟨@Int.ofNat_lt, hlt⟩ ?_))
  ((refine wia ?_))
  ((refine wsa ?_))
  ((repeat refine Y01 ?_))
  refine Y04 ?_
  ((refine wqa ?_))
  ((repeat refine Y01 ?_); (refine Y05 tab_ok fun KR hKR => ?_)); ((refine wrb (F := _∧_) ⟨hlt, hx⟩ ?_))
  ((refine wka1 (hp x hm) ?_))
  ((refine wea ?_); (try clear hKR KR))
  cases hpx : p x
  ·((refine wib hpx ?_))
   ((refine wsa ?_))
   ((refine wqa ?_))
   refine ⟨k + 1, ⟨hlt, by rw [hi]; simp [idx, hpx]⟩, by omega, ?_⟩
   (simp (disch := omega) only [StLe, tmLe, Y03, hpLe, bl, bb, bt, zDs, zD, Y00, simprocAttr])
  ·((refine wib hpx ?_))
   ((refine wqa ?_))
   ((repeat refine Y01 ?_); (refine wta ?_); simp (disch := omega) only [retQ, resD, oneD, rsv, rs, rsL, Y02, List.map_map, bb, bt, zDs, zD, Y00, simprocAttr, Tryz.results149, hi, idx, hpx])
 ·((refine wqb (F := _∧_) ⟨@Int.ofNat_lt, hlt⟩ ?_))
  ((refine wia ?_))
  ((refine wxa ?_))
  ((refine wqa ?_))
  ((repeat refine Y01 ?_); (refine wta ?_); simp (disch := omega) only [retQ, resD, oneD, rsv, rs, rsL, Y02, List.map_map, bb, bt, zDs, zD, Y00, simprocAttr, Tryz.results149, hi])
  rw [List.drop_eq_nil_of_le (by omega)]; rfl
theorem containsFuncInts (l : List D) (g : FuncId) (caps : List D) (p : D → Bool) (hl : l.length ≤ 1000000) (hp : ∀ x ∈ l, PRet Tryz.prog g ((x :: caps).map ufa) (bool (p x))) : PRet Tryz.prog 138 [.sl 1 l false, .fn g caps] (bool (l.any p)) := by
 refine PRet.intro 1 fun t => ACall.enter tab_ok Tryz.func138 rfl rfl Tryz.ntmps138 (by simp) ?_
 simp only [Y06]
 ((refine wqa ?_))
 ((repeat refine Y01 ?_); (refine Y05 tab_ok fun KR hKR => ?_)); ((refine wra ?_))
 ((refine wka1 (indexFuncInts l g caps p hl hp) ?_))
 ((refine wra ?_)); ((refine wea ?_); (try clear hKR KR))
 ((repeat refine Y01 ?_); (refine wta ?_); simp (disch := omega) only [retQ, resD, oneD, rsv, rs, rsL, Y02, List.map_map, bb, bt, zDs, zD, Y00, simprocAttr, Tryz.results138])
 rw [← Y7z p l 0]
set_option maxHeartbeats 800000 in
theorem indexFuncRows (l : List D) (g : FuncId) (caps : List D) (p : D → Bool) (hl : l.length ≤ 1000000) (hp : ∀ x ∈ l, PRet Tryz.prog g ((x :: caps).map ufa) (bool (p x))) : PRet Tryz.prog 148 [.sl 1 l false, .fn g caps] (int (idx p l 0)) := by
 refine PRet.intro 1 fun t => ACall.enter tab_ok Tryz.func148 rfl rfl Tryz.ntmps148 (by simp) ?_
 simp only [Y06]
 ((refine wqa ?_))
 ((refine wqb @Nat.lt_one_iff ?_))
 refine Y04 ?_
 refine Y07 (fun k : Nat => ⟨[(0, .sl 1 l false), (1, .fn g caps), (7, int l.length), (8, int k)], [], t⟩) (fun k => l.length - k) (fun k => k ≤ l.length ∧ idx p l 0 = idx p (l.drop k) k) 0 ⟨Nat.zero_le _, rfl⟩ (by (simp (disch := omega) only [StLe, tmLe, Y03, hpLe, bl, bb, bt, zDs, zD, Y00, simprocAttr])) fun k ⟨hk, hi⟩ => ?_
 by_cases hlt : k < l.length
 ·obtain ⟨x, hx⟩ : ∃ x, l[k]? = some x := ⟨_, List.getElem?_eq_getElem hlt⟩
  have hm := List.mem_of_getElem? hx
  have hd : l.drop k = x :: l.drop (k + 1) := by
   obtain ⟨h1, h2⟩ := List.getElem?_eq_some_iff.1 hx
   rw [List.drop_eq_getElem_cons h1, h2]
  rw [hd] at hi
  ((refine wqb (F := _∧_) ⟨@Int.ofNat_lt, hlt⟩ ?_))
  ((refine wia ?_))
  ((refine wsa ?_))
  ((repeat refine Y01 ?_))
  refine Y04 ?_
  ((refine wqa ?_))
  ((repeat refine Y01 ?_); (refine Y05 tab_ok fun KR hKR => ?_)); ((refine wrb (F := _∧_) ⟨hlt, hx⟩ ?_))
  ((refine wka1 (hp x hm) ?_))
  ((refine wea ?_); (try clear hKR KR))
  cases hpx : p x
  ·((refine wib hpx ?_))
   ((refine wsa ?_))
   ((refine wqa ?_))
   refine ⟨k + 1, ⟨hlt, by rw [hi]; simp [idx, hpx]⟩, by omega, ?_⟩
   (simp (disch := omega) only [StLe, tmLe, Y03, hpLe, bl, bb, bt, zDs, zD, Y00, simprocAttr])
  ·((refine wib hpx ?_))
   ((refine wqa ?_))
   ((repeat refine Y01 ?_); (refine wta ?_); simp (disch := omega) only [retQ, resD, oneD, rsv, rs, rsL, Y02, List.map_map, bb, bt, zDs, zD, Y00, simprocAttr, Tryz.results148, hi, idx, hpx])
 ·((refine wqb (F := _∧_) ⟨@Int.ofNat_lt, hlt⟩ ?_))
  ((refine wia ?_))
  ((refine wxa ?_))
  ((refine wqa ?_))
  ((repeat refine Y01 ?_); (refine wta ?_); simp (disch := omega) only [retQ, resD, oneD, rsv, rs, rsL, Y02, List.map_map, bb, bt, zDs, zD, Y00, simprocAttr, Tryz.results148, hi])
  rw [List.drop_eq_nil_of_le (by omega)]; rfl
theorem containsFuncRows (l : List D) (g : FuncId) (caps : List D) (p : D → Bool) (hl : l.length ≤ 1000000) (hp : ∀ x ∈ l, PRet Tryz.prog g ((x :: caps).map ufa) (bool (p x))) : PRet Tryz.prog 136 [.sl 1 l false, .fn g caps] (bool (l.any p)) := by
 refine PRet.intro 1 fun t => ACall.enter tab_ok Tryz.func136 rfl rfl Tryz.ntmps136 (by simp) ?_
 simp only [Y06]
 ((refine wqa ?_))
 ((repeat refine Y01 ?_); (refine Y05 tab_ok fun KR hKR => ?_)); ((refine wra ?_))
 ((refine wka1 (indexFuncRows l g caps p hl hp) ?_))
 ((refine wra ?_)); ((refine wea ?_); (try clear hKR KR))
 ((repeat refine Y01 ?_); (refine wta ?_); simp (disch := omega) only [retQ, resD, oneD, rsv, rs, rsL, Y02, List.map_map, bb, bt, zDs, zD, Y00, simprocAttr, Tryz.results136])
 rw [← Y7z p l 0]
def Y0w (l : List Int) (most : Int) : Bool := !(l.any fun n => decide (n < -most) || decide (most < n))
def D.num : D → Int
 | .v (.int _ n) => n
 | _ => 0
theorem any_ints (q : Int → Bool) (l : List Int) : ((l.map int).any fun d => q d.num) = l.any q := by
 induction l with
 | nil => rfl
 | cons x r ih => rw [List.map_cons, List.any_cons, List.any_cons, ih]; rfl
theorem within (l : List Int) (most : Int) (h : 0 ≤ most ∧ most ≤ 67108864) (hl : l.length ≤ 1000000) : PRet Tryz.prog 121 [ints l, int most] (bool (Y0w l most)) := by
 have hc := containsFuncInts (l.map int) 139 [.rp [int most] 0] (fun d => decide (d.num < -most) || decide (most < d.num)) (by simpa using hl) (fun x hx => by
  obtain ⟨n, _, rfl⟩ := List.mem_map.1 hx
  exact within1 n most h)
 rw [any_ints (fun n => decide (n < -most) || decide (most < n))] at hc
 refine PRet.intro 1 fun t => ACall.enter tab_ok Tryz.func121 rfl rfl Tryz.ntmps121 (by simp) ?_
 simp only [Y06]
 ((refine wqa ?_))
 ((refine AW.freeze (0) (by first | rfl | (simp only [setH, List.getElem?_cons_zero, List.getElem?_cons_succ]; done)) ?_); simp (disch := omega) only [fzT, fz, fzL, Y0d, Y0m, fzH, fzB, eq_self, bb, bt, zDs, zD, Y00, simprocAttr])
 ((repeat refine Y01 ?_); (refine Y05 tab_ok fun KR hKR => ?_)); ((refine wra ?_))
 ((refine wka1 hc ?_))
 ((refine wra ?_)); ((refine wea ?_); (try clear hKR KR))
 ((repeat refine Y01 ?_); (refine wta ?_); simp (disch := omega) only [retQ, resD, oneD, rsv, rs, rsL, Y02, List.map_map, bb, bt, zDs, zD, Y00, simprocAttr, Tryz.results121])
 rfl
def Y12 (m : List (List Int)) : Bool := decide (1 ≤ m.length ∧ m.length ≤ 6) && (let n := (m.headD []).length; decide (1 ≤ n ∧ n ≤ 12) && m.all fun r => decide (r.length = n) && Y0w r 32)
theorem valid1 (r : List Int) (n : Nat) (hl : r.length ≤ 1000000) (hn : n ≤ 1000000) : PRet Tryz.prog 137 [ints r, .rp [int n] 0] (bool (!(decide (r.length = n) && Y0w r 32))) := by
 refine PRet.intro 1 fun t => ACall.enter tab_ok Tryz.func137 rfl rfl Tryz.ntmps137 (by simp) ?_
 simp only [Y06]
 ((refine wqa ?_))
 by_cases h : r.length = n
 ·have h1 : ((r.length : Int) != (n : Int)) = false := by simp [h]
  ((repeat refine Y01 ?_); (refine Y05 tab_ok fun KR hKR => ?_)); ((refine wrb (F := _∧_) ⟨@Nat.lt_one_iff, h1⟩ ?_))
  ((refine wka1 (within r 32 (by omega) hl) ?_))
  ((refine wra ?_)); ((refine wea ?_); (try clear hKR KR))
  ((repeat refine Y01 ?_); (refine wta ?_); simp (disch := omega) only [retQ, resD, oneD, rsv, rs, rsL, Y02, List.map_map, bb, bt, zDs, zD, Y00, simprocAttr, Tryz.results137, h, decide_true, Bool.true_and])
 ·have h1 : ((r.length : Int) != (n : Int)) = true := by simpa using fun e => h (by omega)
  ((refine wqb (F := _∧_) ⟨@Nat.lt_one_iff, h1⟩ ?_))
  ((repeat refine Y01 ?_); (refine wta ?_); simp (disch := omega) only [retQ, resD, oneD, rsv, rs, rsL, Y02, List.map_map, bb, bt, zDs, zD, Y00, simprocAttr, Tryz.results137, h, decide_false, Bool.false_and])
def D.ints : D → List Int
 | .sl _ cs _ => cs.map D.num
 | _ => []
theorem D.ints_ints (l : List Int) : (T.ints l).ints = l := by
 show (l.map int).map D.num = l
 rw [List.map_map]
 exact List.map_id l
theorem any_rows (q : List Int → Bool) (m : List (List Int)) : ((m.map T.ints).any fun d => q d.ints) = m.any q := by
 induction m with
 | nil => rfl
 | cons x r ih => rw [List.map_cons, List.any_cons, List.any_cons, ih, D.ints_ints]
theorem valid (m : List (List Int)) (hm : m.length ≤ 1000000) (hl : ∀ r ∈ m, r.length ≤ 1000000) : PRet Tryz.prog 120 [mat m] (bool (Y12 m)) := by
 refine PRet.intro 1 fun t => ACall.enter tab_ok Tryz.func120 rfl rfl Tryz.ntmps120 (by simp) ?_
 simp only [Y06]
 ((refine wqa ?_))
 by_cases h1 : (m.length : Int) < 1
 ·((refine wqb (F := _∧_) ⟨h1, @Nat.lt_one_iff⟩ ?_))
  ((refine wia ?_))
  ((refine wqa ?_))
  ((repeat refine Y01 ?_); (refine wta ?_); simp (disch := omega) only [retQ, resD, oneD, rsv, rs, rsL, Y02, List.map_map, bb, bt, zDs, zD, Y00, simprocAttr, Tryz.results120])
  have : Y12 m = false := by unfold Y12; rw [decide_eq_false (by omega)]; rfl
  rw [this]
 by_cases h2 : (6 : Int) < m.length
 ·((refine wqb (F := _∧_∧_) ⟨h1, h2, @Nat.lt_one_iff⟩ ?_))
  ((refine wia ?_))
  ((refine wqa ?_))
  ((repeat refine Y01 ?_); (refine wta ?_); simp (disch := omega) only [retQ, resD, oneD, rsv, rs, rsL, Y02, List.map_map, bb, bt, zDs, zD, Y00, simprocAttr, Tryz.results120])
  have : Y12 m = false := by unfold Y12; rw [decide_eq_false (by omega)]; rfl
  rw [this]
 ((refine wqb (F := _∧_∧_) ⟨h1, h2, @Nat.lt_one_iff⟩ ?_))
 ((refine wia ?_))
 ((refine wsa ?_))
 obtain ⟨r0, m', rfl⟩ : ∃ r0 m', m = r0 :: m' := by
  cases m with
  | nil => simp at h1
  | cons a b => exact ⟨a, b, rfl⟩
 ((refine wqb @Nat.lt_one_iff ?_))
 ((refine AW.freeze (0) (by first | rfl | (simp only [setH, List.getElem?_cons_zero, List.getElem?_cons_succ]; done)) ?_); simp (disch := omega) only [fzT, fz, fzL, Y0d, Y0m, fzH, fzB, eq_self, bb, bt, zDs, zD, Y00, simprocAttr])
 have e0 : Y12 (r0 :: m') = (decide (1 ≤ r0.length ∧ r0.length ≤ 12) && (r0 :: m').all fun r => decide (r.length = r0.length) && Y0w r 32) := by
  unfold Y12
  rw [decide_eq_true (p := 1 ≤ (r0 :: m').length ∧ _) (by omega), Bool.true_and]
  rfl
 by_cases h3 : (1 : Int) ≤ r0.length
 ·by_cases h4 : (r0.length : Int) ≤ 12
  ·have hr0 := hl r0 (by simp)
   have hc := containsFuncRows ((r0 :: m').map ints) 137 [.rp [int r0.length] 0] (fun d => (fun r => !(decide (r.length = r0.length) && Y0w r 32)) d.ints) (by simpa using hm) (fun x hx => by
    obtain ⟨r, hr, rfl⟩ := List.mem_map.1 hx
    simp only [D.ints_ints]
    exact valid1 r r0.length (hl r hr) hr0)
   rw [any_rows (fun r => !(decide (r.length = r0.length) && Y0w r 32))] at hc
   ((repeat refine Y01 ?_); (refine Y05 tab_ok fun KR hKR => ?_)); ((refine wrb (F := _∧_) ⟨h3, h4⟩ ?_))
   ((refine wka1 hc ?_))
   ((refine wra ?_)); ((refine wea ?_); (try clear hKR KR))
   ((repeat refine Y01 ?_); (refine wta ?_); simp (disch := omega) only [retQ, resD, oneD, rsv, rs, rsL, Y02, List.map_map, bb, bt, zDs, zD, Y00, simprocAttr, Tryz.results120])
   rw [e0, decide_eq_true (p := 1 ≤ r0.length ∧ _) (by omega), Bool.true_and, List.not_any_eq_all_not]
   simp
  ·((refine wqb (F := _∧_) ⟨h3, h4⟩ ?_))
   ((repeat refine Y01 ?_); (refine wta ?_); simp (disch := omega) only [retQ, resD, oneD, rsv, rs, rsL, Y02, List.map_map, bb, bt, zDs, zD, Y00, simprocAttr, Tryz.results120])
   rw [e0, decide_eq_false (p := 1 ≤ r0.length ∧ _) (by omega), Bool.false_and]
 ·((refine wqb h3 ?_))
  ((repeat refine Y01 ?_); (refine wta ?_); simp (disch := omega) only [retQ, resD, oneD, rsv, rs, rsL, Y02, List.map_map, bb, bt, zDs, zD, Y00, simprocAttr, Tryz.results120])
  rw [e0, decide_eq_false (p := 1 ≤ r0.length ∧ _) (by omega), Bool.false_and]
end Go.Proofs.YtpcakodemleoiaaGreat.T

