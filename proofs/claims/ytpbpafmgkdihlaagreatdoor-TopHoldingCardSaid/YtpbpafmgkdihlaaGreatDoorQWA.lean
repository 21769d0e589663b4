import Derived.Test.YtpbpafmgkdihlaaGreatDoorQTB
import Derived.Test.YtpbpafmgkdihlaaGreatDoorQTN
set_option linter.all false
namespace Go.Proofs.YtpbpafmgkdihlaaGreatDoor.T
open Go Go.RowKit
set_option maxHeartbeats 400000 in
theorem Yvx (n most : Int) (h : 0 ≤ most ∧ most ≤ 67108864) : PRet Tryz.prog 142 [int n, .rp [int most] 0] (bool (decide (n < -most) || decide (most < n))) := by
 refine pri 1 Tryz.func142 Tryz.ntmps142 fun t => ?_
 simp only [Y04]
 refine wqa ?_
 by_cases h1 : n < -most
 ·refine wqb h1 ?_
  ((repeat refine Y00 ?_); (refine wta ?_); simp (disch := omega) only [retQ, resD, oneD, rsv, rs, rsL, Y0a, List.map_map, bb, bt, zDs, zD, Y01, simprocAttr, Tryz.results142, h1, Bool.true_or])
 ·by_cases h2 : most < n
  ·((refine wqb (F := _∧_) ⟨h1, h2⟩ ?_))
   ((repeat refine Y00 ?_); (refine wta ?_); simp (disch := omega) only [retQ, resD, oneD, rsv, rs, rsL, Y0a, List.map_map, bb, bt, zDs, zD, Y01, simprocAttr, Tryz.results142, h1, h2, Bool.or_true])
  ·((refine wqb (F := _∧_) ⟨h1, h2⟩ ?_))
   ((repeat refine Y00 ?_); (refine wta ?_); simp (disch := omega) only [retQ, resD, oneD, rsv, rs, rsL, Y0a, List.map_map, bb, bt, zDs, zD, Y01, simprocAttr, Tryz.results142, h1, h2, Bool.or_self])
def idx {α : Type} (p : α → Bool) : List α → Nat → Int
 | [], _ => -1
 | x :: r, k => if p x then k else idx p r (k + 1)
theorem Yao {α : Type} (p : α → Bool) : ∀ (l : List α) (k : Nat), decide (0 ≤ idx p l k) = l.any p
 | [], k => rfl
 | x :: r, k => by
  simp only [idx, List.any_cons]
  by_cases h : p x = true
  ·simp [h]
  ·have := Yao p r (k + 1)
   simp only [Bool.not_eq_true] at h
   simpa [h] using this
set_option maxHeartbeats 800000 in
theorem Ydu (l : List D) (g : FuncId) (caps : List D) (p : D → Bool) (hl : l.length ≤ 1000000) (hp : ∀ x ∈ l, PRet Tryz.prog g ((x :: caps).map ufa) (bool (p x))) : PRet Tryz.prog 128 [.sl 1 l false, .fn g caps] (int (idx p l 0)) := by
 refine pri 1 Tryz.func128 Tryz.ntmps128 fun t => ?_
 simp only [Y04]
 refine wqa ?_
 refine wqb @Nat.lt_one_iff ?_
 refine Y02 ?_
 refine Y05 (fun k : Nat => ⟨[(0, .sl 1 l false), (1, .fn g caps), (7, int l.length), (8, int k)], [], t⟩) (fun k => l.length - k) (fun k => k ≤ l.length ∧ idx p l 0 = idx p (l.drop k) k) 0 ⟨Nat.zero_le _, rfl⟩ ele fun k ⟨hk, hi⟩ => ?_
 by_cases hlt : k < l.length
 ·obtain ⟨x, hx⟩ : ∃ x, l[k]? = some x := ⟨_, List.getElem?_eq_getElem hlt⟩
  have hm := List.mem_of_getElem? hx
  have hd : l.drop k = x :: l.drop (k + 1) := by
   obtain ⟨h1, h2⟩ := List.getElem?_eq_some_iff.1 hx
   rw [List.drop_eq_getElem_cons h1, h2]
  rw [hd] at hi
  ((refine wqb (F := _∧_) ⟨@Int.ofNat_lt, hlt⟩ ?_))
  refine wia ?_
  refine wsa ?_
  repeat refine Y00 ?_
  refine Y02 ?_
  refine wqa ?_
  ((repeat refine Y00 ?_); (refine Y03 tab_ok fun KR hKR => ?_)); ((refine wrb (F := _∧_) ⟨hlt, hx⟩ ?_))
  ((refine wka1 (hp x hm) ?_))
  ((refine wea ?_); (try clear hKR KR))
  cases hpx : p x
  ·refine wib hpx ?_
   refine wsa ?_
   refine wqa ?_
   refine ⟨k + 1, ⟨hlt, by rw [hi]; simp [idx, hpx]⟩, by omega, ?_⟩
   exact ele
  ·refine wib hpx ?_
   refine wqa ?_
   ((repeat refine Y00 ?_); (refine wta ?_); simp (disch := omega) only [retQ, resD, oneD, rsv, rs, rsL, Y0a, List.map_map, bb, bt, zDs, zD, Y01, simprocAttr, Tryz.results128, hi, idx, hpx])
 ·((refine wqb (F := _∧_) ⟨@Int.ofNat_lt, hlt⟩ ?_))
  refine wia ?_
  refine wxa ?_
  refine wqa ?_
  refine exq (F := _ ∧ _) ⟨Tryz.results128, hi⟩ ?_
  rw [List.drop_eq_nil_of_le (by omega)]; rfl
theorem Y3x (l : List D) (g : FuncId) (caps : List D) (p : D → Bool) (hl : l.length ≤ 1000000) (hp : ∀ x ∈ l, PRet Tryz.prog g ((x :: caps).map ufa) (bool (p x))) : PRet Tryz.prog 91 [.sl 1 l false, .fn g caps] (bool (l.any p)) := by
 refine pri 1 Tryz.func91 Tryz.ntmps91 fun t => ?_
 simp only [Y04]
 refine wqa ?_
 ((repeat refine Y00 ?_); (refine Y03 tab_ok fun KR hKR => ?_)); ((refine wra ?_))
 ((refine wka1 (Ydu l g caps p hl hp) ?_))
 ((refine wra ?_)); ((refine wea ?_); (try clear hKR KR))
 refine exq Tryz.results91 ?_
 rw [← Yao p l 0]
set_option maxHeartbeats 800000 in
theorem Ydt (l : List D) (g : FuncId) (caps : List D) (p : D → Bool) (hl : l.length ≤ 1000000) (hp : ∀ x ∈ l, PRet Tryz.prog g ((x :: caps).map ufa) (bool (p x))) : PRet Tryz.prog 165 [.sl 1 l false, .fn g caps] (int (idx p l 0)) := by
 refine pri 1 Tryz.func165 Tryz.ntmps165 fun t => ?_
 simp only [Y04]
 refine wqa ?_
 refine wqb @Nat.lt_one_iff ?_
 refine Y02 ?_
 refine Y05 (fun k : Nat => ⟨[(0, .sl 1 l false), (1, .fn g caps), (7, int l.length), (8, int k)], [], t⟩) (fun k => l.length - k) (fun k => k ≤ l.length ∧ idx p l 0 = idx p (l.drop k) k) 0 ⟨Nat.zero_le _, rfl⟩ ele fun k ⟨hk, hi⟩ => ?_
 by_cases hlt : k < l.length
 ·obtain ⟨x, hx⟩ : ∃ x, l[k]? = some x := ⟨_, List.getElem?_eq_getElem hlt⟩
  have hm := List.mem_of_getElem? hx
  have hd : l.drop k = x :: l.drop (k + 1) := by
   obtain ⟨h1, h2⟩ := List.getElem?_eq_some_iff.1 hx
   rw [List.drop_eq_getElem_cons h1, h2]
  rw [hd] at hi
  ((refine wqb (F := _∧_) ⟨@Int.ofNat_lt, hlt⟩ ?_))
  refine wia ?_
  refine wsa ?_
  repeat refine Y00 ?_
  refine Y02 ?_
  refine wqa ?_
  ((repeat refine Y00 ?_); (refine Y03 tab_ok fun KR hKR => ?_)); ((refine wrb (F := _∧_) ⟨hlt, hx⟩ ?_))
  ((refine wka1 (hp x hm) ?_))
  ((refine wea ?_); (try clear hKR KR))
  cases hpx : p x
  ·refine wib hpx ?_
   refine wsa ?_
   refine wqa ?_
   refine ⟨k + 1, ⟨hlt, by rw [hi]; simp [idx, hpx]⟩, by omega, ?_⟩
   exact ele
  ·refine wib hpx ?_
   refine wqa ?_
   ((repeat refine Y00 ?_); (refine wta ?_); simp (disch := omega) only [retQ, resD, oneD, rsv, rs, rsL, Y0a, List.map_map, bb, bt, zDs, zD, Y01, simprocAttr, Tryz.results165, hi, idx, hpx])
 ·((refine wqb (F := _∧_) ⟨@Int.ofNat_lt, hlt⟩ ?_))
  refine wia ?_
  refine wxa ?_
  refine wqa ?_
  refine exq (F := _ ∧ _) ⟨Tryz.results165, hi⟩ ?_
  rw [List.drop_eq_nil_of_le (by omega)]; rfl
theorem Y94 (l : List D) (g : FuncId) (caps : List D) (p : D → Bool) (hl : l.length ≤ 1000000) (hp : ∀ x ∈ l, PRet Tryz.prog g ((x :: caps).map ufa) (bool (p x))) : PRet Tryz.prog 140 [.sl 1 l false, .fn g caps] (bool (l.any p)) := by
 refine pri 1 Tryz.func140 Tryz.ntmps140 fun t => ?_
 simp only [Y04]
 refine wqa ?_
 ((repeat refine Y00 ?_); (refine Y03 tab_ok fun KR hKR => ?_)); ((refine wra ?_))
 ((refine wka1 (Ydt l g caps p hl hp) ?_))
 ((refine wra ?_)); ((refine wea ?_); (try clear hKR KR))
 refine exq Tryz.results140 ?_
 rw [← Yao p l 0]
def Y0u (l : List Int) (most : Int) : Bool := !(l.any fun n => decide (n < -most) || decide (most < n))
def D.num : D → Int
 | .v (.int _ n) => n
 | _ => 0
theorem Yun (q : Int → Bool) (l : List Int) : ((l.map int).any fun d => q d.num) = l.any q := by
 induction l with
 | nil => rfl
 | cons x r ih => rw [List.map_cons, List.any_cons, List.any_cons, ih]; rfl
theorem Yuw (l : List Int) (most : Int) (h : 0 ≤ most ∧ most ≤ 67108864) (hl : l.length ≤ 1000000) : PRet Tryz.prog 105 [ints l, int most] (bool (Y0u l most)) := by
 have hc := Y3x (l.map int) 142 [.rp [int most] 0] (fun d => decide (d.num < -most) || decide (most < d.num)) (by simpa using hl) (fun x hx => by
  obtain ⟨n, _, rfl⟩ := List.mem_map.1 hx
  exact Yvx n most h)
 rw [Yun (fun n => decide (n < -most) || decide (most < n))] at hc
 refine pri 1 Tryz.func105 Tryz.ntmps105 fun t => ?_
 simp only [Y04]
 refine wqa ?_
 ((refine AW.freeze (0) (by first | rfl | (simp only [setH, List.getElem?_cons_zero, List.getElem?_cons_succ]; done)) ?_); simp (disch := omega) only [fzT, fz, fzL, Y0p, Y0y, fzH, fzB, eq_self, bb, bt, zDs, zD, Y01, simprocAttr])
 ((repeat refine Y00 ?_); (refine Y03 tab_ok fun KR hKR => ?_)); ((refine wra ?_))
 refine wka1 hc ?_
 ((refine wra ?_)); ((refine wea ?_); (try clear hKR KR))
 refine exq Tryz.results105 ?_
 rfl
def Y1c (m : List (List Int)) : Bool := decide (1 ≤ m.length ∧ m.length ≤ 6) && (let n := (m.headD []).length; decide (1 ≤ n ∧ n ≤ 12) && m.all fun r => decide (r.length = n) && Y0u r 32)
theorem Yye (r : List Int) (n : Nat) (hl : r.length ≤ 1000000) (hn : n ≤ 1000000) : PRet Tryz.prog 141 [ints r, .rp [int n] 0] (bool (!(decide (r.length = n) && Y0u r 32))) := by
 refine pri 1 Tryz.func141 Tryz.ntmps141 fun t => ?_
 simp only [Y04]
 refine wqa ?_
 by_cases h : r.length = n
 ·have h1 : ((r.length : Int) != (n : Int)) = false := by simp [h]
  ((repeat refine Y00 ?_); (refine Y03 tab_ok fun KR hKR => ?_)); ((refine wrb (F := _∧_) ⟨@Nat.lt_one_iff, h1⟩ ?_))
  ((refine wka1 (Yuw r 32 (by omega) hl) ?_))
  ((refine wra ?_)); ((refine wea ?_); (try clear hKR KR))
  ((repeat refine Y00 ?_); (refine wta ?_); simp (disch := omega) only [retQ, resD, oneD, rsv, rs, rsL, Y0a, List.map_map, bb, bt, zDs, zD, Y01, simprocAttr, Tryz.results141, h, decide_true, Bool.true_and])
 ·have h1 : ((r.length : Int) != (n : Int)) = true := by simpa using fun e => h (by omega)
  ((refine wqb (F := _∧_) ⟨@Nat.lt_one_iff, h1⟩ ?_))
  ((repeat refine Y00 ?_); (refine wta ?_); simp (disch := omega) only [retQ, resD, oneD, rsv, rs, rsL, Y0a, List.map_map, bb, bt, zDs, zD, Y01, simprocAttr, Tryz.results141, h, decide_false, Bool.false_and])
def D.ints : D → List Int
 | .sl _ cs _ => cs.map D.num
 | _ => []
theorem D.ints_ints (l : List Int) : (T.ints l).ints = l := by
 show (l.map int).map D.num = l
 rw [List.map_map]
 exact List.map_id l
theorem Yum (q : List Int → Bool) (m : List (List Int)) : ((m.map T.ints).any fun d => q d.ints) = m.any q := by
 induction m with
 | nil => rfl
 | cons x r ih => rw [List.map_cons, List.any_cons, List.any_cons, ih, D.ints_ints]
theorem Yyf (m : List (List Int)) (hm : m.length ≤ 1000000) (hl : ∀ r ∈ m, r.length ≤ 1000000) : PRet Tryz.prog 104 [mat m] (bool (Y1c m)) := by
 refine pri 1 Tryz.func104 Tryz.ntmps104 fun t => ?_
 simp only [Y04]
 refine wqa ?_
 by_cases h1 : (m.length : Int) < 1
 ·((refine wqb (F := _∧_) ⟨h1, @Nat.lt_one_iff⟩ ?_))
  refine wia ?_
  refine wqa ?_
  refine exq Tryz.results104 ?_
  have : Y1c m = false := by unfold Y1c; rw [decide_eq_false (by omega)]; rfl
  rw [this]
 by_cases h2 : (6 : Int) < m.length
 ·((refine wqb (F := _∧_∧_) ⟨h1, h2, @Nat.lt_one_iff⟩ ?_))
  refine wia ?_
  refine wqa ?_
  refine exq Tryz.results104 ?_
  have : Y1c m = false := by unfold Y1c; rw [decide_eq_false (by omega)]; rfl
  rw [this]
 ((refine wqb (F := _∧_∧_) ⟨h1, h2, @Nat.lt_one_iff⟩ ?_))
 refine wia ?_
 refine wsa ?_
 obtain ⟨r0, m', rfl⟩ : ∃ r0 m', m = r0 :: m' := by
  cases m with
  | nil => simp at h1
  | cons a b => exact ⟨a, b, rfl⟩
 refine wqb @Nat.lt_one_iff ?_
 ((refine AW.freeze (0) (by first | rfl | (simp only [setH, List.getElem?_cons_zero, List.getElem?_cons_succ]; done)) ?_); simp (disch := omega) only [fzT, fz, fzL, Y0p, Y0y, fzH, fzB, eq_self, bb, bt, zDs, zD, Y01, simprocAttr])
 have e0 : Y1c (r0 :: m') = (decide (1 ≤ r0.length ∧ r0.length ≤ 12) && (r0 :: m').all fun r => decide (r.length = r0.length) && Y0u r 32) := by
  unfold Y1c
  rw [decide_eq_true (p := 1 ≤ (r0 :: m').length ∧ _) (by omega), Bool.true_and]
  rfl
 by_cases h3 : (1 : Int) ≤ r0.length
 ·by_cases h4 : (r0.length : Int) ≤ 12
  ·have hr0 := hl r0 (by simp)
   have hc := Y94 ((r0 :: m').map ints) 141 [.rp [int r0.length] 0] (fun d => (fun r => !(decide (r.length = r0.length) && Y0u r 32)) d.ints) (by simpa using hm) (fun x hx => by
    obtain ⟨r, hr, rfl⟩ := List.mem_map.1 hx
    simp only [D.ints_ints]
    exact Yye r r0.length (hl r hr) hr0)
   rw [Yum (fun r => !(decide (r.length = r0.length) && Y0u r 32))] at hc
   ((repeat refine Y00 ?_); (refine Y03 tab_ok fun KR hKR => ?_)); ((refine wrb (F := _∧_) ⟨h3, h4⟩ ?_))
   refine wka1 hc ?_
   ((refine wra ?_)); ((refine wea ?_); (try clear hKR KR))
   refine exq Tryz.results104 ?_
   rw [e0, decide_eq_true (p := 1 ≤ r0.length ∧ _) (by omega), Bool.true_and, List.not_any_eq_all_not]
   simp
  ·((refine wqb (F := _∧_) ⟨h3, h4⟩ ?_))
   refine exq Tryz.results104 ?_
   rw [e0, decide_eq_false (p := 1 ≤ r0.length ∧ _) (by omega), Bool.false_and]
 ·refine wqb h3 ?_
  refine exq Tryz.results104 ?_
  rw [e0, decide_eq_false (p := 1 ≤ r0.length ∧ _) (by omega), Bool.false_and]
end Go.Proofs.YtpbpafmgkdihlaaGreatDoor.T
