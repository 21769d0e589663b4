import Derived.Test.YtpbpafmgkdihlaaGreatDoorQTB
import Derived.Test.YtpbpafmgkdihlaaGreatDoorQLSJWRJ
import Derived.Test.YtpbpafmgkdihlaaGreatDoorQWRS
import Derived.Test.YtpbpafmgkdihlaaGreatDoorQWH
import Derived.Test.YtpbpafmgkdihlaaGreatDoorQWN
import Derived.Test.YtpbpafmgkdihlaaGreatDoorQWX
import Derived.Test.YtpbpafmgkdihlaaGreatDoorQDep
import Derived.Test.YtpbpafmgkdihlaaGreatDoorQLSA
import Derived.Test.YtpbpafmgkdihlaaGreatDoorQWJK
import Derived.Test.YtpbpafmgkdihlaaGreatDoorQSFJ
import Derived.Test.YtpbpafmgkdihlaaGreatDoorQSHJ
set_option linter.all false
namespace Go.Proofs.YtpbpafmgkdihlaaGreatDoor.T
open Go Go.RowKit Lin
theorem Yi5 (l : List (Int × Int)) (g : FuncId) (caps : List D) (p : Int × Int → Bool) (hl : l.length ≤ 1000000) (hp : ∀ x ∈ l, PRet Tryz.prog g ((frD x :: caps).map ufa) (bool (p x))) : PRet Tryz.prog 137 [frs l, .fn g caps] (int (idx p l 0)) := by
 refine pri 1 Tryz.func137 Tryz.ntmps137 fun t => ?_
 simp only [Y04]
 have hla := Y1s l
 have ha2 : (frC l).length / 2 = l.length := by omega
 refine ggb0 ha2 ?_
 repeat refine Y00 ?_
 refine Y02 ?_
 refine Y05 (fun k : Nat => ⟨[(0, frs l), (1, .fn g caps), (7, int l.length), (8, int k)], [], t⟩) (fun k => l.length - k) (fun k => k ≤ l.length ∧ idx p l 0 = idx p (l.drop k) k) 0 ⟨Nat.zero_le _, rfl⟩ ele fun k ⟨hk, hi⟩ => ?_
 by_cases hlt : k < l.length
 ·obtain ⟨x, hx⟩ : ∃ x, l[k]? = some x := ⟨_, List.getElem?_eq_getElem hlt⟩
  have hm := List.mem_of_getElem? hx
  have hd : l.drop k = x :: l.drop (k + 1) := by
   obtain ⟨h1, h2⟩ := List.getElem?_eq_some_iff.1 hx
   rw [List.drop_eq_getElem_cons h1, h2]
  rw [hd] at hi
  have hra := Y1p l k x hx
  have hc := hp x hm
  ((refine ggb0 (F := _∧_) ⟨@Int.ofNat_lt, hlt⟩ ?_))
  repeat refine Y00 ?_
  refine Y02 ?_
  cases hpx : p x
  ·rw [hpx] at hc
   ((refine ggb0 (F := _∧_∧_) ⟨ha2, hlt, hra⟩ ?_))
   refine wka1 hc ?_
   refine gga0 ?_
   refine ⟨k + 1, ⟨hlt, by rw [hi]; simp [idx, hpx]⟩, by omega, ?_⟩
   exact ele
  ·rw [hpx] at hc
   ((refine ggb0 (F := _∧_∧_) ⟨ha2, hlt, hra⟩ ?_))
   refine wka1 hc ?_
   refine gga0 ?_
   ((repeat refine Y00 ?_); (refine wta ?_); simp (disch := omega) only [retQ, resD, oneD, rsv, rs, rsL, Y0a, List.map_map, bb, bt, zDs, zD, Y01, simprocAttr, Tryz.results137, hi, idx, hpx])
 ·((refine ggb0 (F := _∧_) ⟨@Int.ofNat_lt, hlt⟩ ?_))
  refine exq (F := _ ∧ _) ⟨Tryz.results137, hi⟩ ?_
  rw [List.drop_eq_nil_of_le (by omega)]; rfl
def allV (l : List (Int × Int)) : Bool := l.all fun x => Y09 x.1 x.2
def dotF : List Int → List (Int × Int) → Int × Int → (Int × Int) × Int
 | n :: r, f :: x, s => if (mulP (n, 1) f).2 = 0 then (if (addP s (mulP (n, 1) f).1).2 = 0 then dotF r x (addP s (mulP (n, 1) f).1).1 else ((0, 0), (addP s (mulP (n, 1) f).1).2)) else ((0, 0), (mulP (n, 1) f).2)
 | _, _, s => (s, 0)
def Yhi (x : List (Int × Int)) (acc : List (Int × Int)) : List (List Int) → List (Int × Int) × Int
 | [] => (acc, 0)
 | r :: m => if (dotF r x (0, 1)).2 = 0 then Yhi x (acc ++ [(dotF r x (0, 1)).1]) m else ([], (dotF r x (0, 1)).2)
def Ysm (m : List (List Int)) (x : List (Int × Int)) : List (Int × Int) × Int := if Y1c m = true ∧ allV x = true then (if x.length = wid m then Yhi x [] m else ([], 3)) else ([], 1)
theorem Y3g {a d : Nat} {s : Bool} (hd : 0 < d) (h : (Y1o a s d).2 = 0) : Y09 (Y1o a s d).1.1 (Y1o a s d).1.2 = true := by
 have hg : 0 < Nat.gcd a d := Nat.gcd_pos_of_pos_right _ hd
 have hc := Nat.coprime_div_gcd_div_gcd hg
 have hp : 0 < d / Nat.gcd a d := Nat.div_pos (Nat.le_of_dvd hd (Nat.gcd_dvd_right _ _)) hg
 have e : Y1o a s d = Y2l s (a / Nat.gcd a d) (d / Nat.gcd a d) := by unfold Y1o; rw [if_neg (by omega)]
 rw [e] at h ⊢
 generalize a / Nat.gcd a d = n at *
 generalize d / Nat.gcd a d = k at *
 unfold Y2l at h ⊢
 split at h
 ·simp at h
 ·rename_i hs
  rw [if_neg hs]
  have hc' : Nat.gcd n k = 1 := hc
  unfold Y09
  cases s
  ·simp [hc']; omega
  ·simp [hc']; omega
theorem Y8g {a b : Int × Int} (ha : Y09 a.1 a.2 = true) (hb : Y09 b.1 b.2 = true) (h : (mulR a b).2 = 0) : Y09 (mulR a b).1.1 (mulR a b).1.2 = true := by
 obtain ⟨a1, _⟩ := Y0c ha
 obtain ⟨b1, _⟩ := Y0c hb
 exact Y3g (Nat.mul_pos (by omega) (by omega)) h
theorem Y6d {a b : Int × Int} (ha : Y09 a.1 a.2 = true) (hb : Y09 b.1 b.2 = true) (h : (addR a b).2 = 0) : Y09 (addR a b).1.1 (addR a b).1.2 = true := by
 obtain ⟨a1, _⟩ := Y0c ha
 obtain ⟨b1, _⟩ := Y0c hb
 have hp : 0 < a.2.natAbs * b.2.natAbs := Nat.mul_pos (by omega) (by omega)
 unfold addR at h ⊢
 split at h
 ·rename_i h1; rw [if_pos h1]; exact Y3g hp h
 ·rename_i h1
  rw [if_neg h1]
  split at h
  ·rename_i h2; rw [if_pos h2]; exact Y3g hp h
  ·rename_i h2; rw [if_neg h2]; exact Y3g hp h
theorem Ydo {a b : Int × Int} (ha : Y09 a.1 a.2 = true) (hb : Y09 b.1 b.2 = true) : mulP a b = mulR a b := by unfold mulP; rw [if_pos ⟨ha, hb⟩]
theorem Yrm {a b : Int × Int} (ha : Y09 a.1 a.2 = true) (hb : Y09 b.1 b.2 = true) : addP a b = addR a b := by unfold addP; rw [if_pos ⟨ha, hb⟩]
theorem Y2v {n : Int} (h : -1152921504606846976 ≤ n ∧ n ≤ 1152921504606846976) : Y09 n 1 = true := by
 unfold Y09; simp; omega
theorem Y6t : ∀ (n : Nat) (l : List Nat), l.Pairwise (· < ·) → (∀ p ∈ l, p < n) → l.length = n → l = List.range n
 | 0, l, _, _, h => by rw [List.eq_nil_of_length_eq_zero h]; rfl
 | n + 1, l, h1, h2, h3 => by
  rcases List.eq_nil_or_concat l with rfl | ⟨l', x, rfl⟩
  ·simp at h3
  ·simp only [List.concat_eq_append] at *
   rw [List.pairwise_append] at h1
   obtain ⟨p1, _, p3⟩ := h1
   have hx := h2 x (by simp)
   have hl : l'.length = n := by simpa using h3
   have ih := Y6t n l' p1 (fun p hp => by have := p3 p hp x (by simp); omega) hl
   have hxn : x = n := by
    cases n with
    | zero => omega
    | succ k =>
     have := p3 k (by rw [ih]; simp) x (by simp)
     omega
   rw [ih, hxn, List.range_succ]
theorem Yxv (m : List (List Int)) (i j : Nat) : at_ (colP m i) j = at_ (row m j) i := by
 unfold colP row
 simp only [at_, List.getElem?_map]
 cases m[j]? with
 | none => simp
 | some r => simp
theorem pick {m : List (List Int)} : ∀ {S : List Row}, (∀ s ∈ S, s ∈ m.map at_) → ∃ is : List Nat, (∀ i ∈ is, i < m.length) ∧ S = is.map fun i j => at_ (row m i) j
 | [], _ => ⟨[], by simp, rfl⟩
 | s :: S, h => by
  obtain ⟨is, h1, h2⟩ := pick fun x hx => h x (List.mem_cons_of_mem _ hx)
  obtain ⟨r, hr, he⟩ := List.mem_map.1 (h s (by simp))
  obtain ⟨i, hi⟩ := List.mem_iff_getElem?.1 hr
  have hil := (List.getElem?_eq_some_iff.1 hi).1
  refine ⟨i :: is, fun x hx => ?_, ?_⟩
  ·rcases List.mem_cons.1 hx with rfl | hx
   ·exact hil
   ·exact h1 x hx
  ·rw [List.map_cons, ← h2, ← he]
   have : row m i = r := by simp [row, hi]
   rw [this]
theorem Y10e {m : List (List Int)} {wd : Nat} (hs : Small m wd wd) : IsRank (m.map at_) wd (Yod m wd) := by
 have h1 := (Y42 (Y3p m wd) hs.lens wd (Nat.le_refl _)).isRank
 rw [← Y5a] at h1
 exact h1
end Go.Proofs.YtpbpafmgkdihlaaGreatDoor.T
section
namespace Go.Proofs.YtpbpafmgkdihlaaGreatDoor.T
open Go Go.RowKit Lin
theorem Ypg {a d : Nat} {s : Bool} (hd : 0 < d) (h : (Y1o a s d).2 = 0) : (Y1o a s d).1.1 * (d : Int) = sg s a * (Y1o a s d).1.2 := by
 have hg : 0 < Nat.gcd a d := Nat.gcd_pos_of_pos_right _ hd
 have e1 := Nat.div_mul_cancel (Nat.gcd_dvd_left a d)
 have e2 := Nat.div_mul_cancel (Nat.gcd_dvd_right a d)
 have e : Y1o a s d = Y2l s (a / Nat.gcd a d) (d / Nat.gcd a d) := by unfold Y1o; rw [if_neg (by omega)]
 rw [e] at h ⊢
 generalize a / Nat.gcd a d = n at *
 generalize d / Nat.gcd a d = k at *
 generalize Nat.gcd a d = g at *
 unfold Y2l at h ⊢
 split at h
 ·simp at h
 ·rename_i hs
  rw [if_neg hs, ← e1, ← e2]
  unfold sg
  cases s
  ·simp only [Bool.false_eq_true, if_false, Int.natCast_mul]
   ac_rfl
  ·simp only [if_true, Int.natCast_mul, Int.neg_mul]
   congr 1
   ac_rfl
theorem Yzf {a b : Int × Int} (ha : Y09 a.1 a.2 = true) (hb : Y09 b.1 b.2 = true) (h : (mulR a b).2 = 0) : (mulR a b).1.1 * (a.2 * b.2) = a.1 * b.1 * (mulR a b).1.2 := by
 obtain ⟨a1, _⟩ := Y0c ha
 obtain ⟨b1, _⟩ := Y0c hb
 have hq := Ypg (s := decide (a.1 < 0) != decide (b.1 < 0)) (a := a.1.natAbs * b.1.natAbs) (d := a.2.natAbs * b.2.natAbs) (Nat.mul_pos (by omega) (by omega)) h
 have e1 : ((a.2.natAbs * b.2.natAbs : Nat) : Int) = a.2 * b.2 := by
  rw [Int.natCast_mul, Int.natAbs_of_nonneg (by omega), Int.natAbs_of_nonneg (by omega)]
 have e2 : sg (decide (a.1 < 0) != decide (b.1 < 0)) ((a.1.natAbs * b.1.natAbs : Nat) : Int) = a.1 * b.1 := by
  rw [Yny a.1 b.1, Int.natCast_mul]
 rw [e1, e2] at hq
 exact hq
theorem Ygu (a : Int) : a = sg (decide (a < 0)) (a.natAbs : Int) := by
 unfold sg
 by_cases h : a < 0
 ·rw [if_pos (by simpa using h)]; omega
 ·rw [if_neg (by simpa using h)]; omega
theorem Y5l (s : Bool) (a b : Int) : sg s a * b = sg s (a * b) := by
 unfold sg; cases s <;> simp [Int.neg_mul]
theorem Ynz {p q : Bool} (h : ¬ p = q) (P R : Int) : sg q (R - P) = sg p P + sg q R := by
 unfold sg; cases p <;> cases q <;> simp at h ⊢ <;> omega
theorem Yjd {p q : Bool} (h : ¬ p = q) (P R : Int) : sg p (P - R) = sg p P + sg q R := by
 unfold sg; cases p <;> cases q <;> simp at h ⊢ <;> omega
theorem Yy2 {a b : Int × Int} (ha : Y09 a.1 a.2 = true) (hb : Y09 b.1 b.2 = true) (h : (addR a b).2 = 0) : (addR a b).1.1 * (a.2 * b.2) = (a.1 * b.2 + b.1 * a.2) * (addR a b).1.2 := by
 obtain ⟨a1, _⟩ := Y0c ha
 obtain ⟨b1, _⟩ := Y0c hb
 have hp : 0 < a.2.natAbs * b.2.natAbs := Nat.mul_pos (by omega) (by omega)
 have e1 : ((a.2.natAbs * b.2.natAbs : Nat) : Int) = a.2 * b.2 := by
  rw [Int.natCast_mul, Int.natAbs_of_nonneg (by omega), Int.natAbs_of_nonneg (by omega)]
 have x1 : ((a.1.natAbs * b.2.natAbs : Nat) : Int) = (a.1.natAbs : Int) * b.2 := by rw [Int.natCast_mul, Int.natAbs_of_nonneg (by omega : 0 ≤ b.2)]
 have y1 : ((b.1.natAbs * a.2.natAbs : Nat) : Int) = (b.1.natAbs : Int) * a.2 := by rw [Int.natCast_mul, Int.natAbs_of_nonneg (by omega : 0 ≤ a.2)]
 have sa := Ygu a.1
 have sb := Ygu b.1
 have key : ∀ (s : Bool) (z : Nat), addR a b = Y1o z s (a.2.natAbs * b.2.natAbs) → sg s (z : Int) = a.1 * b.2 + b.1 * a.2 → (addR a b).1.1 * (a.2 * b.2) = (a.1 * b.2 + b.1 * a.2) * (addR a b).1.2 := fun s z hz hv => by
  rw [hz] at h ⊢
  have := Ypg hp h
  rw [e1, hv] at this
  exact this
 by_cases h1 : decide (a.1 < 0) = decide (b.1 < 0)
 ·refine key (decide (a.1 < 0)) (a.1.natAbs * b.2.natAbs + b.1.natAbs * a.2.natAbs) (by unfold addR; rw [if_pos h1]) ?_
  rw [Int.natCast_add, x1, y1]
  rw [← h1] at sb
  conv => rhs; rw [sa, sb]
  unfold sg
  cases decide (a.1 < 0)
  ·simp
  ·simp [Int.neg_mul, Int.neg_add]
 ·by_cases h2 : a.1.natAbs * b.2.natAbs < b.1.natAbs * a.2.natAbs
  ·refine key (decide (b.1 < 0)) (b.1.natAbs * a.2.natAbs - a.1.natAbs * b.2.natAbs) (by unfold addR; rw [if_neg h1, if_pos h2]) ?_
   rw [Int.natCast_sub (by omega), x1, y1]
   conv => rhs; rw [sa, sb]
   rw [Y5l, Y5l]
   clear sa sb key x1 y1
   generalize (a.1.natAbs : Int) * b.2 = P
   generalize (b.1.natAbs : Int) * a.2 = R
   exact Ynz h1 P R
  ·refine key (decide (a.1 < 0)) (a.1.natAbs * b.2.natAbs - b.1.natAbs * a.2.natAbs) (by unfold addR; rw [if_neg h1, if_neg h2]) ?_
   rw [Int.natCast_sub (by omega), x1, y1]
   conv => rhs; rw [sa, sb]
   rw [Y5l, Y5l]
   clear sa sb key x1 y1
   generalize (a.1.natAbs : Int) * b.2 = P
   generalize (b.1.natAbs : Int) * a.2 = R
   exact Yjd h1 P R
def sumN (F : Nat → Int) : Nat → Int
 | 0 => 0
 | n + 1 => F n + sumN F n
theorem Y0s {F G : Nat → Int} : ∀ n, (∀ k, k < n → F k = G k) → sumN F n = sumN G n
 | 0, _ => rfl
 | n + 1, h => by simp only [sumN]; rw [h n (by omega), Y0s n fun k hk => h k (by omega)]
theorem Y77 (F G : Nat → Int) : ∀ n, sumN (fun k => F k + G k) n = sumN F n + sumN G n
 | 0 => rfl
 | n + 1 => by simp only [sumN]; rw [Y77 F G n]; omega
theorem Y2b (c : Int) (F : Nat → Int) : ∀ n, sumN (fun k => c * F k) n = c * sumN F n
 | 0 => by simp [sumN]
 | n + 1 => by simp only [sumN]; rw [Y2b c F n, Int.mul_add]
theorem Y4d : ∀ n, sumN (fun _ => 0) n = 0
 | 0 => rfl
 | n + 1 => by simp only [sumN]; rw [Y4d n]; rfl
theorem Ya1 (F : Nat → Int) : ∀ n, sumN F (n + 1) = F 0 + sumN (fun k => F (k + 1)) n
 | 0 => rfl
 | n + 1 => by
  rw [sumN, Ya1 F n]
  simp only [sumN]
  omega
theorem Y4i {a b c : Int} (hc : c ≠ 0) (h : a * c = b * c) : a = b := Int.eq_of_mul_eq_mul_right hc h
theorem Yzx (den : Int) (hden : den ≠ 0) : ∀ (r : List Int) (x : List (Int × Int)) (X : Nat → Int) (s : Int × Int) (S : Int), r.length = x.length → (∀ n ∈ r, -32 ≤ n ∧ n ≤ 32) → allV x = true → (∀ k f, x[k]? = some f → f.1 * den = X k * f.2) → Y09 s.1 s.2 = true → s.1 * den = S * s.2 →
    ((dotF r x s).2 = 0 ∧ Y09 (dotF r x s).1.1 (dotF r x s).1.2 = true ∧ (dotF r x s).1.1 * den = (S + sumN (fun k => at_ r k * X k) r.length) * (dotF r x s).1.2) ∨ (dotF r x s).2 = 5
  | [], [], X, s, S, _, _, _, _, hs, hS => .inl ⟨rfl, hs, by simp only [dotF, List.length_nil, sumN, Int.add_zero]; exact hS⟩
  | [], _ :: _, _, _, _, h, _, _, _, _, _ => by simp at h
  | _ :: _, [], _, _, _, h, _, _, _, _, _ => by simp at h
  | n :: r, f :: x, X, s, S, hl, hr, hx, hX, hs, hS => by
    have hn : Y09 n 1 = true := Y2v (by have := hr n (by simp); omega)
    have hxs : allV (f :: x) = (Y09 f.1 f.2 && allV x) := rfl
    rw [hxs, Bool.and_eq_true] at hx
    obtain ⟨f1, f2, f3, f4, f5⟩ := Y0c hx.1
    obtain ⟨s1, _⟩ := Y0c hs
    have hm := Ydo (a := (n, 1)) (b := f) hn hx.1
    have big : ∀ (a d : Nat) (b : Bool), 0 < d → (Y1o a b d).2 = 0 ∨ (Y1o a b d).2 = 5 := fun a d b hd => by
      unfold Y1o Y2l
      rw [if_neg (by omega)]
      split <;> simp
    simp only [dotF]
    rw [hm]
    by_cases z1 : (mulR (n, 1) f).2 = 0
    rotate_left 1
    · rw [if_neg z1]
      right
      exact (big _ _ _ (Nat.mul_pos (by simp) (by omega))).resolve_left z1
    rw [if_pos z1]
    have hq := Yzf hn hx.1 z1
    have hv := Y8g hn hx.1 z1
    generalize (mulR (n, 1) f).1 = t at *
    obtain ⟨t1, _⟩ := Y0c hv
    have ha := Yrm hs hv
    rw [ha]
    by_cases z2 : (addR s t).2 = 0
    rotate_left 1
    · rw [if_neg z2]
      right
      have hp : 0 < s.2.natAbs * t.2.natAbs := Nat.mul_pos (by omega) (by omega)
      refine Or.resolve_left ?_ z2
      unfold addR
      split
      · exact big _ _ _ hp
      · split <;> exact big _ _ _ hp
    rw [if_pos z2]
    have hq2 := Yy2 hs hv z2
    have hv2 := Y6d hs hv z2
    generalize (addR s t).1 = w at *
    have h0 := hX 0 f (by simp)
    have ht : t.1 * den = n * X 0 * t.2 := by
      refine Y4i (c := f.2) (by omega) ?_
      simp only [Int.one_mul] at hq
      calc t.1 * den * f.2 = (t.1 * f.2) * den := by ac_rfl
        _ = (n * f.1 * t.2) * den := by rw [hq]
        _ = n * t.2 * (f.1 * den) := by ac_rfl
        _ = n * t.2 * (X 0 * f.2) := by rw [h0]
        _ = n * X 0 * t.2 * f.2 := by ac_rfl
    have hw : w.1 * den = (S + n * X 0) * w.2 := by
      refine Y4i (c := s.2 * t.2) (Int.ne_of_gt (Int.mul_pos (by omega) (by omega))) ?_
      calc w.1 * den * (s.2 * t.2) = (w.1 * (s.2 * t.2)) * den := by ac_rfl
        _ = ((s.1 * t.2 + t.1 * s.2) * w.2) * den := by rw [hq2]
        _ = (s.1 * den * t.2 + t.1 * den * s.2) * w.2 := by rw [Int.add_mul, Int.add_mul, Int.add_mul]; ac_rfl
        _ = (S * s.2 * t.2 + n * X 0 * t.2 * s.2) * w.2 := by rw [hS, ht]
        _ = (S + n * X 0) * w.2 * (s.2 * t.2) := by rw [Int.add_mul, Int.add_mul, Int.add_mul]; ac_rfl
    have ih := Yzx den hden r x (fun k => X (k + 1)) w (S + n * X 0) (by simpa using hl) (fun y hy => hr y (List.mem_cons_of_mem _ hy)) hx.2 (fun k g hg => hX (k + 1) g (by simpa using hg)) hv2 hw
    refine ih.imp ?_ id
    rintro ⟨k1, k2, k3⟩
    refine ⟨k1, k2, ?_⟩
    rw [k3, List.length_cons, Ya1]
    have e0 : at_ (n :: r) 0 = n := rfl
    have e1 : (fun k => at_ (n :: r) (k + 1) * X (k + 1)) = fun k => at_ r k * X (k + 1) := by
      funext k; simp [at_]
    rw [e0, e1]
    congr 1
    omega
theorem whole {s : Int × Int} {den b : Int} (hs : Y09 s.1 s.2 = true) (hden : den ≠ 0) (h : s.1 * den = b * den * s.2) : s = (b, 1) := by
 obtain ⟨s1, _, _, _, s5⟩ := Y0c hs
 have e : s.1 = b * s.2 := Y4i hden (by rw [h]; ac_rfl)
 have hd : s.2.natAbs ∣ s.1.natAbs := by rw [e, Int.natAbs_mul]; exact Nat.dvd_mul_left _ _
 have h1 : s.2.natAbs = 1 := by
  have := Nat.dvd_gcd hd (Nat.dvd_refl _)
  have e5 : Nat.gcd s.1.natAbs s.2.natAbs = 1 := s5
  rw [e5] at this
  exact Nat.dvd_one.1 this
 have h2 : s.2 = 1 := by omega
 rw [h2, Int.mul_one] at e
 exact Prod.ext e h2
def dsum (g : Nat → Int) (S : List Row) (j : Nat) : List Nat → List Nat → Int
 | _, [] => 0
 | pre, c :: r => g c * w S (pre ++ j :: r) + dsum g S j (pre ++ [c]) r
theorem Ywc (n : Nat) (x y : Int) : sgn n (x + y) = sgn n x + sgn n y := by
 induction n with
 | zero => rfl
 | succ n ih => simp only [sgn]; rw [ih]; omega
theorem Ywb (n : Nat) (x : Int) : sgn n (-x) = - sgn n x := by
 induction n with
 | zero => rfl
 | succ n ih => simp only [sgn]; rw [ih]
theorem Yqd (g : Nat → Int) (S : List Row) (j : Nat) : ∀ (C pre : List Nat), sgn pre.length (ex (fun c rest => g c * w S (j :: (pre ++ rest))) C) = dsum g S j pre C
 | [], pre => by simp only [ex, dsum]; exact Y7e _
 | c :: r, pre => by
  have ih := Yqd g S j r (pre ++ [c])
  have e : (fun d r' => g d * w S (j :: (pre ++ c :: r'))) = fun d r' => g d * w S (j :: ((pre ++ [c]) ++ r')) := by
   funext d r'; simp
  have hf := Y6n S j [] pre r
  simp only [List.nil_append] at hf
  simp only [ex, dsum]
  rw [e, ← ih, hf, Int.sub_eq_add_neg, Ywc, Ynx, List.length_append]
  congr 1
  simp only [List.length_cons, List.length_nil, sgn]
  exact Ywb _ _
def tsum (g F : Nat → Int) : List Nat → Int
 | [] => 0
 | c :: r => g c * F r.length + tsum g F r
theorem Ygh {M : List (List Int)} {wd c : Nat} {f : Frm} (h : Lin.Inv M wd c f) (g : Nat → Int) {j : Nat} (hj : j < wd) : ∀ (C pre : List Nat), CC f = pre ++ C → dsum g (SS M f) j pre C = tsum g (fun k => Lin.at_ (Lin.row f.rows k) j) C
 | [], _, _ => rfl
 | c :: r, pre, e => by
  simp only [dsum, tsum]
  rw [h.piv pre r c e j hj, Ygh h g hj r (pre ++ [c]) (by rw [e]; simp)]
theorem Yev (g F : Nat → Int) (l : List Nat) : ∀ i, i ≤ l.length → tsum g F (l.take i).reverse = sumN (fun k => g ((l[k]?).getD 0) * F k) i
 | 0, _ => rfl
 | i + 1, hi => by
  have hl : l[i]? = some l[i] := List.getElem?_eq_getElem (by omega)
  rw [List.take_add_one, hl, Option.toList_some, List.reverse_append, List.reverse_cons, List.reverse_nil, List.nil_append, List.cons_append, List.nil_append]
  simp only [tsum, sumN, List.length_reverse]
  rw [Yev g F l i (by omega), hl, List.length_take, Nat.min_eq_left (by omega)]
  rfl
theorem Yn9 {M : List (List Int)} {wd c : Nat} {f : Frm} (h : Lin.Inv M wd c f) {j : Nat} (hj : j < wd) (hv : Van (M.map Lin.at_) (SS M f) (CC f) j) {s : List Int} (hs : s ∈ M) :
    Lin.at_ s j * f.den = sumN (fun k => Lin.at_ s ((f.pivots[k]?).getD 0) * Lin.at_ (Lin.row f.rows k) j) f.pivots.length := by
  have e := hv (Lin.at_ s) (List.mem_map.2 ⟨s, hs, rfl⟩)
  have e2 := Y2h (Lin.at_ s) (SS M f) j (CC f)
  rw [show w (Lin.at_ s :: SS M f) (j :: CC f) = 0 from e] at e2
  have e3 := Yqd (Lin.at_ s) (SS M f) j (CC f) []
  simp only [List.length_nil, List.nil_append, sgn] at e3
  rw [Ygh h (Lin.at_ s) hj (CC f) [] (by simp)] at e3
  have e4 := Yev (Lin.at_ s) (fun k => Lin.at_ (Lin.row f.rows k) j) f.pivots f.pivots.length (Nat.le_refl _)
  rw [List.take_of_length_le (Nat.le_refl _)] at e4
  rw [← e4, h.den]
  rw [show f.pivots.reverse = CC f from rfl, ← e3]
  omega
theorem Yjy {M : List (List Int)} {wd n : Nat} {f : Frm} (h : Lin.Inv M wd n f) (hk : f.pivots.length = n) {j : Nat} (hj : j < wd) (hv : Van (M.map Lin.at_) (SS M f) (CC f) j) {s : List Int} (hs : s ∈ M) :
    Lin.at_ s j * f.den = sumN (fun k => Lin.at_ s k * Lin.at_ (Lin.row f.rows k) j) n := by
  have hp := Y6t n f.pivots h.nd h.lt hk
  rw [Yn9 h hj hv hs, hk]
  refine Y0s n fun k hkn => ?_
  rw [hp]
  simp [hkn]
theorem Y8i {n d : Int} (hd : d ≠ 0) (h : (Y1b n d).2 = 0) : Y09 (Y1b n d).1.1 (Y1b n d).1.2 = true ∧ (Y1b n d).1.1 * d = n * (Y1b n d).1.2 := by
 rw [Ypd] at h ⊢
 have hp : 0 < d.natAbs := by omega
 refine ⟨Y3g hp h, ?_⟩
 have hq := Ypg hp h
 generalize (Y1o n.natAbs (decide (n < 0) != decide (d < 0)) d.natAbs).1 = r at *
 have sn := Ygu n
 by_cases h1 : d < 0
 ·have e : (d.natAbs : Int) = -d := by omega
  rw [e, decide_eq_true h1] at hq
  have e2 : sg (decide (n < 0) != true) (n.natAbs : Int) = -n := by
   conv => rhs; rw [sn]
   unfold sg
   cases decide (n < 0) <;> simp
  rw [e2, Int.mul_neg, Int.neg_mul] at hq
  omega
 ·have e : (d.natAbs : Int) = d := by omega
  rw [e, decide_eq_false h1] at hq
  have e2 : sg (decide (n < 0) != false) (n.natAbs : Int) = n := by
   conv => rhs; rw [sn]
   cases decide (n < 0) <;> rfl
  rw [e2] at hq
  exact hq
theorem Ybw (x : List (Int × Int)) : ∀ (m : List (List Int)) (bs : List Int) (acc : List (Int × Int)), m.length = bs.length → (∀ (i : Nat) (r : List Int) (b : Int), m[i]? = some r → bs[i]? = some b → dotF r x (0, 1) = ((b, 1), 0) ∨ (dotF r x (0, 1)).2 = 5) →
    Yhi x acc m = (acc ++ bs.map (fun b => (b, 1)), 0) ∨ Yhi x acc m = ([], 5)
  | [], [], acc, _, _ => .inl (by simp [Yhi])
  | [], _ :: _, _, h, _ => by simp at h
  | _ :: _, [], _, h, _ => by simp at h
  | r :: m, b :: bs, acc, hl, h => by
    simp only [Yhi]
    rcases h 0 r b (by simp) (by simp) with e | e
    · rw [e, if_pos rfl]
      have ih := Ybw x m bs (acc ++ [(b, 1)]) (by simpa using hl) fun (i : Nat) (r' : List Int) (b' : Int) h1 h2 => h (i + 1) r' b' (by simpa using h1) (by simpa using h2)
      simpa using ih
    · rw [e, if_neg (by decide)]
      exact .inr rfl
theorem Yql {den : Int} (hden : den ≠ 0) {r : List Int} {x : List (Int × Int)} {X : Nat → Int} {b : Int} (hl : r.length = x.length) (hr : ∀ n ∈ r, -32 ≤ n ∧ n ≤ 32) (hx : allV x = true) (hX : ∀ (k : Nat) (f : Int × Int), x[k]? = some f → f.1 * den = X k * f.2) (hs : sumN (fun k => Lin.at_ r k * X k) r.length = b * den) :
    dotF r x (0, 1) = ((b, 1), 0) ∨ (dotF r x (0, 1)).2 = 5 := by
  rcases Yzx den hden r x X (0, 1) 0 hl hr hx hX (Y2v (by omega)) (by simp) with ⟨k1, k2, k3⟩ | k
  · left
    rw [Int.zero_add, hs] at k3
    exact Prod.ext (whole k2 hden k3) k1
  · exact .inr k
theorem Ysg {m : List (List Int)} {right : List Int} (hv : Y1c m = true) (hr : right.length = m.length) (hw : Y0u right 67108864 = true) (hok : (solF (elim (Y10 m right) (wid m)) (wid m)).2 = 0) :
    (elim (Y10 m right) (wid m)).pivots.length = wid m ∧ Ysm m (solF (elim (Y10 m right) (wid m)) (wid m)).1 = (right.map (fun b => (b, 1)), 0) ∨ (elim (Y10 m right) (wid m)).pivots.length = wid m ∧ Ysm m (solF (elim (Y10 m right) (wid m)) (wid m)).1 = ([], 5) := by
  obtain ⟨h1, h2, h3⟩ := Y0v.1 hv
  have hb := Y48 hv hr hw
  have iv := Y42 (Y3p (Y10 m right) (wid m + 1)) hb.lens (wid m) (by omega)
  rw [← Y5a] at iv
  have in2 := iv.small2 hb (Nat.le_refl _)
  have hd2 := iv.den_small2 hb (Nat.le_refl _)
  have hcl : (Y10 m right).length = m.length := by simp [Y10]
  generalize elim (Y10 m right) (wid m) = f at *
  unfold solF at hok ⊢
  split at hok
  · simp at hok
  rename_i hz
  rw [if_neg hz]
  split at hok
  · simp at hok
  rename_i hk
  rw [if_neg hk]
  have nd : f.pivots.Nodup := iv.nd.imp fun hlt => Nat.ne_of_lt hlt
  have hle := nd.length_le_of_subset (l₂ := List.range (wid m)) fun x hx => List.mem_range.2 (iv.lt x hx)
  have hpl : f.pivots.length = wid m := by simp at hle; omega
  have hvan : Van ((Y10 m right).map Lin.at_) (SS (Y10 m right) f) (CC f) (wid m) := by
    rw [iv.van (by omega)]
    have := (Yen f.rows f.pivots.length (wid m)).1 (by simpa using hz)
    rw [iv.nr] at this
    exact this
  have ok : ∀ k, k < wid m → (Y1b (Lin.at_ (Lin.row f.rows k) (wid m)) f.den).2 = 0 := fun k hkn => Y58 (in2 k (wid m) (by omega) (by omega)) hd2 iv.den0
  have hall : allV ((List.range (wid m)).map fun k => (Y1b (Lin.at_ (Lin.row f.rows k) (wid m)) f.den).1) = true := by
    unfold allV
    rw [List.all_map, List.all_eq_true]
    intro k hkn
    exact (Y8i iv.den0 (ok k (List.mem_range.1 hkn))).1
  have hX : ∀ (k : Nat) (g : Int × Int), ((List.range (wid m)).map fun k => (Y1b (Lin.at_ (Lin.row f.rows k) (wid m)) f.den).1)[k]? = some g → g.1 * f.den = Lin.at_ (Lin.row f.rows k) (wid m) * g.2 := fun k g hg => by
    have hkl : k < wid m := by have := (List.getElem?_eq_some_iff.1 hg).1; simpa using this
    rw [List.getElem?_map, List.getElem?_range hkl] at hg
    simp only [Option.map_some, Option.some.injEq] at hg
    subst hg
    exact (Y8i iv.den0 (ok k hkl)).2
  have hlx : ((List.range (wid m)).map fun k => (Y1b (Lin.at_ (Lin.row f.rows k) (wid m)) f.den).1).length = wid m := by simp
  have main := Ybw ((List.range (wid m)).map fun k => (Y1b (Lin.at_ (Lin.row f.rows k) (wid m)) f.den).1) m right [] hr.symm fun (i : Nat) (r : List Int) (b : Int) hi hbi => by
    have hrl := (h3 r (List.mem_of_getElem? hi)).1
    refine Yql iv.den0 (X := fun k => Lin.at_ (Lin.row f.rows k) (wid m)) (by rw [hlx, hrl]) (h3 r (List.mem_of_getElem? hi)).2 hall hX ?_
    have hmem : r ++ [b] ∈ Y10 m right := by
      refine List.mem_of_getElem? (i := i) ?_
      simp [Y10, hi, hbi]
    have hf := Yjy iv hpl (by omega) hvan hmem
    have e1 : Lin.at_ (r ++ [b]) (wid m) = b := by simp [Lin.at_, ← hrl]
    rw [e1] at hf
    rw [hf, hrl]
    refine Y0s _ fun k hkn => ?_
    have : Lin.at_ (r ++ [b]) k = Lin.at_ r k := by simp [Lin.at_, List.getElem?_append_left (show k < r.length by omega)]
    rw [this]
  simp only [List.nil_append] at main
  have hp : ∀ x, allV x = true → x.length = wid m → Ysm m x = Yhi x [] m := fun x h1 h2 => by unfold Ysm; rw [if_pos ⟨hv, h1⟩, if_pos h2]
  simp only [hp _ hall hlx]
  rcases main with e | e
  · exact .inl ⟨hpl, e⟩
  · exact .inr ⟨hpl, e⟩
def nX (f : Frm) (c : Nat) : Nat → Nat → Int
 | 0 => fun j => if j = c then f.den else 0
 | k + 1 => fun j => if j = (f.pivots[k]?).getD 0 then -(Lin.at_ (Lin.row f.rows k) c) else nX f c k j
theorem Yd4 (g X : Nat → Int) (p : Nat) (y : Int) : ∀ n, p < n → sumN (fun j => g j * (if j = p then y else X j)) n = sumN (fun j => g j * X j) n + g p * (y - X p)
 | 0, h => by omega
 | n + 1, h => by
  simp only [sumN]
  by_cases e : p = n
  ·subst e
   rw [if_pos rfl, Y0s (G := fun j => g j * X j) p fun j hj => by rw [if_neg (by omega)], Int.mul_sub]
   omega
  ·rw [if_neg (by omega), Yd4 g X p y n (by omega)]
   omega
theorem Yd5 (g : Nat → Int) (c : Nat) (d : Int) : ∀ n, c < n → sumN (fun j => g j * (if j = c then d else 0)) n = g c * d
 | n, h => by
  rw [Yd4 g (fun _ => 0) c d n h]
  simp only [Int.mul_zero, Int.sub_zero]
  rw [Y4d, Int.zero_add]
section
variable {M : List (List Int)} {n : Nat} {f : Frm}
theorem Yp4 (h : Lin.Inv M n n f) {c : Nat} (hc : f.pivots.contains c = false) : ∀ k, k ≤ f.pivots.length → ∀ i, k ≤ i → i < f.pivots.length → nX f c k ((f.pivots[i]?).getD 0) = 0
 | 0, _, i, _, hi => by
  simp only [nX]
  rw [if_neg]
  intro e
  rw [List.getElem?_eq_getElem hi, Option.getD_some] at e
  have : f.pivots.contains c = true := List.contains_iff_mem.2 (by rw [← e]; exact List.getElem_mem hi)
  rw [hc] at this; cases this
 | k + 1, hk, i, hki, hi => by
  simp only [nX]
  rw [if_neg, Yp4 h hc k (by omega) i (by omega) hi]
  rw [List.getElem?_eq_getElem hi, List.getElem?_eq_getElem (show k < f.pivots.length by omega), Option.getD_some, Option.getD_some]
  have := List.pairwise_iff_getElem.1 h.nd k i (by omega) hi (by omega)
  omega
theorem Yv8 (h : Lin.Inv M n n f) {c : Nat} (hcn : c < n) (hc : f.pivots.contains c = false) (g : Nat → Int) : ∀ k, k ≤ f.pivots.length → sumN (fun j => g j * nX f c k j) n = g c * f.den - sumN (fun i => g ((f.pivots[i]?).getD 0) * Lin.at_ (Lin.row f.rows i) c) k
 | 0, _ => by
  simp only [nX, sumN, Int.sub_zero]
  exact Yd5 g c f.den n hcn
 | k + 1, hk => by
  have hp : (f.pivots[k]?).getD 0 < n := by
   rw [List.getElem?_eq_getElem (show k < f.pivots.length by omega), Option.getD_some]
   exact h.lt _ (List.getElem_mem _)
  simp only [nX, sumN]
  rw [Yd4 g (nX f c k) _ _ n hp, Yv8 h hcn hc g k (by omega), Yp4 h hc k (by omega) k (Nat.le_refl _) (by omega), Int.sub_zero, Int.mul_neg]
  omega
theorem Yv7 (h : Lin.Inv M n n f) (ok : ∀ k c, k < f.pivots.length → c < n → (Y1b (-(Lin.at_ (Lin.row f.rows k) c)) f.den).2 = 0) {c : Nat} (hcn : c < n) : ∀ k, k ≤ f.pivots.length → allV (nvec f n c k) = true ∧ ∀ (j : Nat) (p : Int × Int), (nvec f n c k)[j]? = some p → p.1 * f.den = nX f c k j * p.2
 | 0, _ => by
  have hz : Y09 0 1 = true := Y2v (by omega)
  have ho : Y09 1 1 = true := Y2v (by omega)
  constructor
  ·unfold allV
   rw [List.all_eq_true]
   intro x hx
   simp only [nvec] at hx
   rcases List.mem_or_eq_of_mem_set hx with h | h
   ·have := List.eq_of_mem_replicate h
    subst this; exact hz
   ·subst h; exact ho
  ·intro j p hj
   simp only [nvec, nX] at hj ⊢
   by_cases e : c = j
   ·subst e
    rw [List.getElem?_set_self (by simpa using hcn)] at hj
    cases hj
    rw [if_pos rfl]; simp
   ·rw [List.getElem?_set_ne e] at hj
    have hp : p = (0, 1) := by
     have := List.mem_of_getElem? hj
     exact List.eq_of_mem_replicate this
    rw [hp, if_neg (by omega)]; simp
 | k + 1, hk => by
  obtain ⟨i1, i2⟩ := Yv7 h ok hcn k (by omega)
  have hq := Y8i h.den0 (ok k c (by omega) hcn)
  constructor
  ·unfold allV at i1 ⊢
   rw [List.all_eq_true] at i1 ⊢
   intro x hx
   simp only [nvec] at hx
   rcases List.mem_or_eq_of_mem_set hx with h | h
   ·exact i1 x h
   ·subst h; exact hq.1
  ·intro j p hj
   simp only [nvec, nX] at hj ⊢
   by_cases e : (f.pivots[k]?).getD 0 = j
   ·have hjl : j < (nvec f n c k).length := by have := (List.getElem?_eq_some_iff.1 hj).1; simpa using this
    rw [e, List.getElem?_set_self hjl] at hj
    cases hj
    rw [if_pos e.symm]
    exact hq.2
   ·rw [List.getElem?_set_ne e] at hj
    rw [if_neg (by omega)]
    exact i2 j p hj
theorem Yjm (h : Lin.Inv M n n f) {c : Nat} (hcn : c < n) (hc : f.pivots.contains c = false) : ∀ k, k ≤ f.pivots.length → (nvec f n c k)[c]? = some (1, 1)
 | 0, _ => by simp only [nvec]; exact List.getElem?_set_self (by simpa using hcn)
 | k + 1, hk => by
  simp only [nvec]
  rw [List.getElem?_set_ne, Yjm h hcn hc k (by omega)]
  intro e
  rw [List.getElem?_eq_getElem (show k < f.pivots.length by omega), Option.getD_some] at e
  have : f.pivots.contains c = true := List.contains_iff_mem.2 (by rw [← e]; exact List.getElem_mem _)
  rw [hc] at this; cases this
theorem Y7k (f : Frm) (n : Nat) : ∀ c v, v ∈ Y2r f n c → ∃ d, d < c ∧ f.pivots.contains d = false ∧ v = nvec f n d f.pivots.length
 | 0, v, h => by simp [Y2r] at h
 | c + 1, v, h => by
  simp only [Y2r] at h
  cases hc : f.pivots.contains c
  ·rw [hc] at h
   simp only [Bool.false_eq_true, if_false] at h
   rcases List.mem_append.1 h with h | h
   ·obtain ⟨d, h1, h2⟩ := Y7k f n c v h
    exact ⟨d, by omega, h2⟩
   ·simp only [List.mem_singleton] at h
    exact ⟨c, by omega, hc, h⟩
  ·rw [hc] at h
   simp only [if_true] at h
   obtain ⟨d, h1, h2⟩ := Y7k f n c v h
   exact ⟨d, by omega, h2⟩
end
theorem Yn5 : ∀ (is : List Nat) (C : List Nat) (F G : Nat → Nat → Int), (∀ i ∈ is, ∀ c ∈ C, F i c = G i c) → w (is.map fun i j => F i j) C = w (is.map fun i j => G i j) C
 | [], C, F, G, _ => by cases C <;> rfl
 | i :: is, C, F, G, h => by
  rw [List.map_cons, List.map_cons, Y2u, Y2u]
  refine Y4o fun c r hc hr => ?_
  rw [h i (by simp) c hc, Yn5 is r F G fun i' hi' c' hc' => h i' (List.mem_cons_of_mem _ hi') c' (hr c' hc')]
theorem Ygo {m : List (List Int)} {right : List Int} (hv : Y1c m = true) (hr : right.length = m.length) (hw : Y0u right 67108864 = true) : (elim (Y10 m right) (wid m)).pivots.length = Yod m (wid m) := by
 obtain ⟨h1, h2, h3⟩ := Y0v.1 hv
 have hb := Y48 hv hr hw
 have hs := Y6o hv
 have r1 := (Y42 (Y3p (Y10 m right) (wid m + 1)) hb.lens (wid m) (by omega)).isRank
 have r2 := Y10e hs
 rw [← Y5a] at r1
 have hcl : (Y10 m right).length = m.length := by simp [Y10]
 have hrow : ∀ i c, i < m.length → c < wid m → Lin.at_ (Lin.row (Y10 m right) i) c = Lin.at_ (Lin.row m i) c := fun i c hi hc => by
  have hl := (h3 (Lin.row m i) (by rw [row_get hi]; exact List.getElem_mem hi)).1
  have e : Lin.row (Y10 m right) i = Lin.row m i ++ (right[i]?).toList := by
   simp [Lin.row, Y10, List.getElem?_eq_getElem hi]
  rw [e]
  simp [Lin.at_, List.getElem?_append_left (show c < (Lin.row m i).length by omega)]
 have mem : ∀ (M : List (List Int)) (is : List Nat), (∀ i ∈ is, i < M.length) → ∀ s ∈ (is.map fun i j => Lin.at_ (Lin.row M i) j), s ∈ M.map Lin.at_ := fun M is hi s hs => by
  obtain ⟨i, hi', rfl⟩ := List.mem_map.1 hs
  exact List.mem_map.2 ⟨Lin.row M i, by rw [row_get (hi i hi')]; exact List.getElem_mem _, rfl⟩
 refine Nat.le_antisymm ?_ ?_
 ·obtain ⟨S, C, k1, k2, k3, k4, k5, _⟩ := r1
  obtain ⟨is, l1, rfl⟩ := pick k1
  have hc := Yn5 is C (fun i j => Lin.at_ (Lin.row (Y10 m right) i) j) (fun i j => Lin.at_ (Lin.row m i) j) fun i hi c hc => hrow i c (by have := l1 i hi; omega) (k4 c hc)
  rw [hc] at k5
  have := r2.max (mem m is fun i hi => by have := l1 i hi; omega) k4 k5
  simp at k2 this
  omega
 ·obtain ⟨S, C, k1, k2, k3, k4, k5, _⟩ := r2
  obtain ⟨is, l1, rfl⟩ := pick k1
  have hc := Yn5 is C (fun i j => Lin.at_ (Lin.row (Y10 m right) i) j) (fun i j => Lin.at_ (Lin.row m i) j) fun i hi c hc => hrow i c (l1 i hi) (k4 c hc)
  rw [← hc] at k5
  have := r1.max (mem (Y10 m right) is fun i hi => by have := l1 i hi; omega) k4 k5
  simp at k2 this
  omega
end Go.Proofs.YtpbpafmgkdihlaaGreatDoor.T
end
section
namespace Go.Proofs.YtpbpafmgkdihlaaGreatDoor.T
open Go Go.RowKit Lin
def phi (Z : Nat → Int) (D : Int) (n : Nat) (g : Nat → Int) : Int := sumN (fun k => g k * Z k) n - D * g n
theorem Yop (Z : Nat → Int) (D : Int) (n : Nat) : ∀ (ks : List Int) (rs : List Row), (∀ r ∈ rs, phi Z D n r = 0) → phi Z D n (dot ks rs) = 0
 | [], rs, _ => by
  have e : (dot [] rs) = fun _ => 0 := by funext j; cases rs <;> rfl
  rw [e]
  simp [phi, Y4d]
 | k :: ks, [], _ => by
  have e : (dot (k :: ks) []) = fun _ => 0 := rfl
  rw [e]
  simp [phi, Y4d]
 | k :: ks, r :: rs, h => by
  have ih := Yop Z D n ks rs fun x hx => h x (List.mem_cons_of_mem _ hx)
  have h0 := h r (by simp)
  have e : (dot (k :: ks) (r :: rs)) = fun j => k * r j + dot ks rs j := rfl
  rw [e]
  unfold phi at *
  have e2 : sumN (fun j => (k * r j + dot ks rs j) * Z j) n = k * sumN (fun j => r j * Z j) n + sumN (fun j => dot ks rs j * Z j) n := by
   rw [← Y2b, ← Y77]
   exact Y0s n fun j _ => by rw [Int.add_mul, Int.mul_assoc]
  rw [e2, Int.mul_add, Int.mul_left_comm]
  have : k * (sumN (fun j => r j * Z j) n - D * r n) = 0 := by rw [h0, Int.mul_zero]
  rw [Int.mul_sub] at this
  omega
theorem Yjj {Z : Nat → Int} {D : Int} {n : Nat} {rs : List Row} {g : Nat → Int} (hg : Span rs g) (h : ∀ r ∈ rs, phi Z D n r = 0) : phi Z D n g = 0 := by
 obtain ⟨ks, _, he⟩ := hg
 have : g = dot ks rs := funext he
 rw [this]
 exact Yop Z D n ks rs h
section
variable {M : List (List Int)} {n : Nat} {f : Frm}
theorem Yyj (h : Lin.Inv M (n + 1) n f) (hk : f.pivots.length = n) {Z : Nat → Int} {D : Int} (hD : D ≠ 0) (hZ : ∀ s ∈ M, phi Z D n (Lin.at_ s) = 0) :
    Van (M.map Lin.at_) (SS M f) (CC f) n ∧ ∀ k, k < n → Z k * f.den = D * Lin.at_ (Lin.row f.rows k) n := by
  have hp := Y6t n f.pivots h.nd h.lt hk
  have hSS : ∀ r ∈ SS M f, phi Z D n r = 0 := fun r hr => by
    obtain ⟨s, hs, rfl⟩ := Y85 h r hr
    exact hZ s hs
  constructor
  · intro r hr
    obtain ⟨s, hs, rfl⟩ := List.mem_map.1 hr
    have hsp : Span (Lin.at_ s :: SS M f) fun j => E (SS M f) (CC f) (Lin.at_ s) j := Ybl (Lin.at_ s :: SS M f) (CC f)
    have h0 := Yjj hsp fun x hx => by
      rcases List.mem_cons.1 hx with rfl | hx
      · exact hZ s hs
      · exact hSS x hx
    unfold phi at h0
    simp only at h0
    rw [Y0s (G := fun _ => 0) n fun j hj => by
      rw [h.van_lt hj (Lin.at_ s) hr, Int.zero_mul], Y4d] at h0
    have : D * E (SS M f) (CC f) (Lin.at_ s) n = 0 := by omega
    rcases Int.mul_eq_zero.1 this with e | e
    · exact absurd e hD
    · exact e
  · intro k hkn
    have hCC : CC f = ((List.range n).drop (k + 1)).reverse ++ k :: ((List.range n).take k).reverse := by
      have e : List.range n = (List.range n).take k ++ k :: (List.range n).drop (k + 1) := by
        conv => lhs; rw [← List.take_append_drop k (List.range n)]
        rw [List.drop_eq_getElem_cons (by simpa using hkn), List.getElem_range]
      unfold CC
      rw [hp]
      conv => lhs; rw [e]
      simp
    have hpost : ((List.range n).take k).reverse.length = k := by simp; omega
    have hpv := fun j (hj : j < n + 1) => h.piv _ _ k hCC j hj
    rw [hpost] at hpv
    have h0 := Yjj (Y9x (SS M f) ((List.range n).drop (k + 1)).reverse ((List.range n).take k).reverse) hSS
    unfold phi at h0
    simp only at h0
    rw [← hpv n (by omega)] at h0
    have hsum : sumN (fun j => w (SS M f) (((List.range n).drop (k + 1)).reverse ++ j :: ((List.range n).take k).reverse) * Z j) n = Z k * f.den := by
      have e : ∀ j, j < n → w (SS M f) (((List.range n).drop (k + 1)).reverse ++ j :: ((List.range n).take k).reverse) * Z j = Z j * (if j = k then f.den else 0) := fun j hj => by
        by_cases hjk : j = k
        · subst hjk
          rw [if_pos rfl, ← hCC, ← h.den, Int.mul_comm]
        · rw [if_neg hjk, Int.mul_zero, Ysn (ci := k) (d := j) ?_ hjk, Int.zero_mul]
          rw [← hCC]
          unfold CC
          rw [hp]
          simpa using hj
      rw [Y0s n e, Yd5 Z k f.den n hkn]
    rw [hsum] at h0
    omega
end
theorem Yq0 {p q : Int × Int} (hp : Y09 p.1 p.2 = true) (hq : Y09 q.1 q.2 = true) (h : p.1 * q.2 = q.1 * p.2) : p = q := by
 obtain ⟨p1, _, _, _, p5⟩ := Y0c hp
 obtain ⟨r1, _, _, _, r5⟩ := Y0c hq
 have hn : p.1.natAbs * q.2.natAbs = q.1.natAbs * p.2.natAbs := by rw [← Int.natAbs_mul, ← Int.natAbs_mul, h]
 obtain ⟨h1, h2⟩ := Yff (show 0 < p.2.natAbs by omega) (show 0 < q.2.natAbs by omega) hn
 have e1 : Nat.gcd p.1.natAbs p.2.natAbs = 1 := p5
 have e2 : Nat.gcd q.1.natAbs q.2.natAbs = 1 := r5
 rw [e1, e2, Nat.div_one, Nat.div_one] at h1 h2
 have h3 : p.2 = q.2 := by omega
 rw [h3] at h
 exact Prod.ext (Y4i (c := q.2) (by omega) h) h3
section
variable {m : List (List Int)} {a b n : Nat}
end
abbrev solM (m : List (List Int)) (right : List Int) : Frm := elim (Y10 m right) (wid m)
def solX (m : List (List Int)) (right : List Int) (k : Nat) : Int := Lin.at_ (Lin.row (solM m right).rows k) (wid m)
section
variable {m : List (List Int)} {right : List Int}
theorem Y4t (hv : Y1c m = true) (hr : right.length = m.length) (hw : Y0u right 67108864 = true) : Lin.Inv (Y10 m right) (wid m + 1) (wid m) (solM m right) := by
 have iv := Y42 (Y3p (Y10 m right) (wid m + 1)) (Y48 hv hr hw).lens (wid m) (by omega)
 rw [← Y5a] at iv
 exact iv
theorem Yka (hr : right.length = m.length) {s : List Int} (hs : s ∈ Y10 m right) : ∃ (i : Nat) (r : List Int) (b : Int), m[i]? = some r ∧ right[i]? = some b ∧ s = r ++ [b] := by
 obtain ⟨i, hi⟩ := List.mem_iff_getElem?.1 hs
 have hil : i < m.length := by have := (List.getElem?_eq_some_iff.1 hi).1; simpa [Y10] using this
 have hir : i < right.length := by omega
 simp only [Y10, List.getElem?_mapIdx, List.getElem?_eq_getElem hil, Option.map_some, List.getElem?_eq_getElem hir, Option.toList_some, Option.some.injEq] at hi
 exact ⟨i, m[i], right[i], List.getElem?_eq_getElem hil, List.getElem?_eq_getElem hir, hi.symm⟩
theorem Yu7 {i : Nat} {r : List Int} {b : Int} (hi : m[i]? = some r) (hb : right[i]? = some b) : r ++ [b] ∈ Y10 m right :=
 List.mem_of_getElem? (i := i) (by simp [Y10, hi, hb])
theorem Yoo {Z : Nat → Int} {D : Int} {n : Nat} {r : List Int} {b : Int} (hrl : r.length = n) : phi Z D n (Lin.at_ (r ++ [b])) = sumN (fun k => Lin.at_ r k * Z k) n - D * b := by
 unfold phi
 have e1 : Lin.at_ (r ++ [b]) n = b := by simp [Lin.at_, ← hrl]
 rw [e1, Y0s n fun k hk => by
  show Lin.at_ (r ++ [b]) k * Z k = Lin.at_ r k * Z k
  simp [Lin.at_, List.getElem?_append_left (show k < r.length by omega)]]
theorem Yf8 (hv : Y1c m = true) (hr : right.length = m.length) (hw : Y0u right 67108864 = true) (hok : (solF (solM m right) (wid m)).2 = 0) :
    (solM m right).pivots.length = wid m ∧ (∀ (i : Nat) (r : List Int) (b : Int), m[i]? = some r → right[i]? = some b → sumN (fun k => Lin.at_ r k * solX m right k) (wid m) = (solM m right).den * b) ∧ (solF (solM m right) (wid m)).1 = (List.range (wid m)).map fun k => (Y1b (solX m right k) (solM m right).den).1 := by
  obtain ⟨_, _, h3⟩ := Y0v.1 hv
  have iv := Y4t hv hr hw
  have hp : (solM m right).pivots.length = wid m := by
    rcases Ysg hv hr hw hok with ⟨h, _⟩ | ⟨h, _⟩ <;> exact h
  unfold solX
  generalize solM m right = f at *
  unfold solF at hok ⊢
  split at hok
  · simp at hok
  rename_i hz
  rw [if_neg hz]
  split at hok
  · simp at hok
  rename_i hk
  rw [if_neg hk]
  refine ⟨hp, fun i r b hi hb => ?_, rfl⟩
  have hvan : Van ((Y10 m right).map Lin.at_) (SS (Y10 m right) f) (CC f) (wid m) := by
    rw [iv.van (by omega)]
    have := (Yen f.rows f.pivots.length (wid m)).1 (by simpa using hz)
    rw [iv.nr] at this
    exact this
  have hrl := (h3 r (List.mem_of_getElem? hi)).1
  have hf := Yjy iv hp (by omega) hvan (Yu7 hi hb)
  have e1 : Lin.at_ (r ++ [b]) (wid m) = b := by simp [Lin.at_, ← hrl]
  rw [e1] at hf
  rw [Int.mul_comm, hf]
  refine Y0s _ fun k hkn => ?_
  have : Lin.at_ (r ++ [b]) k = Lin.at_ r k := by simp [Lin.at_, List.getElem?_append_left (show k < r.length by omega)]
  rw [this]
theorem Yz0 (hv : Y1c m = true) (hr : right.length = m.length) (hw : Y0u right 67108864 = true) (hfull : Yod m (wid m) = wid m) {Z : Nat → Int} {D : Int} (hD : D ≠ 0)
    (hZ : ∀ (i : Nat) (r : List Int) (b : Int), m[i]? = some r → right[i]? = some b → sumN (fun k => Lin.at_ r k * Z k) (wid m) = D * b) :
    (solF (solM m right) (wid m)).2 = 0 ∧ ∀ k, k < wid m → Z k * (solM m right).den = D * solX m right k := by
  obtain ⟨_, _, h3⟩ := Y0v.1 hv
  have iv := Y4t hv hr hw
  have hp : (solM m right).pivots.length = wid m := by rw [Ygo hv hr hw, hfull]
  unfold solX
  generalize solM m right = f at *
  obtain ⟨u1, u2⟩ := Yyj iv hp hD fun s hs => by
    obtain ⟨i, r, b, hi, hb, rfl⟩ := Yka hr hs
    rw [Yoo (h3 r (List.mem_of_getElem? hi)).1, hZ i r b hi hb]
    omega
  refine ⟨?_, u2⟩
  have hz : (f.rows.drop f.pivots.length).any (fun r => Lin.at_ r (wid m) != 0) = false := by
    rw [Yen, iv.nr]
    exact (iv.van (by omega)).1 u1
  unfold solF
  rw [hz, if_neg (by simp), if_neg (by omega)]
end
theorem Ysd {a b c : Int × Int} {X Y W dx dy dz : Int} (ha : Y09 a.1 a.2 = true) (hb : Y09 b.1 b.2 = true) (hc : Y09 c.1 c.2 = true) (hx : dx ≠ 0) (hy : dy ≠ 0) (hz : dz ≠ 0)
    (ea : a.1 * dx = X * a.2) (eb : b.1 * dy = Y * b.2) (ec : c.1 * dz = W * c.2) (hW : (X * dy + Y * dx) * dz = dx * dy * W) (ok : (addR a b).2 = 0) : (addR a b).1 = c := by
  have hq := Yy2 ha hb ok
  have hv := Y6d ha hb ok
  generalize (addR a b).1 = s at *
  obtain ⟨a1, _⟩ := Y0c ha
  obtain ⟨b1, _⟩ := Y0c hb
  refine Yq0 hv hc ?_
  have h1 : s.1 * (dx * dy) = (X * dy + Y * dx) * s.2 := by
    refine Y4i (c := a.2 * b.2) (Int.ne_of_gt (Int.mul_pos (by omega) (by omega))) ?_
    calc s.1 * (dx * dy) * (a.2 * b.2) = (s.1 * (a.2 * b.2)) * (dx * dy) := by ac_rfl
      _ = ((a.1 * b.2 + b.1 * a.2) * s.2) * (dx * dy) := by rw [hq]
      _ = ((a.1 * dx) * b.2 * dy + (b.1 * dy) * a.2 * dx) * s.2 := by rw [Int.add_mul, Int.add_mul, Int.add_mul]; ac_rfl
      _ = ((X * a.2) * b.2 * dy + (Y * b.2) * a.2 * dx) * s.2 := by rw [ea, eb]
      _ = (X * dy + Y * dx) * s.2 * (a.2 * b.2) := by rw [Int.add_mul, Int.add_mul, Int.add_mul]; ac_rfl
  refine Y4i (c := dx * dy * dz) (Int.mul_ne_zero (Int.mul_ne_zero hx hy) hz) ?_
  calc s.1 * c.2 * (dx * dy * dz) = (s.1 * (dx * dy)) * c.2 * dz := by ac_rfl
    _ = ((X * dy + Y * dx) * s.2) * c.2 * dz := by rw [h1]
    _ = ((X * dy + Y * dx) * dz) * (s.2 * c.2) := by ac_rfl
    _ = (dx * dy * W) * (s.2 * c.2) := by rw [hW]
    _ = (W * c.2) * s.2 * (dx * dy) := by ac_rfl
    _ = (c.1 * dz) * s.2 * (dx * dy) := by rw [ec]
    _ = c.1 * s.2 * (dx * dy * dz) := by ac_rfl
section
variable {m : List (List Int)} {right other : List Int}
theorem Yyv (hv : Y1c m = true) (hr : right.length = m.length) (ho : other.length = m.length) (hw : Y0u right 67108864 = true) (hwo : Y0u other 67108864 = true) (hws : Y0u (List.zipWith (· + ·) right other) 67108864 = true)
    (h1 : (solF (solM m right) (wid m)).2 = 0) (h2 : (solF (solM m other) (wid m)).2 = 0) :
    (solF (solM m (List.zipWith (· + ·) right other)) (wid m)).2 = 0 ∧ ∀ k, k < wid m → (solX m right k * (solM m other).den + solX m other k * (solM m right).den) * (solM m (List.zipWith (· + ·) right other)).den = (solM m right).den * (solM m other).den * solX m (List.zipWith (· + ·) right other) k := by
  obtain ⟨p1, e1, _⟩ := Yf8 hv hr hw h1
  obtain ⟨p2, e2, _⟩ := Yf8 hv ho hwo h2
  have d1 := (Y4t hv hr hw).den0
  have d2 := (Y4t hv ho hwo).den0
  have hfull : Yod m (wid m) = wid m := by rw [← Ygo hv hr hw]; exact p1
  refine Yz0 hv (by simp; omega) hws hfull (Int.mul_ne_zero d1 d2) fun i r b hi hb => ?_
  have hir : i < right.length := by have := (List.getElem?_eq_some_iff.1 hi).1; omega
  have hio : i < other.length := by omega
  have x1 := e1 i r right[i] hi (List.getElem?_eq_getElem hir)
  have x2 := e2 i r other[i] hi (List.getElem?_eq_getElem hio)
  rw [List.getElem?_zipWith, List.getElem?_eq_getElem hir, List.getElem?_eq_getElem hio] at hb
  have hb' : right[i] + other[i] = b := by simpa using hb
  generalize (solM m right).den = dx at *
  generalize (solM m other).den = dy at *
  have e : sumN (fun k => Lin.at_ r k * (solX m right k * dy + solX m other k * dx)) (wid m) = dy * sumN (fun k => Lin.at_ r k * solX m right k) (wid m) + dx * sumN (fun k => Lin.at_ r k * solX m other k) (wid m) := by
    rw [← Y2b, ← Y2b, ← Y77]
    exact Y0s _ fun k _ => by rw [Int.mul_add]; ac_rfl
  rw [e, x1, x2, ← hb', Int.mul_add]
  ac_rfl
end
section
variable {m : List (List Int)} {right : List Int} {a b : Nat}
end
section
variable {m : List (List Int)} {right other : List Int} {a b : Nat}
theorem Y3r (hv : Y1c m = true) (hr : right.length = m.length) (hw : Y0u right 67108864 = true) : Y1m m right = solF (solM m right) (wid m) := by
 unfold Y1m
 rw [if_pos hv, if_pos hr, if_pos hw]
theorem Yl2 (hv : Y1c m = true) (hr : right.length = m.length) (hw : Y0u right 67108864 = false) : Y1m m right = ([], 2) := by
 unfold Y1m
 rw [if_pos hv, if_pos hr, hw]
 simp
theorem Yd7 (hv : Y1c m = true) (hr : right.length = m.length) (hw : Y0u right 67108864 = true) (hok : (solF (solM m right) (wid m)).2 = 0) :
    (solF (solM m right) (wid m)).1.length = wid m ∧ ∀ (k : Nat) (g : Int × Int), (solF (solM m right) (wid m)).1[k]? = some g → k < wid m ∧ Y09 g.1 g.2 = true ∧ g.1 * (solM m right).den = solX m right k * g.2 := by
  obtain ⟨p1, _, e⟩ := Yf8 hv hr hw hok
  have iv := Y4t hv hr hw
  have hb := Y48 hv hr hw
  have in2 := iv.small2 hb (Nat.le_refl _)
  have hd2 := iv.den_small2 hb (Nat.le_refl _)
  have hcl : (Y10 m right).length = m.length := by simp [Y10]
  have hpm : wid m ≤ m.length := by
    have := iv.k_le
    rw [p1] at this
    omega
  rw [e]
  refine ⟨by simp, fun k g hg => ?_⟩
  have hkl : k < wid m := by have := (List.getElem?_eq_some_iff.1 hg).1; simpa using this
  rw [List.getElem?_map, List.getElem?_range hkl] at hg
  simp only [Option.map_some, Option.some.injEq] at hg
  subst hg
  have ok : (Y1b (solX m right k) (solM m right).den).2 = 0 := Y58 (in2 k (wid m) (by omega) (by omega)) hd2 iv.den0
  exact ⟨hkl, Y8i iv.den0 ok⟩
theorem sums (hv : Y1c m = true) (hr : right.length = m.length) (ho : other.length = m.length) (hw : Y0u right 67108864 = true) (hwo : Y0u other 67108864 = true) (h1 : (Y1m m right).2 = 0) (h2 : (Y1m m other).2 = 0) :
    Y1m m (List.zipWith (· + ·) right other) = ([], 2) ∨ (Y1m m (List.zipWith (· + ·) right other)).2 = 0 ∧ (Y1m m (List.zipWith (· + ·) right other)).1.length = (Y1m m right).1.length ∧
      ∀ (k : Nat) (z : Int × Int), (Y1m m (List.zipWith (· + ·) right other)).1[k]? = some z → ∃ x y : Int × Int, (Y1m m right).1[k]? = some x ∧ (Y1m m other).1[k]? = some y ∧ Y09 x.1 x.2 = true ∧ Y09 y.1 y.2 = true ∧ ((addR x y).2 = 0 → (addR x y).1 = z) := by
  have hs : (List.zipWith (· + ·) right other).length = m.length := by simp; omega
  cases hws : Y0u (List.zipWith (· + ·) right other) 67108864
  · left; exact Yl2 hv hs hws
  right
  rw [Y3r hv hr hw] at h1 ⊢
  rw [Y3r hv ho hwo] at h2 ⊢
  rw [Y3r hv hs hws]
  obtain ⟨h3, he⟩ := Yyv hv hr ho hw hwo hws h1 h2
  obtain ⟨l1, n1⟩ := Yd7 hv hr hw h1
  obtain ⟨l2, n2⟩ := Yd7 hv ho hwo h2
  obtain ⟨l3, n3⟩ := Yd7 hv hs hws h3
  refine ⟨h3, by rw [l1, l3], fun k z hz => ?_⟩
  obtain ⟨hk, vz, ez⟩ := n3 k z hz
  obtain ⟨x, hx⟩ : ∃ x, (solF (solM m right) (wid m)).1[k]? = some x := ⟨_, List.getElem?_eq_getElem (by omega)⟩
  obtain ⟨y, hy⟩ : ∃ y, (solF (solM m other) (wid m)).1[k]? = some y := ⟨_, List.getElem?_eq_getElem (by omega)⟩
  obtain ⟨_, vx, ex⟩ := n1 k x hx
  obtain ⟨_, vy, ey⟩ := n2 k y hy
  refine ⟨x, y, hx, hy, vx, vy, fun ok => ?_⟩
  exact Ysd vx vy vz (Y4t hv hr hw).den0 (Y4t hv ho hwo).den0 (Y4t hv hs hws).den0 ex ey ez (he k hk) ok
theorem Yf7 (m : List (List Int)) (right : List Int) (hv : Y1c m = true) : (Y1m m right).1.length ≤ 1000 := by
 have h2 := (Y0v.1 hv).2.1
 unfold Y1m
 rw [if_pos hv]
 split
 ·split
  ·unfold solF
   split
   ·simp
   ·split
    ·simp
    ·simp; omega
  ·simp
 ·simp
end
end Go.Proofs.YtpbpafmgkdihlaaGreatDoor.T
end
namespace Go.Proofs.YtpbpafmgkdihlaaGreatDoor.T
open Go Go.RowKit Lin
theorem Y8a (l : List (Int × Int)) : Y37 (frC l) = true := Y3q fun d hd => by
 obtain ⟨x, _, hx⟩ := List.mem_flatMap.1 hd
 simp only [List.mem_cons, List.not_mem_nil, or_false] at hx
 rcases hx with rfl | rfl <;> rfl
def Y2k (s : Sy) : List (Int × Int) × Int := if Y0g s = true then Y1m (matS s) (wtsS s) else ([], 1)
theorem OkS.sol_len {s : Sy} (ok : OkS s) (hz : (Y1m (matS s) (wtsS s)).2 = 0) : (Y1m (matS s) (wtsS s)).1.length = s.rs.length := by
 have e := Y3r ok.mat_valid (by rw [ok.wts_len, ok.mat_len]) ok.wts_in
 rw [e] at hz ⊢
 rw [(Yd7 ok.mat_valid (by rw [ok.wts_len, ok.mat_len]) ok.wts_in hz).1, ok.mat_wid]
theorem Ys8 (s : Sy) : (Y2k s).1.length ≤ 1000 := by
 unfold Y2k
 split
 ·rename_i h; exact Yf7 _ _ (Y0h h).mat_valid
 ·simp
theorem Ya0 {s : Sy} (h : (Y2k s).2 = 0) : Y0g s = true ∧ (Y2k s).1.length = s.rs.length := by
 unfold Y2k at h ⊢
 split
 ·rename_i hv
  rw [if_pos hv] at h
  exact ⟨hv, (Y0h hv).sol_len h⟩
 ·rename_i hv
  rw [if_neg hv] at h
  simp at h
theorem OkS.mat_fit {s : Sy} (ok : OkS s) : (matS s).length ≤ 1000000 ∧ (∀ r ∈ matS s, r.length ≤ 1000000) ∧ (wtsS s).length ≤ 1000000 := by
 have := ok.b6
 have := ok.r6
 refine ⟨by rw [ok.mat_len]; omega, fun r hr => ?_, by rw [ok.wts_len]; omega⟩
 obtain ⟨b, _, rfl⟩ := List.mem_map.1 hr
 simp; omega
theorem Yf2 (s : Sy) (hf : Fits s) : PRet Tryz.prog 52 [syD s] (fse (Y2k s)) := by
 refine pri 1 Tryz.func52 Tryz.ntmps52 fun t => ?_
 simp only [Y04]
 have hM := Y57 s hf
 have hW := Y8s s hf
 cases hv : Y0g s
 ·rw [hv] at hM
  simp only [Bool.false_eq_true, if_false] at hM
  have e : Y2k s = ([], 1) := by simp [Y2k, hv]
  have f0 : frC [] = [] := rfl
  refine gga1 hM ?_
  refine exq (F := _ ∧ _ ∧ _) ⟨Tryz.results52, e, f0⟩ ?_
  rfl
 ·rw [hv] at hM hW
  simp only [if_true] at hM hW
  have ok := Y0h hv
  obtain ⟨g1, g2, g3⟩ := ok.mat_fit
  have hS := Yyz (matS s) (wtsS s) g1 g2 g3
  have e : Y2k s = Y1m (matS s) (wtsS s) := by simp [Y2k, hv]
  rw [← e] at hS
  generalize Y2k s = X at *
  refine gga3 hM hW hS ?_
  ((repeat refine Y00 ?_); (refine wta ?_); simp (disch := omega) only [retQ, resD, oneD, bb, bt, zDs, zD, Y01, simprocAttr, Tryz.results52])
  exact Y2c _ _ (by simp only [Y2w, Y37, Y8a, Bool.not_false, Bool.and_self])
def hix (s : Sy) : Int := idx (fun r : Rp => r.hl) s.rs 0
def Y5w (s : Sy) : (Int × Int) × Int := if (Y2k s).2 = 0 then (if hix s < 0 then ((0, 0), 12) else ((Y2k s).1.getD (hix s).toNat (0, 0), 0)) else ((0, 0), (Y2k s).2)
theorem Y5v {s : Sy} (h : ¬ hix s < 0) : ∃ (i : Nat) (r : Rp), hix s = i ∧ s.rs[i]? = some r ∧ r.hl = true := by
 obtain ⟨h1, h2⟩ := Y8x (fun r : Rp => r.hl) s.rs 0
 cases ha : s.rs.any (fun r : Rp => r.hl)
 ·unfold hix at h; rw [h2 ha] at h; omega
 ·obtain ⟨i, x, e, hi, hx⟩ := h1 ha
  exact ⟨i, x, by unfold hix; rw [e, Nat.zero_add], hi, hx⟩
theorem Y11l (r : Rp) : PRet Tryz.prog 54 [.agg (rp1 r)] (bool r.hl) := by
 refine pri 1 Tryz.func54 Tryz.ntmps54 fun t => ?_
 simp only [Y04]
 refine gga0 ?_
 exact exx Tryz.results54
theorem Ywm (s : Sy) (hl : s.rs.length ≤ 1000000) : PRet Tryz.prog 22 [syD s] (int (hix s)) := by
 refine pri 1 Tryz.func22 Tryz.ntmps22 fun t => ?_
 simp only [Y04]
 have hla := Y28 s.rs
 have ha2 := Y1q s.rs
 refine gga0 ?_
 repeat refine Y00 ?_
 refine Y02 ?_
 refine Y05 (fun k : Nat => ⟨[(1, .ptr 0 (t + 1) 0), (3, int k)], [some ⟨25, t + 1, [bks s.bs, rps s.rs]⟩], t + 1⟩) (fun k => s.rs.length - k) (fun k => k ≤ s.rs.length ∧ hix s = idx (fun r : Rp => r.hl) (s.rs.drop k) k) 0 ⟨Nat.zero_le _, rfl⟩ ele fun k ⟨hk, hi⟩ => ?_
 by_cases hlt : k < s.rs.length
 ·obtain ⟨x, hx⟩ : ∃ x, s.rs[k]? = some x := ⟨_, List.getElem?_eq_getElem hlt⟩
  have hd : s.rs.drop k = x :: s.rs.drop (k + 1) := by
   obtain ⟨h1, h2⟩ := List.getElem?_eq_some_iff.1 hx
   rw [List.drop_eq_getElem_cons h1, h2]
  rw [hd] at hi
  have hra : (rpC s.rs)[k * 3 + 2]? = some (bool x.hl) := Y9a s.rs k x hx 2 (by decide)
  ((refine ggb0 (F := _∧_∧_) ⟨@Int.ofNat_lt, hlt, ha2⟩ ?_))
  repeat refine Y00 ?_
  refine Y02 ?_
  cases hpx : x.hl
  ·rw [hpx] at hra
   ((refine ggb0 (F := _∧_∧_) ⟨ha2, hlt, hra⟩ ?_))
   refine ⟨k + 1, ⟨hlt, by rw [hi]; simp [idx, hpx]⟩, by omega, ?_⟩
   exact ele
  ·rw [hpx] at hra
   ((refine ggb0 (F := _∧_∧_) ⟨ha2, hlt, hra⟩ ?_))
   ((repeat refine Y00 ?_); (refine wta ?_); simp (disch := omega) only [retQ, resD, oneD, rsv, rs, rsL, Y0a, List.map_map, bb, bt, zDs, zD, Y01, simprocAttr, Tryz.results22, hi, idx, hpx, if_pos])
 ·((refine ggb0 (F := _∧_∧_) ⟨@Int.ofNat_lt, hlt, ha2⟩ ?_))
  refine exq (F := _ ∧ _) ⟨Tryz.results22, hi⟩ ?_
  rw [List.drop_eq_nil_of_le (by omega)]; rfl
theorem Yg5 (s : Sy) (hf : Fits s) : PRet Tryz.prog 20 [syD s] (fe (Y5w s)) := by
 refine pri 1 Tryz.func20 Tryz.ntmps20 fun t => ?_
 simp only [Y04]
 have hT := Yf2 s hf
 have hI := Y6x s.rs 54 [] (fun r => r.hl) hf.nr (fun x _ => Y11l x)
 have e0 : hix s = idx (fun r : Rp => r.hl) s.rs 0 := rfl
 try rw [← e0] at hI
 have hlen := Ya0 (s := s)
 have eh : Y5w s = if (Y2k s).2 = 0 then (if hix s < 0 then ((0, 0), 12) else ((Y2k s).1.getD (hix s).toNat (0, 0), 0)) else ((0, 0), (Y2k s).2) := rfl
 have hle := Ys8 s
 generalize Y2k s = X at *
 cases hz : (X.2 == 0)
 ·have hz' : (X.2 != 0) = true := by simpa using hz
  have ez : ¬ X.2 = 0 := by simpa using hz
  rw [if_neg ez] at eh
  refine ggb1 hz' hT ?_
  ((repeat refine Y00 ?_); (refine wta ?_); simp (disch := omega) only [retQ, resD, oneD, rsv, rs, rsL, Y0a, List.map_map, bb, bt, zDs, zD, Y01, simprocAttr, Tryz.results20, eh])
 have hz' : (X.2 != 0) = false := by simpa using hz
 have ez : X.2 = 0 := by simpa using hz
 rw [if_pos ez] at eh
 by_cases hi : hix s < 0
 ·rw [if_pos hi] at eh
  ((refine ggb2 (F := _∧_) ⟨hz', hi⟩ hT hI ?_))
  ((repeat refine Y00 ?_); (refine wta ?_); simp (disch := omega) only [retQ, resD, oneD, rsv, rs, rsL, Y0a, List.map_map, bb, bt, zDs, zD, Y01, simprocAttr, Tryz.results20, eh])
 rw [if_neg hi] at eh
 obtain ⟨i, r, hie, hri, _⟩ := Y5v hi
 rw [hie] at hI eh
 have hil := (List.getElem?_eq_some_iff.1 hri).1
 obtain ⟨_, hl⟩ := hlen ez
 obtain ⟨x, hx⟩ : ∃ x, X.1[i]? = some x := ⟨_, List.getElem?_eq_getElem (by omega)⟩
 rw [Int.toNat_natCast, List.getD_eq_getElem?_getD, hx, Option.getD_some] at eh
 have hra := Y1p X.1 i x hx
 have hfl := Y1s X.1
 have hi0 : ¬ (i : Int) < 0 := by omega
 have hix1 : i < X.1.length := by omega
 ((refine ggb2 (F := _∧_∧_∧_) ⟨hz', hi0, hix1, hra⟩ hT hI ?_))
 ((repeat refine Y00 ?_); (refine wta ?_); simp (disch := omega) only [retQ, resD, oneD, rsv, rs, rsL, Y0a, List.map_map, bb, bt, zDs, zD, Y01, simprocAttr, Tryz.results20, eh])
def Ynu (l : List Hd) : Bool := l.all fun h => decide (h.b.size ≤ 60)
def Y7b (r : Rp) : Bool := decide (r.nm.size ≤ 60) && decide (r.hs.length ≤ 13) && Ynu r.hs
def Ya4 (b : Bk) : Bool := decide (b.nm.size ≤ 60)
def Y4l (s : Sy) : Bool := decide (s.bs.length ≤ 9 ∧ s.rs.length ≤ 9) && s.bs.all Ya4 && s.rs.all Y7b
theorem Yiv {α : Type} {p : α → Bool} {l : List α} {k : Nat} {x : α} (hx : l[k]? = some x) (h : p x = false) : l.all p = false := by
 rw [← Bool.not_eq_true, List.all_eq_true]
 intro hh
 rw [hh x (List.mem_of_getElem? hx)] at h
 cases h
theorem Y8o {α : Type} {p : α → Bool} {l : List α} (h : ∀ (k : Nat) (x : α), l[k]? = some x → p x = true) : l.all p = true := List.all_eq_true.2 fun x hx => by
 obtain ⟨i, hi⟩ := List.mem_iff_getElem?.1 hx
 exact h i x hi
theorem Y64 {s : Sy} (h : Y4l s = true) : Fits s := by
 simp only [Y4l, Bool.and_eq_true, decide_eq_true_eq, List.all_eq_true] at h
 obtain ⟨⟨⟨h1, h2⟩, h3⟩, h4⟩ := h
 refine ⟨by omega, by omega, fun b hb => ?_, fun r hr => ?_⟩
 ·have := h3 b hb
  simp only [Ya4, decide_eq_true_eq] at this
  omega
 ·have := h4 r hr
  simp only [Y7b, Bool.and_eq_true, decide_eq_true_eq] at this
  omega
set_option maxHeartbeats 2000000 in
theorem Ynt (s : Sy) : PRet Tryz.prog 5 [syD s] (bool (Y4l s)) := by
 refine pri 1 Tryz.func5 Tryz.ntmps5 fun t => ?_
 simp only [Y04]
 have hlb := Y1z s.bs
 have hdb := Y2p s.bs
 have hlr := Y28 s.rs
 have hdr := Y1q s.rs
 by_cases a1 : 9 < (s.bs.length : Int)
 ·have ho : Y4l s = false := by
   have : ¬ (s.bs.length ≤ 9 ∧ s.rs.length ≤ 9) := by omega
   simp only [Y4l, this, decide_false, Bool.false_and]
  ((refine ggb0 (F := _∧_) ⟨hdb, a1⟩ ?_))
  exact exx (F := _ ∧ _) ⟨Tryz.results5, ho⟩
 by_cases a2 : 9 < (s.rs.length : Int)
 ·have ho : Y4l s = false := by
   have : ¬ (s.bs.length ≤ 9 ∧ s.rs.length ≤ 9) := by omega
   simp only [Y4l, this, decide_false, Bool.false_and]
  ((refine ggb0 (F := _∧_∧_∧_) ⟨hdb, hdr, a1, a2⟩ ?_))
  exact exx (F := _ ∧ _) ⟨Tryz.results5, ho⟩
 ((refine ggb0 (F := _∧_∧_∧_) ⟨hdb, hdr, a1, a2⟩ ?_))
 repeat refine Y00 ?_
 refine Y0i (fun _ : Unit => ⟨[(1, .ptr 0 (t + 1) 0)], [some ⟨25, t + 1, [bks s.bs, rps s.rs]⟩], t + 1⟩) (fun _ => s.bs.all Ya4 = true) ?_ ?_
 ·refine Y02 ?_
  refine Y05 (fun k : Nat => ⟨[(1, .ptr 0 (t + 1) 0), (3, int k)], [some ⟨25, t + 1, [bks s.bs, rps s.rs]⟩], t + 1⟩) (fun k => s.bs.length - k) (fun k => k ≤ s.bs.length ∧ ∀ j x, j < k → s.bs[j]? = some x → Ya4 x = true) 0 ⟨Nat.zero_le _, fun j x hj => absurd hj (Nat.not_lt_zero _)⟩ ele fun k ⟨hk, hin⟩ => ?_
  by_cases hlt : k < s.bs.length
  ·obtain ⟨b, hb⟩ : ∃ y, s.bs[k]? = some y := ⟨_, List.getElem?_eq_getElem hlt⟩
   have hnm := Yej s.bs k b hb
   ((refine ggb0 (F := _∧_∧_) ⟨@Int.ofNat_lt, hlt, hdb⟩ ?_))
   repeat refine Y00 ?_
   refine Y02 ?_
   by_cases hz : 60 < (b.nm.size : Int)
   ·have ho : Y4l s = false := by
     have : Ya4 b = false := by simp only [Ya4, decide_eq_false_iff_not]; omega
     simp only [Y4l, Yiv hb this, Bool.and_false, Bool.false_and]
    ((refine ggb0 (F := _∧_∧_∧_) ⟨hdb, hlt, hnm, hz⟩ ?_))
    exact exx (F := _ ∧ _) ⟨Tryz.results5, ho⟩
   ·((refine ggb0 (F := _∧_∧_∧_) ⟨hdb, hlt, hnm, hz⟩ ?_))
    refine ⟨k + 1, ⟨hlt, fun j x hj hx => ?_⟩, by omega, ?_⟩
    ·by_cases e : j = k
     ·subst e; rw [hb] at hx; cases hx; simp only [Ya4, decide_eq_true_eq]; omega
     ·exact hin j x (by omega) hx
    exact ele
  ·have hke : k = s.bs.length := by omega
   subst hke
   ((refine ggb0 (F := _∧_) ⟨@Int.lt_irrefl, hdb⟩ ?_))
   exact ⟨(), Y8o fun j x hx => hin j x (List.getElem?_eq_some_iff.1 hx).1 hx, ele⟩
 rintro - hbs
 refine gga0 ?_
 repeat refine Y00 ?_
 refine Y0i (fun _ : Unit => ⟨[], [], t + 1⟩) (fun _ => s.rs.all Y7b = true) ?_ ?_
 ·refine Y02 ?_
  refine Y05 (fun k : Nat => ⟨[(1, .ptr 0 (t + 1) 0), (4, int k)], [some ⟨25, t + 1, [bks s.bs, rps s.rs]⟩], t + 1⟩) (fun k => s.rs.length - k) (fun k => k ≤ s.rs.length ∧ ∀ j x, j < k → s.rs[j]? = some x → Y7b x = true) 0 ⟨Nat.zero_le _, fun j x hj => absurd hj (Nat.not_lt_zero _)⟩ ele fun k ⟨hk, hin⟩ => ?_
  by_cases hlt : k < s.rs.length
  ·obtain ⟨r, hr⟩ : ∃ y, s.rs[k]? = some y := ⟨_, List.getElem?_eq_getElem hlt⟩
   have hnm := Yje s.rs k r hr
   have hhs : (rpC s.rs)[k * 3 + 1]? = some (hds r.hs) := Y9a s.rs k r hr 1 (by decide)
   have hdh := Y4v r.hs
   have hlh := Y3i r.hs
   ((refine ggb0 (F := _∧_∧_) ⟨@Int.ofNat_lt, hlt, hdr⟩ ?_))
   repeat refine Y00 ?_
   refine Y02 ?_
   have hno : Y7b r = false → Y4l s = false := fun h => by simp only [Y4l, Yiv hr h, Bool.and_false]
   by_cases hz : 60 < (r.nm.size : Int)
   ·have ho := hno (by
     have : ¬ r.nm.size ≤ 60 := by omega
     simp only [Y7b, this, decide_false, Bool.false_and])
    ((refine ggb0 (F := _∧_∧_∧_) ⟨hdr, hlt, hnm, hz⟩ ?_))
    exact exx (F := _ ∧ _) ⟨Tryz.results5, ho⟩
   by_cases hz2 : 13 < (r.hs.length : Int)
   ·have ho := hno (by
     have : ¬ r.hs.length ≤ 13 := by omega
     simp only [Y7b, this, decide_false, Bool.false_and, Bool.and_false])
    ((refine ggb0 (F := _∧_∧_∧_∧_∧_∧_) ⟨hdr, hlt, hnm, hz, hhs, hdh, hz2⟩ ?_))
    exact exx (F := _ ∧ _) ⟨Tryz.results5, ho⟩
   ((refine ggb0 (F := _∧_∧_∧_∧_∧_∧_) ⟨hdr, hlt, hnm, hz, hhs, hdh, hz2⟩ ?_))
   ·repeat refine Y00 ?_
    refine Y02 ?_
    refine Y05 (fun i : Nat => ⟨[(1, .ptr 0 (t + 1) 0), (4, int k), (5, int i)], [some ⟨25, t + 1, [bks s.bs, rps s.rs]⟩], t + 1⟩) (fun i => r.hs.length - i) (fun i => i ≤ r.hs.length ∧ ∀ j x, j < i → r.hs[j]? = some x → decide (x.b.size ≤ 60) = true) 0 ⟨Nat.zero_le _, fun j x hj => absurd hj (Nat.not_lt_zero _)⟩ ele fun i ⟨hi, hjn⟩ => ?_
    by_cases hli : i < r.hs.length
    ·obtain ⟨h, hh⟩ : ∃ y, r.hs[i]? = some y := ⟨_, List.getElem?_eq_getElem hli⟩
     have hhn := Ydv r.hs i h hh
     ((refine ggb0 (F := _∧_∧_∧_∧_∧_) ⟨@Int.ofNat_lt, hli, hdr, hlt, hhs, hdh⟩ ?_))
     repeat refine Y00 ?_
     refine Y02 ?_
     by_cases hz3 : 60 < (h.b.size : Int)
     ·have ho := hno (by
       have : decide (h.b.size ≤ 60) = false := by simp only [decide_eq_false_iff_not]; omega
       simp only [Y7b, Ynu, Yiv (p := fun h : Hd => decide (h.b.size ≤ 60)) hh this, Bool.and_false])
      ((refine ggb0 (F := _∧_∧_∧_∧_∧_∧_) ⟨hdr, hlt, hhs, hdh, hli, hhn, hz3⟩ ?_))
      exact exx (F := _ ∧ _) ⟨Tryz.results5, ho⟩
     ·((refine ggb0 (F := _∧_∧_∧_∧_∧_∧_) ⟨hdr, hlt, hhs, hdh, hli, hhn, hz3⟩ ?_))
      refine ⟨i + 1, ⟨hli, fun j x hj hx => ?_⟩, by omega, ?_⟩
      ·by_cases e : j = i
       ·subst e; rw [hh] at hx; cases hx; simp only [decide_eq_true_eq]; omega
       ·exact hjn j x (by omega) hx
      exact ele
    ·have hie : i = r.hs.length := by omega
     subst hie
     ((refine ggb0 (F := _∧_∧_∧_∧_) ⟨@Int.lt_irrefl, hdr, hlt, hhs, hdh⟩ ?_))
     have hall : Ynu r.hs = true := Y8o fun j x hx => hjn j x (List.getElem?_eq_some_iff.1 hx).1 hx
     refine ⟨k + 1, ⟨hlt, fun j x hj hx => ?_⟩, by omega, ?_⟩
     ·by_cases e : j = k
      ·subst e; rw [hr] at hx; cases hx
       have h1 : r.nm.size ≤ 60 := by omega
       have h2 : r.hs.length ≤ 13 := by omega
       simp only [Y7b, h1, h2, hall, decide_true, Bool.and_self]
      ·exact hin j x (by omega) hx
     exact ele
  ·have hke : k = s.rs.length := by omega
   subst hke
   ((refine ggb0 (F := _∧_) ⟨@Int.lt_irrefl, hdr⟩ ?_))
   exact ⟨(), Y8o fun j x hx => hin j x (List.getElem?_eq_some_iff.1 hx).1 hx, ele⟩
 rintro - hrs
 have ho : Y4l s = true := by
  have : s.bs.length ≤ 9 ∧ s.rs.length ≤ 9 := by omega
  simp only [Y4l, this, hbs, hrs, and_self, decide_true, Bool.and_self]
 refine gga0 ?_
 exact exx (F := _ ∧ _) ⟨Tryz.results5, ho⟩
def hB : ByteArray := ⟨#[98]⟩
def hR : ByteArray := ⟨#[114]⟩
def hE : ByteArray := ⟨#[]⟩
def trS (s : Sy) : List (List Int) := Y5j (matS s) s.rs.length
theorem Yu9 {cells : List D} {n k : Nat} (hc : cells.length = k) (hk : k < n) (c d : D) : (cells ++ c :: List.replicate (n - (k + 1)) nilI).set k d = cells ++ d :: List.replicate (n - (k + 1)) nilI := by
 rw [List.set_append_right _ _ (by omega), hc, Nat.sub_self, List.set_cons_zero]
theorem Yqw {cells : List D} {n k : Nat} (hc : cells.length = k) (c : D) : (cells ++ c :: List.replicate (n - (k + 1)) nilI)[k]? = some c := by
 rw [List.getElem?_append_right (by omega), hc, Nat.sub_self, List.getElem?_cons_zero]
theorem Yxe {cells : List D} {n k : Nat} (hk : k < n) : cells ++ List.replicate (n - k) nilI = cells ++ nilI :: List.replicate (n - (k + 1)) nilI := by
 rw [show n - k = (n - (k + 1)) + 1 by omega, List.replicate_succ]
theorem Yi9 (b g : Nat) (cs : List D) : ∀ k, fzL b g cs (List.replicate k nilI) = List.replicate k nilI
 | 0 => rfl
 | k + 1 => by simp only [List.replicate_succ, fzL, fz, Yi9 b g cs k]
theorem Yia (b g : Nat) (cs : List D) : ∀ x y : List D, fzL b g cs (x ++ y) = fzL b g cs x ++ fzL b g cs y
 | [], y => rfl
 | d :: x, y => by simp only [List.cons_append, fzL, Yia b g cs x y]
theorem OkS.tr_len {s : Sy} (_ok : OkS s) : (trS s).length = s.rs.length := Y5i _ _
theorem OkS.tr_valid {s : Sy} (ok : OkS s) : Y1c (trS s) = true ∧ wid (trS s) = s.bs.length := by
 obtain ⟨m1, m2, m3⟩ := Y0v.1 ok.mat_valid
 have ml := ok.mat_len
 have mw := ok.mat_wid
 have b1 := ok.b1
 have b6 := ok.b6
 have r1 := ok.r1
 have r6 := ok.r6
 have hrow : ∀ r ∈ trS s, r.length = s.bs.length ∧ ∀ x ∈ r, -32 ≤ x ∧ x ≤ 32 := fun r hr => by
  obtain ⟨j, hj, rfl⟩ := List.mem_map.1 hr
  refine ⟨by simp [colP, ml], fun x hx => ?_⟩
  obtain ⟨q, hq, rfl⟩ := List.mem_map.1 hx
  exact Y82 (by decide) (m3 q hq).2 j
 have hl := ok.tr_len
 have hw : wid (trS s) = s.bs.length := by
  obtain ⟨r, rs, e⟩ : ∃ r rs, trS s = r :: rs := by
   cases hr : trS s with
   | nil => rw [hr] at hl; simp at hl; omega
   | cons a b => exact ⟨a, b, rfl⟩
  unfold wid
  rw [e, List.headD_cons]
  exact (hrow r (by rw [e]; simp)).1
 exact ⟨Y0v.2 ⟨by omega, by omega, fun r hr => ⟨by rw [hw]; exact (hrow r hr).1, (hrow r hr).2⟩⟩, hw⟩
theorem OkS.tr_fit {s : Sy} (ok : OkS s) : (trS s).length ≤ 1000000 ∧ (∀ r ∈ trS s, r.length ≤ 1000000) := by
 obtain ⟨h1, h2⟩ := ok.tr_valid
 obtain ⟨m1, m2, m3⟩ := Y0v.1 h1
 exact ⟨by omega, fun r hr => by rw [(m3 r hr).1]; omega⟩
theorem Yf0 (l : List (List (Int × Int))) : Y37 (l.map frs) = true := Y3q fun d hd => by
 obtain ⟨x, _, rfl⟩ := List.mem_map.1 hd
 simp only [Y2w, Y8a, Bool.not_false, Bool.and_self]
end Go.Proofs.YtpbpafmgkdihlaaGreatDoor.T
section
namespace Go.Proofs.YtpbpafmgkdihlaaGreatDoor.T
open Go Go.RowKit Lin
theorem Yn8 {a b : Int} (h : Y09 a b = true) : Y09 (-a) b = true := by
 unfold Y09 at h ⊢
 simp only [Bool.and_eq_true, decide_eq_true_eq, Int.natAbs_neg] at h ⊢
 omega
def subP (a b : Int × Int) : (Int × Int) × Int := if Y09 a.1 a.2 = true ∧ Y09 b.1 b.2 = true then addR a (-b.1, b.2) else ((0, 0), 1)
theorem Yy1 {l : List (Int × Int)} {k : Nat} {f : Int × Int} (h : allV l = true) (hk : l[k]? = some f) : Y09 f.1 f.2 = true := by
 unfold allV at h
 rw [List.all_eq_true] at h
 exact h f (List.mem_of_getElem? hk)
def givE (s : Sy) (l : List (Int × Int)) : Int := if Y0g s = true ∧ allV l = true then (if l.length = s.rs.length then 0 else 3) else 1
theorem Y5x (b g : Nat) (cs : List D) : ∀ l : List (Int × Int), fzL b g cs (frC l) = frC l
 | [] => by simp only [frC, List.flatMap_nil, fzL]
 | x :: l => by have := Y5x b g cs l; simp only [frC, List.flatMap_cons, List.cons_append, List.nil_append, fzL, fz] at this ⊢; rw [this]
end Go.Proofs.YtpbpafmgkdihlaaGreatDoor.T
end
section
namespace Go.Proofs.YtpbpafmgkdihlaaGreatDoor.T
open Go Go.RowKit Lin
end Go.Proofs.YtpbpafmgkdihlaaGreatDoor.T
end
