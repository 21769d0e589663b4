import Derived.Test.YtjjpjgnoanfaoaaTB
import Derived.Test.YtjjpjgnoanfaoaaWA
import Derived.Test.YtjjpjgnoanfaoaaRatioA
import Derived.Test.YtjjpjgnoanfaoaaWJK
import Derived.Test.YtjjpjgnoanfaoaaYWXDep
import Derived.Test.YtjjpjgnoanfaoaaWE
set_option linter.all false
namespace Go.Proofs.Ytjjpjgnoanfaoaa.T
open Go Go.RowKit
set_option linter.unusedSimpArgs false

/-! Systems of ropes and blocks, and how they lie. -/
structure Hd where
  b : ByteArray
  p : Int
  n : Int
  d : Int
  deriving DecidableEq
structure Rp where
  nm : ByteArray
  hs : List Hd
  hl : Bool
  deriving DecidableEq
structure Bk where
  nm : ByteArray
  w : Int
  deriving DecidableEq
structure Sy where
  bs : List Bk
  rs : List Rp
  deriving DecidableEq
abbrev str (s : ByteArray) : D := .v (.string s)
theorem flat_len {α : Type} {f : α → List D} {n : Nat} (hn : ∀ x, (f x).length = n) : ∀ l : List α, (l.flatMap f).length = l.length * n
  | [] => by simp
  | x :: l => by simp only [List.flatMap_cons, List.length_append, hn, flat_len hn l, List.length_cons, Nat.add_mul]; omega
theorem flat_read {α : Type} {f : α → List D} {n : Nat} (hn : ∀ x, (f x).length = n) : ∀ (l : List α) (i : Nat) (x : α), l[i]? = some x → ((l.flatMap f).drop (i * n)).take n = f x
  | [], i, x, h => by simp at h
  | y :: l, 0, x, h => by
    simp at h; subst h
    rw [Nat.zero_mul, List.drop_zero, List.flatMap_cons, List.take_left' (hn _)]
  | y :: l, i + 1, x, h => by
    have := flat_read hn l i x (by simpa using h)
    have e : (i + 1) * n = (f y).length + i * n := by rw [hn, Nat.add_mul]; omega
    rw [e, List.flatMap_cons, List.drop_append, List.drop_eq_nil_of_le (by omega), List.nil_append, Nat.add_sub_cancel_left]
    exact this
theorem flat_set {α : Type} {f : α → List D} {n : Nat} (hn : ∀ x, (f x).length = n) : ∀ (l : List α) (i : Nat) (y : α), i < l.length → (l.flatMap f).take (i * n) ++ f y ++ (l.flatMap f).drop (i * n + n) = (l.set i y).flatMap f
  | [], i, y, h => by simp at h
  | x :: l, 0, y, h => by
    simp only [Nat.zero_mul, List.take_zero, List.nil_append, Nat.zero_add, List.set_cons_zero, List.flatMap_cons]
    rw [List.drop_append, List.drop_eq_nil_of_le (by rw [hn]; exact Nat.le_refl _), hn, Nat.sub_self]; simp
  | x :: l, i + 1, y, h => by
    have := flat_set hn l i y (by simpa using h)
    have e : (i + 1) * n = (f x).length + i * n := by rw [hn, Nat.add_mul]; omega
    rw [List.set_cons_succ, List.flatMap_cons, List.flatMap_cons, ← this, e, Nat.add_assoc, List.take_append, List.take_of_length_le (by omega), Nat.add_sub_cancel_left, List.drop_append, List.drop_eq_nil_of_le (by omega), List.nil_append, Nat.add_sub_cancel_left]
    simp
abbrev hd1 (x : Hd) : List D := [str x.b, int x.p, int x.n, int x.d]
def hdC (l : List Hd) : List D := l.flatMap hd1
abbrev hds (l : List Hd) : D := .sl 4 (hdC l) false
theorem hdC_len (l : List Hd) : (hdC l).length = l.length * 4 := flat_len (f := hd1) (n := 4) (fun _ => rfl) l
theorem hdC_div (l : List Hd) : (hdC l).length / 4 = l.length := by rw [hdC_len]; omega
theorem hdC_read (l : List Hd) (i : Nat) (x : Hd) (h : l[i]? = some x) : ((hdC l).drop (i * 4)).take 4 = hd1 x := flat_read (f := hd1) (n := 4) (fun _ => rfl) l i x h
theorem hdC_cell (l : List Hd) (i : Nat) (x : Hd) (h : l[i]? = some x) (j : Nat) (hj : j < 4) : (hdC l)[i * 4 + j]? = (hd1 x)[j]? := by
  rw [← hdC_read l i x h, List.getElem?_take, if_pos hj, List.getElem?_drop]
theorem hdC_name (l : List Hd) (i : Nat) (x : Hd) (h : l[i]? = some x) : (hdC l)[i * 4]? = some (str x.b) := hdC_cell l i x h 0 (by decide)
theorem hdC_app (l : List Hd) (x : Hd) : hdC (l ++ [x]) = hdC l ++ hd1 x := by simp [hdC]
theorem hdC_set (l : List Hd) (i : Nat) (y : Hd) (h : i < l.length) : (hdC l).take (i * 4) ++ hd1 y ++ (hdC l).drop (i * 4 + 4) = hdC (l.set i y) := flat_set (f := hd1) (n := 4) (fun _ => rfl) l i y h
abbrev rp1 (x : Rp) : List D := [str x.nm, hds x.hs, bool x.hl]
def rpC (l : List Rp) : List D := l.flatMap rp1
abbrev rps (l : List Rp) : D := .sl 3 (rpC l) false
theorem rpC_len (l : List Rp) : (rpC l).length = l.length * 3 := flat_len (f := rp1) (n := 3) (fun _ => rfl) l
theorem rpC_div (l : List Rp) : (rpC l).length / 3 = l.length := by rw [rpC_len]; omega
theorem rpC_read (l : List Rp) (i : Nat) (x : Rp) (h : l[i]? = some x) : ((rpC l).drop (i * 3)).take 3 = rp1 x := flat_read (f := rp1) (n := 3) (fun _ => rfl) l i x h
theorem rpC_cell (l : List Rp) (i : Nat) (x : Rp) (h : l[i]? = some x) (j : Nat) (hj : j < 3) : (rpC l)[i * 3 + j]? = (rp1 x)[j]? := by
  rw [← rpC_read l i x h, List.getElem?_take, if_pos hj, List.getElem?_drop]
theorem rpC_name (l : List Rp) (i : Nat) (x : Rp) (h : l[i]? = some x) : (rpC l)[i * 3]? = some (str x.nm) := rpC_cell l i x h 0 (by decide)
theorem rpC_app (l : List Rp) (x : Rp) : rpC (l ++ [x]) = rpC l ++ rp1 x := by simp [rpC]
theorem rpC_set (l : List Rp) (i : Nat) (y : Rp) (h : i < l.length) : (rpC l).take (i * 3) ++ rp1 y ++ (rpC l).drop (i * 3 + 3) = rpC (l.set i y) := flat_set (f := rp1) (n := 3) (fun _ => rfl) l i y h
abbrev bk1 (x : Bk) : List D := [str x.nm, int x.w]
def bkC (l : List Bk) : List D := l.flatMap bk1
abbrev bks (l : List Bk) : D := .sl 2 (bkC l) false
theorem bkC_len (l : List Bk) : (bkC l).length = l.length * 2 := flat_len (f := bk1) (n := 2) (fun _ => rfl) l
theorem bkC_div (l : List Bk) : (bkC l).length / 2 = l.length := by rw [bkC_len]; omega
theorem bkC_read (l : List Bk) (i : Nat) (x : Bk) (h : l[i]? = some x) : ((bkC l).drop (i * 2)).take 2 = bk1 x := flat_read (f := bk1) (n := 2) (fun _ => rfl) l i x h
theorem bkC_cell (l : List Bk) (i : Nat) (x : Bk) (h : l[i]? = some x) (j : Nat) (hj : j < 2) : (bkC l)[i * 2 + j]? = (bk1 x)[j]? := by
  rw [← bkC_read l i x h, List.getElem?_take, if_pos hj, List.getElem?_drop]
theorem bkC_name (l : List Bk) (i : Nat) (x : Bk) (h : l[i]? = some x) : (bkC l)[i * 2]? = some (str x.nm) := bkC_cell l i x h 0 (by decide)
theorem bkC_app (l : List Bk) (x : Bk) : bkC (l ++ [x]) = bkC l ++ bk1 x := by simp [bkC]
theorem bkC_set (l : List Bk) (i : Nat) (y : Bk) (h : i < l.length) : (bkC l).take (i * 2) ++ bk1 y ++ (bkC l).drop (i * 2 + 2) = bkC (l.set i y) := flat_set (f := bk1) (n := 2) (fun _ => rfl) l i y h
abbrev syD (s : Sy) : D := .agg [bks s.bs, rps s.rs]
abbrev sy1 (s : Sy) : List D := [bks s.bs, rps s.rs]
abbrev sys (l : List Sy) : D := .sl 2 (l.flatMap sy1) false
theorem plainL_app : ∀ (a b : List D), plainL (a ++ b) = (plainL a && plainL b)
  | [], b => by simp [plainL]
  | d :: a, b => by simp [plainL, plainL_app a b, Bool.and_assoc]
theorem plain_hd : ∀ l : List Hd, plainL (hdC l) = true
  | [] => rfl
  | x :: l => by have := plain_hd l; simp only [hdC, List.flatMap_cons, plainL_app, plainL, plainD, Bool.true_and] at this ⊢; exact this
theorem plain_bk : ∀ l : List Bk, plainL (bkC l) = true
  | [] => rfl
  | x :: l => by have := plain_bk l; simp only [bkC, List.flatMap_cons, plainL_app, plainL, plainD, Bool.true_and] at this ⊢; exact this
theorem plain_rp : ∀ l : List Rp, plainL (rpC l) = true
  | [] => rfl
  | x :: l => by have := plain_rp l; have h := plain_hd x.hs; simp only [rpC, List.flatMap_cons, plainL_app, plainL, plainD, Bool.true_and, Bool.and_true, h] at this ⊢; exact this
mutual
theorem fz_plain (b g : Nat) (cs : List D) : ∀ d : D, plainD d = true → fz b g cs d = d
  | .v x, _ => by simp only [fz]
  | .sl sz ds full, h => by simp only [plainD] at h; simp only [fz, fzL_plain b g cs ds h]
  | .rp ds o, h => by simp only [plainD] at h; simp only [fz, fzL_plain b g cs ds h]
  | .own .., h => by simp [plainD] at h
  | .ptr .., h => by simp [plainD] at h
  | .agg ds, h => by simp only [plainD] at h; simp only [fz, fzL_plain b g cs ds h]
  | .tup ds, h => by simp only [plainD] at h; simp only [fz, fzL_plain b g cs ds h]
  | .fn f ds, h => by simp only [plainD] at h; simp only [fz, fzL_plain b g cs ds h]
  | .mp .., h => by simp [plainD] at h
  | .any, _ => by simp only [fz]
theorem fzL_plain (b g : Nat) (cs : List D) : ∀ ds : List D, plainL ds = true → fzL b g cs ds = ds
  | [], _ => by simp only [fzL]
  | d :: ds, h => by
    simp only [plainL, Bool.and_eq_true] at h
    simp only [fzL, fz_plain b g cs d h.1, fzL_plain b g cs ds h.2]
end
mutual
theorem zz_plain (R : D → D) (m : Nat) (H : Hp) : ∀ d : D, plainD d = true → zz R m H d = d
  | .v x, _ => by simp only [zz]
  | .sl sz ds full, h => by simp only [plainD] at h; simp only [zz, zzL_plain R m H ds h]
  | .rp ds o, h => by simp only [plainD] at h; simp only [zz, zzL_plain R m H ds h]
  | .own .., h => by simp [plainD] at h
  | .ptr .., h => by simp [plainD] at h
  | .agg ds, h => by simp only [plainD] at h; simp only [zz, zzL_plain R m H ds h]
  | .tup ds, h => by simp only [plainD] at h; simp only [zz, zzL_plain R m H ds h]
  | .fn f ds, h => by simp only [plainD] at h; simp only [zz, zzL_plain R m H ds h]
  | .mp .., h => by simp [plainD] at h
  | .any, _ => by simp only [zz]
theorem zzL_plain (R : D → D) (m : Nat) (H : Hp) : ∀ ds : List D, plainL ds = true → zzL R m H ds = ds
  | [], _ => by simp only [zzL]
  | d :: ds, h => by
    simp only [plainL, Bool.and_eq_true] at h
    simp only [zzL, zz_plain R m H d h.1, zzL_plain R m H ds h.2]
end
theorem zv_plain (m : Nat) (H : Hp) (k : Nat) {d : D} (h : plainD d = true) : zv m H k d = d := by
  cases k with
  | zero => rfl
  | succ k => exact zz_plain _ m H d h
theorem fz_hd (b g : Nat) (cs : List D) (l : List Hd) : fzL b g cs (hdC l) = hdC l := fzL_plain b g cs _ (plain_hd l)
theorem fz_rp (b g : Nat) (cs : List D) (l : List Rp) : fzL b g cs (rpC l) = rpC l := fzL_plain b g cs _ (plain_rp l)
theorem fz_bk (b g : Nat) (cs : List D) (l : List Bk) : fzL b g cs (bkC l) = bkC l := fzL_plain b g cs _ (plain_bk l)
theorem sy_plain (s : Sy) : plainD (syD s) = true := by simp only [plainD, plainL, plain_bk, plain_rp, Bool.and_self]
end Go.Proofs.Ytjjpjgnoanfaoaa.T

section
namespace Go.Proofs.Ytjjpjgnoanfaoaa.T
open Go Go.RowKit

/-! Names, holds, ropes, systems: what is right (plain). -/
def bytes (s : ByteArray) : List UInt8 := s.data.toList
theorem bytes_len (s : ByteArray) : (bytes s).length = s.size := rfl
theorem bytes_get (s : ByteArray) (i : Nat) : s[i]? = (bytes s)[i]? := by
  by_cases h : i < s.size
  · rw [getElem?_pos s i h, List.getElem?_eq_getElem (show i < (bytes s).length from h)]
    rfl
  · rw [getElem?_neg s i h, List.getElem?_eq_none (show (bytes s).length ≤ i by rw [bytes_len]; omega)]
theorem empty_size (s : ByteArray) : decide (s = ⟨#[]⟩) = decide (s.size = 0) := by
  rw [Bool.eq_iff_iff]
  simp only [decide_eq_true_eq]
  constructor
  · rintro rfl; rfl
  · intro h
    cases s with
    | mk a => exact congrArg _ (Array.eq_empty_of_size_eq_zero h)
instance instLawfulNames : LawfulBEq ByteArray where
  eq_of_beq {a b} h := by rw [str_beq] at h; simpa using h
  rfl {a} := by rw [str_beq]; simp
def isL (c : Int) : Bool := (decide (97 ≤ c) && decide (c ≤ 122)) || (decide (65 ≤ c) && decide (c ≤ 90))
def isDg (c : Int) : Bool := decide (48 ≤ c) && decide (c ≤ 57)
def wordB (c : UInt8) : Bool := isL c.toNat || isDg c.toNat || ((c.toNat : Int) == 95)
def wordN (l : List UInt8) : Nat := (l.takeWhile wordB).length
def isNm (s : ByteArray) : Bool := decide (s.size ≠ 0) && decide (s.size ≤ 20) && (match bytes s with | c :: _ => isL c.toNat | [] => false) && decide (wordN (bytes s) = s.size)
theorem wordN_le (l : List UInt8) : wordN l ≤ l.length := by
  unfold wordN
  exact (List.takeWhile_sublist _).length_le
theorem wordN_step {l : List UInt8} {k : Nat} {c : UInt8} (h : l[k]? = some c) (hk : wordN l = k + wordN (l.drop k)) : wordN (l.drop k) = if wordB c = true then 1 + wordN (l.drop (k + 1)) else 0 := by
  obtain ⟨h1, h2⟩ := List.getElem?_eq_some_iff.1 h
  rw [List.drop_eq_getElem_cons h1, h2]
  unfold wordN
  rw [List.takeWhile_cons]
  split <;> simp
  omega
def findB (bs : List Bk) (nm : ByteArray) : Int := idx (fun b => decide (b.nm = nm)) bs 0
def findR (rs : List Rp) (nm : ByteArray) : Int := idx (fun r => decide (r.nm = nm)) rs 0
def lossy (n d : Int) : Bool := vfrac n d && decide (d ≤ n) && decide (n ≤ 100)
def okHold (bs : List Bk) (h : Hd) (e : Bool) : Bool :=
  (if e = true then (h.n == 1 && h.d == 1) else lossy h.n h.d) &&
  (if h.b = ⟨#[]⟩ then h.p == 0 else decide (0 ≤ findB bs h.b) && (if e = true then (h.p == 1 || h.p == -1) else (h.p == 2 || h.p == 0 || h.p == -2)))
def endH (n i : Nat) : Bool := i == 0 || i + 1 == n
def okHolds (bs : List Bk) (hs : List Hd) : Bool := (List.range hs.length).all fun i => match hs[i]? with | some h => okHold bs h (endH hs.length i) | none => true
def okRope (bs : List Bk) (r : Rp) : Bool := decide (2 ≤ r.hs.length ∧ r.hs.length ≤ 10) && okHolds bs r.hs && (!r.hl || (match r.hs.getLast? with | some h => decide (h.b = ⟨#[]⟩) | none => true))
def bNames (bs : List Bk) : List ByteArray := bs.map (·.nm)
def rNames (rs : List Rp) : List ByteArray := rs.map (·.nm)
def okB (bs : List Bk) (k : Nat) : Bool := match bs[k]? with | some b => isNm b.nm && !(bNames (bs.take k)).contains b.nm && decide (0 ≤ b.w ∧ b.w ≤ 16777216) | none => true
def okR (s : Sy) (k : Nat) : Bool := match s.rs[k]? with | some r => isNm r.nm && !(bNames s.bs ++ rNames (s.rs.take k)).contains r.nm && okRope s.bs r | none => true
def hauls (rs : List Rp) : Nat := (rs.filter (·.hl)).length
def okSize (s : Sy) : Bool := decide (1 ≤ s.bs.length ∧ s.bs.length ≤ 6) && decide (1 ≤ s.rs.length ∧ s.rs.length ≤ 6)
def validS (s : Sy) : Bool := okSize s && (List.range s.bs.length).all (okB s.bs) && (List.range s.rs.length).all (okR s) && decide (hauls s.rs ≤ 1)
theorem upto_all {p : Nat → Bool} {n : Nat} (h : ∀ k, k < n → p k = true) : (List.range n).all p = true := List.all_eq_true.2 fun x hx => h x (List.mem_range.1 hx)
theorem upto_not {p : Nat → Bool} {n k : Nat} (hk : k < n) (h : p k = false) : (List.range n).all p = false := by
  rw [← Bool.not_eq_true, List.all_eq_true]
  intro hh
  rw [hh k (List.mem_range.2 hk)] at h
  cases h
/-- The first place of a name. -/
theorem idx_first {α : Type} (p : α → Bool) : ∀ (l : List α) (n k : Nat) (x : α), l[k]? = some x → p x = true → ((l.take k).any p = false ↔ idx p l n = (n + k : Nat))
  | [], n, k, x, h, _ => by simp at h
  | y :: l, n, 0, x, h, hp => by simp at h; subst h; simp [idx, hp]
  | y :: l, n, k + 1, x, h, hp => by
    have ih := idx_first p l (n + 1) k x (by simpa using h) hp
    rw [List.take_succ_cons, List.any_cons]
    cases hy : p y
    · simp only [Bool.false_or, idx, hy, Bool.false_eq_true, if_false]
      rw [ih, show n + 1 + k = n + (k + 1) by omega]
    · simp only [Bool.true_or, idx, hy, if_true]
      constructor
      · intro h; cases h
      · intro h; exfalso; omega
theorem idx_lt {α : Type} (p : α → Bool) : ∀ (l : List α) (n : Nat), (l.any p = true → ∃ k x, idx p l n = (n + k : Nat) ∧ l[k]? = some x ∧ p x = true) ∧ (l.any p = false → idx p l n = -1)
  | [], n => by simp [idx]
  | y :: l, n => by
    obtain ⟨h1, h2⟩ := idx_lt p l (n + 1)
    rw [List.any_cons]
    cases hy : p y
    · simp only [Bool.false_or, idx, hy, Bool.false_eq_true, if_false]
      refine ⟨fun h => ?_, h2⟩
      obtain ⟨k, x, e, hk, hx⟩ := h1 h
      exact ⟨k + 1, x, by rw [e]; congr 1; omega, by simpa using hk, hx⟩
    · simp only [Bool.true_or, idx, hy, if_true]
      exact ⟨fun _ => ⟨0, y, by simp, rfl, hy⟩, fun h => by cases h⟩
end Go.Proofs.Ytjjpjgnoanfaoaa.T
end

section
namespace Go.Proofs.Ytjjpjgnoanfaoaa.T
open Go Go.RowKit
set_option linter.unusedSimpArgs false

/-! Names and places: the walks. -/
theorem letter_ref (c : Int) : PRet Try.prog 154 [.v (.int .u8 c)] (bool (isL c)) := by
  refine PRet.intro 1 fun t => ACall.enter tab_ok Try.func154 rfl rfl Try.ntmps154 (by simp) ?_
  simp only [enterTM]
  by_cases h1 : 97 ≤ c <;> by_cases h2 : c ≤ 122 <;> by_cases h3 : 65 ≤ c <;> by_cases h4 : c ≤ 90 <;>
  · ((refine ggb0 (F := _∧_∧_∧_) ⟨h1, h2, h3, h4⟩ ?_))
    ((repeat refine AW_seq ?_); (refine wta ?_); simp (disch := omega) only [retQ, resD, oneD, rsv, rs, rsL, rsL_eq_map, List.map_map, bb, bt, zDs, zD, eqCells, simprocAttr, Try.results154, isL, h1, h2, h3, h4, Bool.or_true, Bool.or_false, Bool.or_self])
theorem letter_dec (c : Int) : PRet Try.prog 161 [.v (.int .u8 c)] (bool (isL c)) := by
  refine PRet.intro 1 fun t => ACall.enter tab_ok Try.func161 rfl rfl Try.ntmps161 (by simp) ?_
  simp only [enterTM]
  by_cases h1 : 97 ≤ c <;> by_cases h2 : c ≤ 122 <;> by_cases h3 : 65 ≤ c <;> by_cases h4 : c ≤ 90 <;>
  · ((refine ggb0 (F := _∧_∧_∧_) ⟨h1, h2, h3, h4⟩ ?_))
    ((repeat refine AW_seq ?_); (refine wta ?_); simp (disch := omega) only [retQ, resD, oneD, rsv, rs, rsL, rsL_eq_map, List.map_map, bb, bt, zDs, zD, eqCells, simprocAttr, Try.results161, isL, h1, h2, h3, h4, Bool.or_true, Bool.or_false, Bool.or_self])
theorem digit_ref (c : Int) : PRet Try.prog 185 [.v (.int .u8 c)] (bool (isDg c)) := by
  refine PRet.intro 1 fun t => ACall.enter tab_ok Try.func185 rfl rfl Try.ntmps185 (by simp) ?_
  simp only [enterTM]
  by_cases h1 : 48 ≤ c <;> by_cases h2 : c ≤ 57 <;>
  · ((refine ggb0 (F := _∧_) ⟨h1, h2⟩ ?_))
    ((repeat refine AW_seq ?_); (refine wta ?_); simp (disch := omega) only [retQ, resD, oneD, rsv, rs, rsL, rsL_eq_map, List.map_map, bb, bt, zDs, zD, eqCells, simprocAttr, Try.results185, isDg, h1, h2])
theorem digit_dec (c : Int) : PRet Try.prog 186 [.v (.int .u8 c)] (bool (isDg c)) := by
  refine PRet.intro 1 fun t => ACall.enter tab_ok Try.func186 rfl rfl Try.ntmps186 (by simp) ?_
  simp only [enterTM]
  by_cases h1 : 48 ≤ c <;> by_cases h2 : c ≤ 57 <;>
  · ((refine ggb0 (F := _∧_) ⟨h1, h2⟩ ?_))
    ((repeat refine AW_seq ?_); (refine wta ?_); simp (disch := omega) only [retQ, resD, oneD, rsv, rs, rsL, rsL_eq_map, List.map_map, bb, bt, zDs, zD, eqCells, simprocAttr, Try.results186, isDg, h1, h2])
theorem word_ref (s : ByteArray) (hs : s.size ≤ 1000000) : PRet Try.prog 155 [str s, int 0] (int (wordN (bytes s))) := by
  refine PRet.intro 1 fun t => ACall.enter tab_ok Try.func155 rfl rfl Try.ntmps155 (by simp) ?_
  simp only [enterTM]
  ((refine gga0 ?_))
  ((repeat refine AW_seq ?_))
  refine AW_block ?_
  refine AW_loop_w (fun k : Nat => ⟨[(0, str s), (1, int k)], [], t⟩) (fun k => s.size - k) (fun k => k ≤ s.size ∧ wordN (bytes s) = k + wordN ((bytes s).drop k)) 0 ⟨Nat.zero_le _, by simp⟩ (by (simp (disch := omega) only [StLe, tmLe, hpLe_refl, hpLe, bl, bb, bt, zDs, zD, eqCells, simprocAttr])) fun k ⟨hk, hi⟩ => ?_
  by_cases hlt : k < s.size
  · obtain ⟨c, hc⟩ : ∃ c, (bytes s)[k]? = some c := ⟨_, List.getElem?_eq_getElem hlt⟩
    have hb := bytes_get s k
    rw [hc] at hb
    have hst := wordN_step hc hi
    have hl := letter_ref c.toNat
    have hd := digit_ref c.toNat
    cases h1 : isL c.toNat
    · rw [h1] at hl
      cases h2 : isDg c.toNat
      · rw [h2] at hd
        cases h3 : ((c.toNat : Int) == 95)
        · have hw : wordB c = false := by simp only [wordB, h1, h2, h3, Bool.or_self]
          rw [hw] at hst
          ((refine ggb2 (F := _∧_∧_∧_) ⟨@Int.ofNat_lt, hlt, hb, h3⟩ hl hd ?_))
          rw [if_neg (by decide)] at hst
          ((repeat refine AW_seq ?_); (refine wta ?_); simp (disch := omega) only [retQ, resD, oneD, rsv, rs, rsL, rsL_eq_map, List.map_map, bb, bt, zDs, zD, eqCells, simprocAttr, Try.results155])
          rw [hi, hst]; simp
        · have hw : wordB c = true := by simp only [wordB, h1, h2, h3, Bool.or_true]
          rw [hw, if_pos rfl] at hst
          ((refine ggb2 (F := _∧_∧_∧_) ⟨@Int.ofNat_lt, hlt, hb, h3⟩ hl hd ?_))
          ((repeat refine AW_seq ?_))
          refine AW_block ?_
          ((refine gga0 ?_))
          refine ⟨k + 1, ⟨hlt, by omega⟩, by omega, ?_⟩
          (simp (disch := omega) only [StLe, tmLe, hpLe_refl, hpLe, bl, bb, bt, zDs, zD, eqCells, simprocAttr])
      · rw [h2] at hd
        have hw : wordB c = true := by simp only [wordB, h1, h2, Bool.or_true, Bool.true_or]
        rw [hw, if_pos rfl] at hst
        ((refine ggb2 (F := _∧_∧_) ⟨@Int.ofNat_lt, hlt, hb⟩ hl hd ?_))
        ((repeat refine AW_seq ?_))
        refine AW_block ?_
        ((refine gga0 ?_))
        refine ⟨k + 1, ⟨hlt, by omega⟩, by omega, ?_⟩
        (simp (disch := omega) only [StLe, tmLe, hpLe_refl, hpLe, bl, bb, bt, zDs, zD, eqCells, simprocAttr])
    · rw [h1] at hl
      have hw : wordB c = true := by simp only [wordB, h1, Bool.true_or]
      rw [hw, if_pos rfl] at hst
      ((refine ggb1 (F := _∧_∧_) ⟨@Int.ofNat_lt, hlt, hb⟩ hl ?_))
      ((repeat refine AW_seq ?_))
      refine AW_block ?_
      ((refine gga0 ?_))
      refine ⟨k + 1, ⟨hlt, by omega⟩, by omega, ?_⟩
      (simp (disch := omega) only [StLe, tmLe, hpLe_refl, hpLe, bl, bb, bt, zDs, zD, eqCells, simprocAttr])
  · have hke : k = s.size := by omega
    subst hke
    rw [List.drop_eq_nil_of_le (by rw [bytes_len]; exact Nat.le_refl _)] at hi
    ((refine ggb0 @Int.lt_irrefl ?_))
    ((repeat refine AW_seq ?_); (refine wta ?_); simp (disch := omega) only [retQ, resD, oneD, rsv, rs, rsL, rsL_eq_map, List.map_map, bb, bt, zDs, zD, eqCells, simprocAttr, Try.results155])
    rw [hi]; simp [wordN]
theorem word_dec (s : ByteArray) (hs : s.size ≤ 1000000) : PRet Try.prog 162 [str s] (int (wordN (bytes s))) := by
  refine PRet.intro 1 fun t => ACall.enter tab_ok Try.func162 rfl rfl Try.ntmps162 (by simp) ?_
  simp only [enterTM]
  ((refine gga0 ?_))
  ((repeat refine AW_seq ?_))
  refine AW_block ?_
  refine AW_loop_w (fun k : Nat => ⟨[(0, str s), (3, int k)], [], t⟩) (fun k => s.size - k) (fun k => k ≤ s.size ∧ wordN (bytes s) = k + wordN ((bytes s).drop k)) 0 ⟨Nat.zero_le _, by simp⟩ (by (simp (disch := omega) only [StLe, tmLe, hpLe_refl, hpLe, bl, bb, bt, zDs, zD, eqCells, simprocAttr])) fun k ⟨hk, hi⟩ => ?_
  by_cases hlt : k < s.size
  · obtain ⟨c, hc⟩ : ∃ c, (bytes s)[k]? = some c := ⟨_, List.getElem?_eq_getElem hlt⟩
    have hb := bytes_get s k
    rw [hc] at hb
    have hst := wordN_step hc hi
    have hl := letter_dec c.toNat
    have hd := digit_dec c.toNat
    cases h1 : isL c.toNat
    · rw [h1] at hl
      cases h2 : isDg c.toNat
      · rw [h2] at hd
        cases h3 : ((c.toNat : Int) == 95)
        · have hw : wordB c = false := by simp only [wordB, h1, h2, h3, Bool.or_self]
          rw [hw] at hst
          ((refine ggb2 (F := _∧_∧_∧_) ⟨@Int.ofNat_lt, hlt, hb, h3⟩ hl hd ?_))
          rw [if_neg (by decide)] at hst
          ((repeat refine AW_seq ?_); (refine wta ?_); simp (disch := omega) only [retQ, resD, oneD, rsv, rs, rsL, rsL_eq_map, List.map_map, bb, bt, zDs, zD, eqCells, simprocAttr, Try.results162])
          rw [hi, hst]; simp
        · have hw : wordB c = true := by simp only [wordB, h1, h2, h3, Bool.or_true]
          rw [hw, if_pos rfl] at hst
          ((refine ggb2 (F := _∧_∧_∧_) ⟨@Int.ofNat_lt, hlt, hb, h3⟩ hl hd ?_))
          ((repeat refine AW_seq ?_))
          refine AW_block ?_
          ((refine gga0 ?_))
          refine ⟨k + 1, ⟨hlt, by omega⟩, by omega, ?_⟩
          (simp (disch := omega) only [StLe, tmLe, hpLe_refl, hpLe, bl, bb, bt, zDs, zD, eqCells, simprocAttr])
      · rw [h2] at hd
        have hw : wordB c = true := by simp only [wordB, h1, h2, Bool.or_true, Bool.true_or]
        rw [hw, if_pos rfl] at hst
        ((refine ggb2 (F := _∧_∧_) ⟨@Int.ofNat_lt, hlt, hb⟩ hl hd ?_))
        ((repeat refine AW_seq ?_))
        refine AW_block ?_
        ((refine gga0 ?_))
        refine ⟨k + 1, ⟨hlt, by omega⟩, by omega, ?_⟩
        (simp (disch := omega) only [StLe, tmLe, hpLe_refl, hpLe, bl, bb, bt, zDs, zD, eqCells, simprocAttr])
    · rw [h1] at hl
      have hw : wordB c = true := by simp only [wordB, h1, Bool.true_or]
      rw [hw, if_pos rfl] at hst
      ((refine ggb1 (F := _∧_∧_) ⟨@Int.ofNat_lt, hlt, hb⟩ hl ?_))
      ((repeat refine AW_seq ?_))
      refine AW_block ?_
      ((refine gga0 ?_))
      refine ⟨k + 1, ⟨hlt, by omega⟩, by omega, ?_⟩
      (simp (disch := omega) only [StLe, tmLe, hpLe_refl, hpLe, bl, bb, bt, zDs, zD, eqCells, simprocAttr])
  · have hke : k = s.size := by omega
    subst hke
    rw [List.drop_eq_nil_of_le (by rw [bytes_len]; exact Nat.le_refl _)] at hi
    ((refine ggb0 @Int.lt_irrefl ?_))
    ((repeat refine AW_seq ?_); (refine wta ?_); simp (disch := omega) only [retQ, resD, oneD, rsv, rs, rsL, rsL_eq_map, List.map_map, bb, bt, zDs, zD, eqCells, simprocAttr, Try.results162])
    rw [hi]; simp [wordN]
theorem isName_ref (s : ByteArray) (hs : s.size ≤ 1000000) : PRet Try.prog 99 [str s] (bool (isNm s)) := by
  refine PRet.intro 1 fun t => ACall.enter tab_ok Try.func99 rfl rfl Try.ntmps99 (by simp) ?_
  simp only [enterTM]
  have he := empty_size s
  have hw := word_ref s hs
  by_cases h0 : s.size = 0
  · have hn : isNm s = false := by simp [isNm, h0]
    have hE : s = ⟨#[]⟩ := by rw [decide_eq_decide] at he; exact he.2 h0
    have h0' : ((s.size : Int) == 0) = true := by simp [h0]
    rw [hn]
    ((refine ggb0 (F := _∧_) ⟨h0', hE⟩ ?_))
    ((repeat refine AW_seq ?_); (refine wta ?_); simp (disch := omega) only [retQ, resD, oneD, rsv, rs, rsL, rsL_eq_map, List.map_map, bb, bt, zDs, zD, eqCells, simprocAttr, Try.results99])
  have hE : ¬ s = ⟨#[]⟩ := fun h => h0 (by rw [h]; rfl)
  have h0' : ((s.size : Int) == 0) = false := by rw [beq_eq_false_iff_ne]; omega
  by_cases h20 : s.size ≤ 20
  rotate_left 1
  · have hn : isNm s = false := by simp [isNm, h20]
    have h1 : ¬ (s.size : Int) ≤ 20 := by omega
    have h2 : (20 : Int) < s.size := by omega
    rw [hn]
    ((refine ggb0 (F := _∧_∧_∧_) ⟨h0', hE, h1, h2⟩ ?_))
    ((repeat refine AW_seq ?_); (refine wta ?_); simp (disch := omega) only [retQ, resD, oneD, rsv, rs, rsL, rsL_eq_map, List.map_map, bb, bt, zDs, zD, eqCells, simprocAttr, Try.results99])
  have h1 : (s.size : Int) ≤ 20 := by omega
  have h2 : ¬ (20 : Int) < s.size := by omega
  obtain ⟨c, hc⟩ : ∃ c, (bytes s)[0]? = some c := ⟨_, List.getElem?_eq_getElem (show 0 < (bytes s).length by rw [bytes_len]; omega)⟩
  have hb := bytes_get s 0
  rw [hc] at hb
  have hl := letter_ref c.toNat
  obtain ⟨r, hbs⟩ : ∃ r, bytes s = c :: r := by
    cases hx : bytes s with
    | nil => rw [hx] at hc; simp at hc
    | cons a r => rw [hx] at hc; simp at hc; subst hc; exact ⟨r, rfl⟩
  have hn : isNm s = (isL c.toNat && decide (wordN (bytes s) = s.size)) := by
    simp only [isNm, h0, h20, ne_eq, not_false_eq_true, decide_true, Bool.true_and]
    rw [hbs]
  have ew : ((wordN (bytes s) : Int) == (s.size : Int)) = decide (wordN (bytes s) = s.size) := by
    rw [Bool.eq_iff_iff]; simp; omega
  rw [hn]
  cases hL : isL c.toNat
  · rw [hL] at hl
    ((refine ggb1 (F := _∧_∧_∧_∧_) ⟨h0', hE, h1, h2, hb⟩ hl ?_))
    ((repeat refine AW_seq ?_); (refine wta ?_); simp (disch := omega) only [retQ, resD, oneD, rsv, rs, rsL, rsL_eq_map, List.map_map, bb, bt, zDs, zD, eqCells, simprocAttr, Try.results99])
  · rw [hL] at hl
    ((refine ggb2 (F := _∧_∧_∧_∧_∧_) ⟨h0', hE, h1, h2, hb, ew⟩ hl hw ?_))
    ((repeat refine AW_seq ?_); (refine wta ?_); simp (disch := omega) only [retQ, resD, oneD, rsv, rs, rsL, rsL_eq_map, List.map_map, bb, bt, zDs, zD, eqCells, simprocAttr, Try.results99])
theorem isName_dec (s : ByteArray) (hs : s.size ≤ 1000000) : PRet Try.prog 110 [str s] (bool (isNm s)) := by
  refine PRet.intro 1 fun t => ACall.enter tab_ok Try.func110 rfl rfl Try.ntmps110 (by simp) ?_
  simp only [enterTM]
  have he := empty_size s
  have hw := word_dec s hs
  by_cases h0 : s.size = 0
  · have hn : isNm s = false := by simp [isNm, h0]
    have hE : s = ⟨#[]⟩ := by rw [decide_eq_decide] at he; exact he.2 h0
    have h0' : ((s.size : Int) == 0) = true := by simp [h0]
    rw [hn]
    ((refine ggb0 (F := _∧_) ⟨h0', hE⟩ ?_))
    ((repeat refine AW_seq ?_); (refine wta ?_); simp (disch := omega) only [retQ, resD, oneD, rsv, rs, rsL, rsL_eq_map, List.map_map, bb, bt, zDs, zD, eqCells, simprocAttr, Try.results110])
  have hE : ¬ s = ⟨#[]⟩ := fun h => h0 (by rw [h]; rfl)
  have h0' : ((s.size : Int) == 0) = false := by rw [beq_eq_false_iff_ne]; omega
  by_cases h20 : s.size ≤ 20
  rotate_left 1
  · have hn : isNm s = false := by simp [isNm, h20]
    have h1 : ¬ (s.size : Int) ≤ 20 := by omega
    have h2 : (20 : Int) < s.size := by omega
    rw [hn]
    ((refine ggb0 (F := _∧_∧_∧_) ⟨h0', hE, h1, h2⟩ ?_))
    ((repeat refine AW_seq ?_); (refine wta ?_); simp (disch := omega) only [retQ, resD, oneD, rsv, rs, rsL, rsL_eq_map, List.map_map, bb, bt, zDs, zD, eqCells, simprocAttr, Try.results110])
  have h1 : (s.size : Int) ≤ 20 := by omega
  have h2 : ¬ (20 : Int) < s.size := by omega
  obtain ⟨c, hc⟩ : ∃ c, (bytes s)[0]? = some c := ⟨_, List.getElem?_eq_getElem (show 0 < (bytes s).length by rw [bytes_len]; omega)⟩
  have hb := bytes_get s 0
  rw [hc] at hb
  have hl := letter_dec c.toNat
  obtain ⟨r, hbs⟩ : ∃ r, bytes s = c :: r := by
    cases hx : bytes s with
    | nil => rw [hx] at hc; simp at hc
    | cons a r => rw [hx] at hc; simp at hc; subst hc; exact ⟨r, rfl⟩
  have hn : isNm s = (isL c.toNat && decide (wordN (bytes s) = s.size)) := by
    simp only [isNm, h0, h20, ne_eq, not_false_eq_true, decide_true, Bool.true_and]
    rw [hbs]
  have ew : ((wordN (bytes s) : Int) == (s.size : Int)) = decide (wordN (bytes s) = s.size) := by
    rw [Bool.eq_iff_iff]; simp; omega
  rw [hn]
  cases hL : isL c.toNat
  · rw [hL] at hl
    ((refine ggb1 (F := _∧_∧_∧_∧_) ⟨h0', hE, h1, h2, hb⟩ hl ?_))
    ((repeat refine AW_seq ?_); (refine wta ?_); simp (disch := omega) only [retQ, resD, oneD, rsv, rs, rsL, rsL_eq_map, List.map_map, bb, bt, zDs, zD, eqCells, simprocAttr, Try.results110])
  · rw [hL] at hl
    ((refine ggb2 (F := _∧_∧_∧_∧_∧_) ⟨h0', hE, h1, h2, hb, ew⟩ hl hw ?_))
    ((repeat refine AW_seq ?_); (refine wta ?_); simp (disch := omega) only [retQ, resD, oneD, rsv, rs, rsL, rsL_eq_map, List.map_map, bb, bt, zDs, zD, eqCells, simprocAttr, Try.results110])
theorem indexFuncBk (l : List Bk) (g : FuncId) (caps : List D) (p : Bk → Bool) (hl : l.length ≤ 1000000) (hp : ∀ x ∈ l, PRet Try.prog g ((D.agg (bk1 x) :: caps).map ufa) (bool (p x))) : PRet Try.prog 165 [bks l, .fn g caps] (int (idx p l 0)) := by
  refine PRet.intro 1 fun t => ACall.enter tab_ok Try.func165 rfl rfl Try.ntmps165 (by simp) ?_
  simp only [enterTM]
  have hla := bkC_len l
  have ha2 := bkC_div l
  ((refine ggb0 ha2 ?_))
  ((repeat refine AW_seq ?_))
  refine AW_block ?_
  refine AW_loop_w (fun k : Nat => ⟨[(0, bks l), (1, .fn g caps), (7, int l.length), (8, int k)], [], t⟩) (fun k => l.length - k) (fun k => k ≤ l.length ∧ idx p l 0 = idx p (l.drop k) k) 0 ⟨Nat.zero_le _, rfl⟩ (by (simp (disch := omega) only [StLe, tmLe, hpLe_refl, hpLe, bl, bb, bt, zDs, zD, eqCells, simprocAttr])) fun k ⟨hk, hi⟩ => ?_
  by_cases hlt : k < l.length
  · obtain ⟨x, hx⟩ : ∃ x, l[k]? = some x := ⟨_, List.getElem?_eq_getElem hlt⟩
    have hm := List.mem_of_getElem? hx
    have hd : l.drop k = x :: l.drop (k + 1) := by
      obtain ⟨h1, h2⟩ := List.getElem?_eq_some_iff.1 hx
      rw [List.drop_eq_getElem_cons h1, h2]
    rw [hd] at hi
    have hra := bkC_read l k x hx
    have hc := hp x hm
    ((refine ggb0 (F := _∧_) ⟨@Int.ofNat_lt, hlt⟩ ?_))
    ((repeat refine AW_seq ?_))
    refine AW_block ?_
    cases hpx : p x
    · rw [hpx] at hc
      ((refine ggb0 (F := _∧_∧_) ⟨ha2, hlt, hra⟩ ?_))
      ((refine wka1 hc ?_))
      ((refine gga0 ?_))
      refine ⟨k + 1, ⟨hlt, by rw [hi]; simp [idx, hpx]⟩, by omega, ?_⟩
      (simp (disch := omega) only [StLe, tmLe, hpLe_refl, hpLe, bl, bb, bt, zDs, zD, eqCells, simprocAttr])
    · rw [hpx] at hc
      ((refine ggb0 (F := _∧_∧_) ⟨ha2, hlt, hra⟩ ?_))
      ((refine wka1 hc ?_))
      ((refine gga0 ?_))
      ((repeat refine AW_seq ?_); (refine wta ?_); simp (disch := omega) only [retQ, resD, oneD, rsv, rs, rsL, rsL_eq_map, List.map_map, bb, bt, zDs, zD, eqCells, simprocAttr, Try.results165, hi, idx, hpx])
  · ((refine ggb0 (F := _∧_) ⟨@Int.ofNat_lt, hlt⟩ ?_))
    ((repeat refine AW_seq ?_); (refine wta ?_); simp (disch := omega) only [retQ, resD, oneD, rsv, rs, rsL, rsL_eq_map, List.map_map, bb, bt, zDs, zD, eqCells, simprocAttr, Try.results165, hi])
    rw [List.drop_eq_nil_of_le (by omega)]; rfl
theorem indexFuncRp (l : List Rp) (g : FuncId) (caps : List D) (p : Rp → Bool) (hl : l.length ≤ 1000000) (hp : ∀ x ∈ l, PRet Try.prog g ((D.agg (rp1 x) :: caps).map ufa) (bool (p x))) : PRet Try.prog 118 [rps l, .fn g caps] (int (idx p l 0)) := by
  refine PRet.intro 1 fun t => ACall.enter tab_ok Try.func118 rfl rfl Try.ntmps118 (by simp) ?_
  simp only [enterTM]
  have hla := rpC_len l
  have ha2 := rpC_div l
  ((refine ggb0 ha2 ?_))
  ((repeat refine AW_seq ?_))
  refine AW_block ?_
  refine AW_loop_w (fun k : Nat => ⟨[(0, rps l), (1, .fn g caps), (7, int l.length), (8, int k)], [], t⟩) (fun k => l.length - k) (fun k => k ≤ l.length ∧ idx p l 0 = idx p (l.drop k) k) 0 ⟨Nat.zero_le _, rfl⟩ (by (simp (disch := omega) only [StLe, tmLe, hpLe_refl, hpLe, bl, bb, bt, zDs, zD, eqCells, simprocAttr])) fun k ⟨hk, hi⟩ => ?_
  by_cases hlt : k < l.length
  · obtain ⟨x, hx⟩ : ∃ x, l[k]? = some x := ⟨_, List.getElem?_eq_getElem hlt⟩
    have hm := List.mem_of_getElem? hx
    have hd : l.drop k = x :: l.drop (k + 1) := by
      obtain ⟨h1, h2⟩ := List.getElem?_eq_some_iff.1 hx
      rw [List.drop_eq_getElem_cons h1, h2]
    rw [hd] at hi
    have hra := rpC_read l k x hx
    have hc := hp x hm
    ((refine ggb0 (F := _∧_) ⟨@Int.ofNat_lt, hlt⟩ ?_))
    ((repeat refine AW_seq ?_))
    refine AW_block ?_
    cases hpx : p x
    · rw [hpx] at hc
      ((refine ggb0 (F := _∧_∧_) ⟨ha2, hlt, hra⟩ ?_))
      ((refine wka1 hc ?_))
      ((refine gga0 ?_))
      refine ⟨k + 1, ⟨hlt, by rw [hi]; simp [idx, hpx]⟩, by omega, ?_⟩
      (simp (disch := omega) only [StLe, tmLe, hpLe_refl, hpLe, bl, bb, bt, zDs, zD, eqCells, simprocAttr])
    · rw [hpx] at hc
      ((refine ggb0 (F := _∧_∧_) ⟨ha2, hlt, hra⟩ ?_))
      ((refine wka1 hc ?_))
      ((refine gga0 ?_))
      ((repeat refine AW_seq ?_); (refine wta ?_); simp (disch := omega) only [retQ, resD, oneD, rsv, rs, rsL, rsL_eq_map, List.map_map, bb, bt, zDs, zD, eqCells, simprocAttr, Try.results118, hi, idx, hpx])
  · ((refine ggb0 (F := _∧_) ⟨@Int.ofNat_lt, hlt⟩ ?_))
    ((repeat refine AW_seq ?_); (refine wta ?_); simp (disch := omega) only [retQ, resD, oneD, rsv, rs, rsL, rsL_eq_map, List.map_map, bb, bt, zDs, zD, eqCells, simprocAttr, Try.results118, hi])
    rw [List.drop_eq_nil_of_le (by omega)]; rfl
theorem indexFuncHd (l : List Hd) (g : FuncId) (caps : List D) (p : Hd → Bool) (hl : l.length ≤ 1000000) (hp : ∀ x ∈ l, PRet Try.prog g ((D.agg (hd1 x) :: caps).map ufa) (bool (p x))) : PRet Try.prog 205 [hds l, .fn g caps] (int (idx p l 0)) := by
  refine PRet.intro 1 fun t => ACall.enter tab_ok Try.func205 rfl rfl Try.ntmps205 (by simp) ?_
  simp only [enterTM]
  have hla := hdC_len l
  have ha2 := hdC_div l
  ((refine ggb0 ha2 ?_))
  ((repeat refine AW_seq ?_))
  refine AW_block ?_
  refine AW_loop_w (fun k : Nat => ⟨[(0, hds l), (1, .fn g caps), (7, int l.length), (8, int k)], [], t⟩) (fun k => l.length - k) (fun k => k ≤ l.length ∧ idx p l 0 = idx p (l.drop k) k) 0 ⟨Nat.zero_le _, rfl⟩ (by (simp (disch := omega) only [StLe, tmLe, hpLe_refl, hpLe, bl, bb, bt, zDs, zD, eqCells, simprocAttr])) fun k ⟨hk, hi⟩ => ?_
  by_cases hlt : k < l.length
  · obtain ⟨x, hx⟩ : ∃ x, l[k]? = some x := ⟨_, List.getElem?_eq_getElem hlt⟩
    have hm := List.mem_of_getElem? hx
    have hd : l.drop k = x :: l.drop (k + 1) := by
      obtain ⟨h1, h2⟩ := List.getElem?_eq_some_iff.1 hx
      rw [List.drop_eq_getElem_cons h1, h2]
    rw [hd] at hi
    have hra := hdC_read l k x hx
    have hc := hp x hm
    ((refine ggb0 (F := _∧_) ⟨@Int.ofNat_lt, hlt⟩ ?_))
    ((repeat refine AW_seq ?_))
    refine AW_block ?_
    cases hpx : p x
    · rw [hpx] at hc
      ((refine ggb0 (F := _∧_∧_) ⟨ha2, hlt, hra⟩ ?_))
      ((refine wka1 hc ?_))
      ((refine gga0 ?_))
      refine ⟨k + 1, ⟨hlt, by rw [hi]; simp [idx, hpx]⟩, by omega, ?_⟩
      (simp (disch := omega) only [StLe, tmLe, hpLe_refl, hpLe, bl, bb, bt, zDs, zD, eqCells, simprocAttr])
    · rw [hpx] at hc
      ((refine ggb0 (F := _∧_∧_) ⟨ha2, hlt, hra⟩ ?_))
      ((refine wka1 hc ?_))
      ((refine gga0 ?_))
      ((repeat refine AW_seq ?_); (refine wta ?_); simp (disch := omega) only [retQ, resD, oneD, rsv, rs, rsL, rsL_eq_map, List.map_map, bb, bt, zDs, zD, eqCells, simprocAttr, Try.results205, hi, idx, hpx])
  · ((refine ggb0 (F := _∧_) ⟨@Int.ofNat_lt, hlt⟩ ?_))
    ((repeat refine AW_seq ?_); (refine wta ?_); simp (disch := omega) only [retQ, resD, oneD, rsv, rs, rsL, rsL_eq_map, List.map_map, bb, bt, zDs, zD, eqCells, simprocAttr, Try.results205, hi])
    rw [List.drop_eq_nil_of_le (by omega)]; rfl
theorem find1 (b : Bk) (nm : ByteArray) : PRet Try.prog 175 [.agg (bk1 b), .rp [str nm] 0] (bool (decide (b.nm = nm))) := by
  refine PRet.intro 1 fun t => ACall.enter tab_ok Try.func175 rfl rfl Try.ntmps175 (by simp) ?_
  simp only [enterTM]
  ((refine gga0 ?_))
  ((repeat refine AW_seq ?_); (refine wta ?_); simp (disch := omega) only [retQ, resD, oneD, rsv, rs, rsL, rsL_eq_map, List.map_map, bb, bt, zDs, zD, eqCells, simprocAttr, Try.results175])
theorem find_ (s : Sy) (nm : ByteArray) (hl : s.bs.length ≤ 1000000) : PRet Try.prog 141 [syD s, str nm] (int (findB s.bs nm)) := by
  refine PRet.intro 1 fun t => ACall.enter tab_ok Try.func141 rfl rfl Try.ntmps141 (by simp) ?_
  simp only [enterTM]
  ((refine wqa ?_))
  ((refine AW.freeze (1) (by first | rfl | (simp only [setH, List.getElem?_cons_zero, List.getElem?_cons_succ, fz_bk, fz_rp]; done)) ?_); simp (disch := omega) only [fzT, fz, fzL, fzL_ints, fzL_mat, fzH, fzB, eq_self, bb, bt, zDs, zD, eqCells, simprocAttr, fz_bk, fz_rp])
  have hI := indexFuncBk s.bs 175 [.rp [str nm] 0] (fun b => decide (b.nm = nm)) hl (fun x _ => find1 x nm)
  ((refine gga1 hI ?_))
  ((repeat refine AW_seq ?_); (refine wta ?_); simp (disch := omega) only [retQ, resD, oneD, rsv, rs, rsL, rsL_eq_map, List.map_map, bb, bt, zDs, zD, eqCells, simprocAttr, Try.results141, findB])
theorem refFindBlock (s : Sy) (nm : ByteArray) (hl : s.bs.length ≤ 1000000) : PRet Try.prog 100 [syD s, str nm] (int (findB s.bs nm)) := by
  refine PRet.intro 1 fun t => ACall.enter tab_ok Try.func100 rfl rfl Try.ntmps100 (by simp) ?_
  simp only [enterTM]
  have hla := bkC_len s.bs
  have ha2 := bkC_div s.bs
  ((refine gga0 ?_))
  ((repeat refine AW_seq ?_))
  refine AW_block ?_
  refine AW_loop_w (fun k : Nat => ⟨[(1, str nm), (2, .ptr 0 (t + 1) 0), (5, int k)], [some ⟨49, t + 1, [bks s.bs, rps s.rs]⟩], t + 1⟩) (fun k => s.bs.length - k) (fun k => k ≤ s.bs.length ∧ findB s.bs nm = idx (fun x => decide (x.nm = nm)) (s.bs.drop k) k) 0 ⟨Nat.zero_le _, rfl⟩ (by (simp (disch := omega) only [StLe, tmLe, hpLe_refl, hpLe, bl, bb, bt, zDs, zD, eqCells, simprocAttr])) fun k ⟨hk, hi⟩ => ?_
  by_cases hlt : k < s.bs.length
  · obtain ⟨x, hx⟩ : ∃ x, s.bs[k]? = some x := ⟨_, List.getElem?_eq_getElem hlt⟩
    have hd : s.bs.drop k = x :: s.bs.drop (k + 1) := by
      obtain ⟨h1, h2⟩ := List.getElem?_eq_some_iff.1 hx
      rw [List.drop_eq_getElem_cons h1, h2]
    rw [hd] at hi
    have hra := bkC_name s.bs k x hx
    ((refine ggb0 (F := _∧_∧_) ⟨@Int.ofNat_lt, hlt, ha2⟩ ?_))
    ((repeat refine AW_seq ?_))
    refine AW_block ?_
    by_cases hpx : x.nm = nm
    · ((refine ggb0 (F := _∧_∧_∧_) ⟨ha2, hlt, hra, hpx⟩ ?_))
      ((repeat refine AW_seq ?_); (refine wta ?_); simp (disch := omega) only [retQ, resD, oneD, rsv, rs, rsL, rsL_eq_map, List.map_map, bb, bt, zDs, zD, eqCells, simprocAttr, Try.results100, hi, idx, hpx, decide_true])
    · ((refine ggb0 (F := _∧_∧_∧_) ⟨ha2, hlt, hra, hpx⟩ ?_))
      refine ⟨k + 1, ⟨hlt, by rw [hi]; simp [idx, hpx]⟩, by omega, ?_⟩
      (simp (disch := omega) only [StLe, tmLe, hpLe_refl, hpLe, bl, bb, bt, zDs, zD, eqCells, simprocAttr])
  · ((refine ggb0 (F := _∧_∧_) ⟨@Int.ofNat_lt, hlt, ha2⟩ ?_))
    ((repeat refine AW_seq ?_); (refine wta ?_); simp (disch := omega) only [retQ, resD, oneD, rsv, rs, rsL, rsL_eq_map, List.map_map, bb, bt, zDs, zD, eqCells, simprocAttr, Try.results100, hi])
    rw [List.drop_eq_nil_of_le (by omega)]; rfl
theorem refFindRope (s : Sy) (nm : ByteArray) (hl : s.rs.length ≤ 1000000) : PRet Try.prog 101 [syD s, str nm] (int (findR s.rs nm)) := by
  refine PRet.intro 1 fun t => ACall.enter tab_ok Try.func101 rfl rfl Try.ntmps101 (by simp) ?_
  simp only [enterTM]
  have hla := rpC_len s.rs
  have ha2 := rpC_div s.rs
  ((refine gga0 ?_))
  ((repeat refine AW_seq ?_))
  refine AW_block ?_
  refine AW_loop_w (fun k : Nat => ⟨[(1, str nm), (2, .ptr 0 (t + 1) 0), (5, int k)], [some ⟨49, t + 1, [bks s.bs, rps s.rs]⟩], t + 1⟩) (fun k => s.rs.length - k) (fun k => k ≤ s.rs.length ∧ findR s.rs nm = idx (fun x => decide (x.nm = nm)) (s.rs.drop k) k) 0 ⟨Nat.zero_le _, rfl⟩ (by (simp (disch := omega) only [StLe, tmLe, hpLe_refl, hpLe, bl, bb, bt, zDs, zD, eqCells, simprocAttr])) fun k ⟨hk, hi⟩ => ?_
  by_cases hlt : k < s.rs.length
  · obtain ⟨x, hx⟩ : ∃ x, s.rs[k]? = some x := ⟨_, List.getElem?_eq_getElem hlt⟩
    have hd : s.rs.drop k = x :: s.rs.drop (k + 1) := by
      obtain ⟨h1, h2⟩ := List.getElem?_eq_some_iff.1 hx
      rw [List.drop_eq_getElem_cons h1, h2]
    rw [hd] at hi
    have hra := rpC_name s.rs k x hx
    ((refine ggb0 (F := _∧_∧_) ⟨@Int.ofNat_lt, hlt, ha2⟩ ?_))
    ((repeat refine AW_seq ?_))
    refine AW_block ?_
    by_cases hpx : x.nm = nm
    · ((refine ggb0 (F := _∧_∧_∧_) ⟨ha2, hlt, hra, hpx⟩ ?_))
      ((repeat refine AW_seq ?_); (refine wta ?_); simp (disch := omega) only [retQ, resD, oneD, rsv, rs, rsL, rsL_eq_map, List.map_map, bb, bt, zDs, zD, eqCells, simprocAttr, Try.results101, hi, idx, hpx, decide_true])
    · ((refine ggb0 (F := _∧_∧_∧_) ⟨ha2, hlt, hra, hpx⟩ ?_))
      refine ⟨k + 1, ⟨hlt, by rw [hi]; simp [idx, hpx]⟩, by omega, ?_⟩
      (simp (disch := omega) only [StLe, tmLe, hpLe_refl, hpLe, bl, bb, bt, zDs, zD, eqCells, simprocAttr])
  · ((refine ggb0 (F := _∧_∧_) ⟨@Int.ofNat_lt, hlt, ha2⟩ ?_))
    ((repeat refine AW_seq ?_); (refine wta ?_); simp (disch := omega) only [retQ, resD, oneD, rsv, rs, rsL, rsL_eq_map, List.map_map, bb, bt, zDs, zD, eqCells, simprocAttr, Try.results101, hi])
    rw [List.drop_eq_nil_of_le (by omega)]; rfl
end Go.Proofs.Ytjjpjgnoanfaoaa.T
end

section
namespace Go.Proofs.Ytjjpjgnoanfaoaa.T
open Go Go.RowKit Lin
set_option linter.unusedSimpArgs false

/-! Holds and ropes: the walks. -/
theorem within_ (n lo hi : Int) : PRet Try.prog 108 [int n, int lo, int hi] (bool (decide (lo ≤ n) && decide (n ≤ hi))) := by
  refine PRet.intro 1 fun t => ACall.enter tab_ok Try.func108 rfl rfl Try.ntmps108 (by simp) ?_
  simp only [enterTM]
  by_cases h1 : lo ≤ n <;> by_cases h2 : n ≤ hi <;>
  · ((refine ggb0 (F := _∧_) ⟨h1, h2⟩ ?_))
    ((repeat refine AW_seq ?_); (refine wta ?_); simp (disch := omega) only [retQ, resD, oneD, rsv, rs, rsL, rsL_eq_map, List.map_map, bb, bt, zDs, zD, eqCells, simprocAttr, Try.results108, h1, h2])
theorem lossy_prog (n d : Int) : PRet Try.prog 187 [frD (n, d)] (bool (lossy n d)) := by
  refine PRet.intro 1 fun t => ACall.enter tab_ok Try.func187 rfl rfl Try.ntmps187 (by simp) ?_
  simp only [enterTM]
  have hc := rValid n d
  cases hv : vfrac n d
  · rw [hv] at hc
    ((refine gga1 hc ?_))
    ((repeat refine AW_seq ?_); (refine wta ?_); simp (disch := omega) only [retQ, resD, oneD, rsv, rs, rsL, rsL_eq_map, List.map_map, bb, bt, zDs, zD, eqCells, simprocAttr, Try.results187, lossy, hv])
  · rw [hv] at hc
    by_cases h1 : d ≤ n <;> by_cases h2 : n ≤ 100 <;>
    · ((refine ggb1 (F := _∧_) ⟨h1, h2⟩ hc ?_))
      ((repeat refine AW_seq ?_); (refine wta ?_); simp (disch := omega) only [retQ, resD, oneD, rsv, rs, rsL, rsL_eq_map, List.map_map, bb, bt, zDs, zD, eqCells, simprocAttr, Try.results187, lossy, hv, h1, h2])
theorem lossy_ref (n d : Int) : PRet Try.prog 134 [frD (n, d)] (bool (lossy n d)) := by
  refine PRet.intro 1 fun t => ACall.enter tab_ok Try.func134 rfl rfl Try.ntmps134 (by simp) ?_
  simp only [enterTM]
  have hc := refFValid n d
  cases hv : vfrac n d
  · rw [hv] at hc
    ((refine gga1 hc ?_))
    ((repeat refine AW_seq ?_); (refine wta ?_); simp (disch := omega) only [retQ, resD, oneD, rsv, rs, rsL, rsL_eq_map, List.map_map, bb, bt, zDs, zD, eqCells, simprocAttr, Try.results134, lossy, hv])
  · rw [hv] at hc
    by_cases h1 : d ≤ n <;> by_cases h2 : n ≤ 100 <;>
    · ((refine ggb1 (F := _∧_) ⟨h1, h2⟩ hc ?_))
      ((repeat refine AW_seq ?_); (refine wta ?_); simp (disch := omega) only [retQ, resD, oneD, rsv, rs, rsL, rsL_eq_map, List.map_map, bb, bt, zDs, zD, eqCells, simprocAttr, Try.results134, lossy, hv, h1, h2])
set_option maxHeartbeats 2000000 in
theorem hold_prog (s : Sy) (h : Hd) (e : Bool) (hl : s.bs.length ≤ 1000000) : PRet Try.prog 163 [syD s, .agg (hd1 h), bool e] (bool (okHold s.bs h e)) := by
  refine PRet.intro 1 fun t => ACall.enter tab_ok Try.func163 rfl rfl Try.ntmps163 (by simp) ?_
  simp only [enterTM]
  have hF := find_ s h.b hl
  have hL := lossy_prog h.n h.d
  cases e
  · cases hlo : lossy h.n h.d
    · rw [hlo] at hL
      have ho : okHold s.bs h false = false := by simp [okHold, hlo]
      ((refine gga1 hL ?_))
      ((repeat refine AW_seq ?_); (refine wta ?_); simp (disch := omega) only [retQ, resD, oneD, rsv, rs, rsL, rsL_eq_map, List.map_map, bb, bt, zDs, zD, eqCells, simprocAttr, Try.results163, ho])
    rw [hlo] at hL
    by_cases hb : h.b = ⟨#[]⟩
    · have ho : okHold s.bs h false = (h.p == 0) := by simp [okHold, hlo, hb]
      ((refine ggb1 hb hL ?_))
      ((repeat refine AW_seq ?_))
      refine AW_block ?_
      ((refine ggb0 hb ?_))
      ((repeat refine AW_seq ?_); (refine wta ?_); simp (disch := omega) only [retQ, resD, oneD, rsv, rs, rsL, rsL_eq_map, List.map_map, bb, bt, zDs, zD, eqCells, simprocAttr, Try.results163, ho])
    by_cases hf : findB s.bs h.b < 0
    · have hf' : ¬ 0 ≤ findB s.bs h.b := by omega
      have ho : okHold s.bs h false = false := by simp [okHold, hb, hf']
      ((refine ggb1 hb hL ?_))
      ((repeat refine AW_seq ?_))
      refine AW_block ?_
      ((refine ggb1 (F := _∧_) ⟨hb, hf⟩ hF ?_))
      ((repeat refine AW_seq ?_); (refine wta ?_); simp (disch := omega) only [retQ, resD, oneD, rsv, rs, rsL, rsL_eq_map, List.map_map, bb, bt, zDs, zD, eqCells, simprocAttr, Try.results163, ho])
    have hf' : 0 ≤ findB s.bs h.b := by omega
    have ho : okHold s.bs h false = (h.p == 2 || h.p == 0 || h.p == -2) := by simp [okHold, hb, hf', hlo]
    ((refine ggb1 hb hL ?_))
    ((repeat refine AW_seq ?_))
    refine AW_block ?_
    ((refine ggb1 (F := _∧_) ⟨hb, hf⟩ hF ?_))
    cases h1 : (h.p == 2) <;> cases h2 : (h.p == 0) <;>
    · ((refine ggb0 (F := _∧_) ⟨h1, h2⟩ ?_))
      ((repeat refine AW_seq ?_); (refine wta ?_); simp (disch := omega) only [retQ, resD, oneD, rsv, rs, rsL, rsL_eq_map, List.map_map, bb, bt, zDs, zD, eqCells, simprocAttr, Try.results163, ho, h1, h2, Bool.or_self, Bool.or_false, Bool.false_or, Bool.true_or, Bool.or_true])
  · cases hn : (h.n == 1) <;> cases hd : (h.d == 1)
    rotate_left 3
    · by_cases hb : h.b = ⟨#[]⟩
      · have ho : okHold s.bs h true = (h.p == 0) := by simp [okHold, hn, hd, hb]
        ((refine ggb0 (F := _∧_) ⟨hn, hd⟩ ?_))
        ((repeat refine AW_seq ?_))
        refine AW_block ?_
        ((refine ggb0 hb ?_))
        ((repeat refine AW_seq ?_); (refine wta ?_); simp (disch := omega) only [retQ, resD, oneD, rsv, rs, rsL, rsL_eq_map, List.map_map, bb, bt, zDs, zD, eqCells, simprocAttr, Try.results163, ho])
      by_cases hf : findB s.bs h.b < 0
      · have hf' : ¬ 0 ≤ findB s.bs h.b := by omega
        have ho : okHold s.bs h true = false := by simp [okHold, hb, hf']
        ((refine ggb0 (F := _∧_) ⟨hn, hd⟩ ?_))
        ((repeat refine AW_seq ?_))
        refine AW_block ?_
        ((refine ggb1 (F := _∧_) ⟨hb, hf⟩ hF ?_))
        ((repeat refine AW_seq ?_); (refine wta ?_); simp (disch := omega) only [retQ, resD, oneD, rsv, rs, rsL, rsL_eq_map, List.map_map, bb, bt, zDs, zD, eqCells, simprocAttr, Try.results163, ho])
      have hf' : 0 ≤ findB s.bs h.b := by omega
      have ho : okHold s.bs h true = (h.p == 1 || h.p == -1) := by simp [okHold, hb, hf', hn, hd]
      ((refine ggb0 (F := _∧_) ⟨hn, hd⟩ ?_))
      ((repeat refine AW_seq ?_))
      refine AW_block ?_
      ((refine ggb1 (F := _∧_) ⟨hb, hf⟩ hF ?_))
      cases h1 : (h.p == 1) <;>
      · ((refine ggb0 h1 ?_))
        ((repeat refine AW_seq ?_); (refine wta ?_); simp (disch := omega) only [retQ, resD, oneD, rsv, rs, rsL, rsL_eq_map, List.map_map, bb, bt, zDs, zD, eqCells, simprocAttr, Try.results163, ho, h1, Bool.or_self, Bool.or_false, Bool.false_or, Bool.true_or, Bool.or_true])
    all_goals
      have ho : okHold s.bs h true = false := by simp [okHold, hn, hd]
      ((refine ggb0 (F := _∧_) ⟨hn, hd⟩ ?_))
      ((repeat refine AW_seq ?_); (refine wta ?_); simp (disch := omega) only [retQ, resD, oneD, rsv, rs, rsL, rsL_eq_map, List.map_map, bb, bt, zDs, zD, eqCells, simprocAttr, Try.results163, ho])
set_option maxHeartbeats 2000000 in
theorem hold_ref (s : Sy) (h : Hd) (e : Bool) (hl : s.bs.length ≤ 1000000) : PRet Try.prog 156 [syD s, .agg (hd1 h), bool e] (bool (okHold s.bs h e)) := by
  refine PRet.intro 1 fun t => ACall.enter tab_ok Try.func156 rfl rfl Try.ntmps156 (by simp) ?_
  simp only [enterTM]
  have hF := refFindBlock s h.b hl
  have hL := lossy_ref h.n h.d
  have hO := refOf 1
  cases e
  · cases hlo : lossy h.n h.d
    · rw [hlo] at hL
      have ho : okHold s.bs h false = false := by simp [okHold, hlo]
      ((refine gga0 ?_))
      ((repeat refine AW_seq ?_); (refine gdza2 hL hO ?_))
      ((refine gga0 ?_))
      ((repeat refine AW_seq ?_); (refine wta ?_); simp (disch := omega) only [retQ, resD, oneD, rsv, rs, rsL, rsL_eq_map, List.map_map, bb, bt, zDs, zD, eqCells, simprocAttr, Try.results156, ho])
    rw [hlo] at hL
    ((refine gga0 ?_))
    ((repeat refine AW_seq ?_); (refine gdza2 hL hO ?_))
    by_cases hb : h.b = ⟨#[]⟩
    · have ho : okHold s.bs h false = (h.p == 0) := by simp [okHold, hlo, hb]
      ((refine ggb0 hb ?_))
      ((repeat refine AW_seq ?_); (refine wta ?_); simp (disch := omega) only [retQ, resD, oneD, rsv, rs, rsL, rsL_eq_map, List.map_map, bb, bt, zDs, zD, eqCells, simprocAttr, Try.results156, ho])
    by_cases hf : findB s.bs h.b < 0
    · have hf' : ¬ 0 ≤ findB s.bs h.b := by omega
      have ho : okHold s.bs h false = false := by simp [okHold, hb, hf']
      ((refine ggb1 (F := _∧_) ⟨hb, hf⟩ hF ?_))
      ((repeat refine AW_seq ?_); (refine wta ?_); simp (disch := omega) only [retQ, resD, oneD, rsv, rs, rsL, rsL_eq_map, List.map_map, bb, bt, zDs, zD, eqCells, simprocAttr, Try.results156, ho])
    have hf' : 0 ≤ findB s.bs h.b := by omega
    have ho : okHold s.bs h false = (h.p == 2 || h.p == 0 || h.p == -2) := by simp [okHold, hb, hf', hlo]
    ((refine ggb1 (F := _∧_) ⟨hb, hf⟩ hF ?_))
    cases h1 : (h.p == 2) <;> cases h2 : (h.p == 0) <;>
    · ((refine ggb0 (F := _∧_) ⟨h1, h2⟩ ?_))
      ((repeat refine AW_seq ?_); (refine wta ?_); simp (disch := omega) only [retQ, resD, oneD, rsv, rs, rsL, rsL_eq_map, List.map_map, bb, bt, zDs, zD, eqCells, simprocAttr, Try.results156, ho, h1, h2, Bool.or_self, Bool.or_false, Bool.false_or, Bool.true_or, Bool.or_true])
  · cases hn : (h.n == 1) <;> cases hd : (h.d == 1)
    rotate_left 3
    · have hlo : lossy h.n h.d = true := by
        rw [show h.n = 1 by simpa using hn, show h.d = 1 by simpa using hd]; decide
      rw [hlo] at hL
      ((refine gga0 ?_))
      ((repeat refine AW_seq ?_); (refine gdzb2 (F := _∧_) ⟨hn, hd⟩ hL hO ?_))
      by_cases hb : h.b = ⟨#[]⟩
      · have ho : okHold s.bs h true = (h.p == 0) := by simp [okHold, hn, hd, hb]
        ((refine ggb0 hb ?_))
        ((repeat refine AW_seq ?_); (refine wta ?_); simp (disch := omega) only [retQ, resD, oneD, rsv, rs, rsL, rsL_eq_map, List.map_map, bb, bt, zDs, zD, eqCells, simprocAttr, Try.results156, ho])
      by_cases hf : findB s.bs h.b < 0
      · have hf' : ¬ 0 ≤ findB s.bs h.b := by omega
        have ho : okHold s.bs h true = false := by simp [okHold, hb, hf']
        ((refine ggb1 (F := _∧_) ⟨hb, hf⟩ hF ?_))
        ((repeat refine AW_seq ?_); (refine wta ?_); simp (disch := omega) only [retQ, resD, oneD, rsv, rs, rsL, rsL_eq_map, List.map_map, bb, bt, zDs, zD, eqCells, simprocAttr, Try.results156, ho])
      have hf' : 0 ≤ findB s.bs h.b := by omega
      have ho : okHold s.bs h true = (h.p == 1 || h.p == -1) := by simp [okHold, hb, hf', hn, hd]
      ((refine ggb1 (F := _∧_) ⟨hb, hf⟩ hF ?_))
      cases h1 : (h.p == 1) <;>
      · ((refine ggb0 h1 ?_))
        ((repeat refine AW_seq ?_); (refine wta ?_); simp (disch := omega) only [retQ, resD, oneD, rsv, rs, rsL, rsL_eq_map, List.map_map, bb, bt, zDs, zD, eqCells, simprocAttr, Try.results156, ho, h1, Bool.or_self, Bool.or_false, Bool.false_or, Bool.true_or, Bool.or_true])
    all_goals
      have ho : okHold s.bs h true = false := by simp [okHold, hn, hd]
      ((refine gga0 ?_))
      ((repeat refine AW_seq ?_); (refine gdzb2 (F := _∧_) ⟨hn, hd⟩ hL hO ?_))
      ((refine gga0 ?_))
      ((repeat refine AW_seq ?_); (refine wta ?_); simp (disch := omega) only [retQ, resD, oneD, rsv, rs, rsL, rsL_eq_map, List.map_map, bb, bt, zDs, zD, eqCells, simprocAttr, Try.results156, ho])
theorem okHolds_all {bs : List Bk} {hs : List Hd} (h : ∀ j x, hs[j]? = some x → okHold bs x (endH hs.length j) = true) : okHolds bs hs = true := by
  refine upto_all fun k hk => ?_
  rw [List.getElem?_eq_getElem hk]
  exact h k _ (List.getElem?_eq_getElem hk)
theorem okHolds_not {bs : List Bk} {hs : List Hd} {j : Nat} {x : Hd} (hj : hs[j]? = some x) (h : okHold bs x (endH hs.length j) = false) : okHolds bs hs = false := by
  refine upto_not (k := j) (List.getElem?_eq_some_iff.1 hj).1 ?_
  rw [hj]; exact h
set_option maxHeartbeats 2000000 in
theorem rope_prog (s : Sy) (r : Rp) (hl : s.bs.length ≤ 1000000) (hr : r.hs.length ≤ 1000000) : PRet Try.prog 111 [syD s, .agg (rp1 r)] (bool (okRope s.bs r)) := by
  refine PRet.intro 1 fun t => ACall.enter tab_ok Try.func111 rfl rfl Try.ntmps111 (by simp) ?_
  simp only [enterTM]
  have hla := hdC_len r.hs
  have ha2 := hdC_div r.hs
  have hW := within_ r.hs.length 2 10
  by_cases hsz : 2 ≤ r.hs.length ∧ r.hs.length ≤ 10
  rotate_left 1
  · have ho : okRope s.bs r = false := by simp only [okRope, hsz, decide_false, Bool.false_and]
    have hw : (decide ((2 : Int) ≤ r.hs.length) && decide ((r.hs.length : Int) ≤ 10)) = false := by
      rw [← Bool.not_eq_true, Bool.and_eq_true, decide_eq_true_eq, decide_eq_true_eq]; omega
    rw [hw] at hW
    ((refine ggb1 ha2 hW ?_))
    ((repeat refine AW_seq ?_); (refine wta ?_); simp (disch := omega) only [retQ, resD, oneD, rsv, rs, rsL, rsL_eq_map, List.map_map, bb, bt, zDs, zD, eqCells, simprocAttr, Try.results111, ho])
  have hw : (decide ((2 : Int) ≤ r.hs.length) && decide ((r.hs.length : Int) ≤ 10)) = true := by
    rw [Bool.and_eq_true, decide_eq_true_eq, decide_eq_true_eq]; omega
  rw [hw] at hW
  ((refine ggb1 ha2 hW ?_))
  ((repeat refine AW_seq ?_))
  refine AW_block ?_
  refine AW_loop_w (fun x : Nat × Nat => ⟨[(2, .ptr 0 (t + 1) 0), (3, .ptr 1 (t + 1 + 1) 0), (5, int r.hs.length), (15, hds r.hs), (16, int r.hs.length), (17, int x.1)], [some ⟨49, t + 1, [bks s.bs, rps s.rs]⟩, some ⟨61, t + 1 + 1, rp1 r⟩], x.2⟩) (fun x => r.hs.length - x.1) (fun x => x.1 ≤ r.hs.length ∧ ∀ j h, j < x.1 → r.hs[j]? = some h → okHold s.bs h (endH r.hs.length j) = true) (0, t + 1 + 1) ⟨Nat.zero_le _, fun j h hj => absurd hj (Nat.not_lt_zero _)⟩ (by (simp (disch := omega) only [StLe, tmLe, hpLe_refl, hpLe, bl, bb, bt, zDs, zD, eqCells, simprocAttr])) ?_
  rintro ⟨k, tt⟩ ⟨hk, hin⟩
  simp only at hk hin
  by_cases hlt : k < r.hs.length
  · obtain ⟨h, hh⟩ : ∃ h, r.hs[k]? = some h := ⟨_, List.getElem?_eq_getElem hlt⟩
    have hra := hdC_read r.hs k h hh
    have hH := hold_prog s h (endH r.hs.length k) hl
    ((refine ggb0 (F := _∧_) ⟨@Int.ofNat_lt, hlt⟩ ?_))
    ((repeat refine AW_seq ?_))
    refine AW_block ?_
    have e0 : ((k : Int) == 0) = (k == 0) := by rw [Bool.eq_iff_iff]; simp
    have e1 : ((k : Int) == (r.hs.length : Int) - 1) = (k + 1 == r.hs.length) := by rw [Bool.eq_iff_iff, beq_iff_eq, beq_iff_eq]; omega
    have hend : endH r.hs.length k = (k == 0 || k + 1 == r.hs.length) := rfl
    cases hok : okHold s.bs h (endH r.hs.length k)
    · have ho : okRope s.bs r = false := by simp only [okRope, okHolds_not hh hok, Bool.and_false, Bool.false_and]
      rw [hok] at hH
      cases h0 : (k == 0) <;> cases h1 : (k + 1 == r.hs.length) <;>
      · rw [hend, h0, h1] at hH
        simp only [Bool.or_self, Bool.or_true, Bool.true_or] at hH
        ((refine ggb1 (F := _∧_∧_∧_∧_∧_) ⟨hlt, hra, e0, e1, h0, h1⟩ hH ?_))
        ((repeat refine AW_seq ?_); (refine wta ?_); simp (disch := omega) only [retQ, resD, oneD, rsv, rs, rsL, rsL_eq_map, List.map_map, bb, bt, zDs, zD, eqCells, simprocAttr, Try.results111, ho])
    · rw [hok] at hH
      cases h0 : (k == 0) <;> cases h1 : (k + 1 == r.hs.length) <;>
      · rw [hend, h0, h1] at hH
        simp only [Bool.or_self, Bool.or_true, Bool.true_or] at hH
        ((refine ggb1 (F := _∧_∧_∧_∧_∧_) ⟨hlt, hra, e0, e1, h0, h1⟩ hH ?_))
        refine ⟨(k + 1, tt + 1), ⟨hlt, fun j x hj hx => ?_⟩, by show r.hs.length - (k + 1) < r.hs.length - k; omega, ?_⟩
        · by_cases e : j = k
          · subst e; rw [hh] at hx; cases hx; exact hok
          · exact hin j x (by omega) hx
        (simp (disch := omega) only [StLe, tmLe, hpLe_refl, hpLe, bl, bb, bt, zDs, zD, eqCells, simprocAttr])
  · have hke : k = r.hs.length := by omega
    subst hke
    have hall : okHolds s.bs r.hs = true := okHolds_all fun j x hx => hin j x (List.getElem?_eq_some_iff.1 hx).1 hx
    obtain ⟨m, hm⟩ : ∃ m, r.hs.length = m + 1 := ⟨r.hs.length - 1, by omega⟩
    obtain ⟨h, hh⟩ : ∃ h, r.hs[m]? = some h := ⟨_, List.getElem?_eq_getElem (by omega)⟩
    have hlast : r.hs.getLast? = some h := by rw [List.getLast?_eq_getElem?, show r.hs.length - 1 = m by omega]; exact hh
    have ho : okRope s.bs r = (!r.hl || decide (h.b = ⟨#[]⟩)) := by
      simp only [okRope, hall, hsz, hlast, and_self, decide_true, Bool.true_and]
    have em : (r.hs.length : Int) - 1 = (m : Int) := by omega
    have hnm := hdC_name r.hs m h hh
    have hmlt : m < r.hs.length := by omega
    cases hhl : r.hl
    · rw [hhl] at ho
      ((refine ggb0 (F := _∧_) ⟨@Int.lt_irrefl, hhl⟩ ?_))
      ((repeat refine AW_seq ?_); (refine wta ?_); simp (disch := omega) only [retQ, resD, oneD, rsv, rs, rsL, rsL_eq_map, List.map_map, bb, bt, zDs, zD, eqCells, simprocAttr, Try.results111, ho, Bool.true_or])
    · rw [hhl] at ho
      ((refine ggb0 (F := _∧_∧_∧_∧_) ⟨@Int.lt_irrefl, hhl, em, hmlt, hnm⟩ ?_))
      ((repeat refine AW_seq ?_); (refine wta ?_); simp (disch := omega) only [retQ, resD, oneD, rsv, rs, rsL, rsL_eq_map, List.map_map, bb, bt, zDs, zD, eqCells, simprocAttr, Try.results111, ho, Bool.false_or])
end Go.Proofs.Ytjjpjgnoanfaoaa.T
end

section
namespace Go.Proofs.Ytjjpjgnoanfaoaa.T
open Go Go.RowKit Lin
set_option linter.unusedSimpArgs false

/-! Valid systems: the walks. -/
/-- The entries of a map of names. -/
def strs (l : List ByteArray) : List D := l.flatMap fun s => [str s, bool true]
def addN (l : List ByteArray) (s : ByteArray) : List ByteArray := if l.contains s = true then l else l ++ [s]
theorem mfind_strs (k : ByteArray) : ∀ l : List ByteArray, mfind (.string k) (strs l) = some (if l.contains k = true then some (.bool true) else none)
  | [] => by simp [strs, mfind]
  | s :: l => by
    have ih := mfind_strs k l
    simp only [strs, List.flatMap_cons, List.cons_append, List.nil_append, mfind, keyEq] at ih ⊢
    by_cases h : k = s
    · simp [h]
    · have h' : (k == s) = false := by simpa using h
      simp only [h, decide_false, List.contains_cons, h', Bool.false_or]
      exact ih
theorem mput_strs (k : ByteArray) : ∀ l : List ByteArray, mput (.string k) (.bool true) (strs l) = strs (addN l k)
  | [] => by simp [strs, mput, addN]
  | s :: l => by
    have ih := mput_strs k l
    simp only [strs, addN, List.flatMap_cons, List.cons_append, List.nil_append, mput, keyEq] at ih ⊢
    by_cases h : k = s
    · subst h; simp
    · have h' : (k == s) = false := by simpa using h
      simp only [h, decide_false, List.contains_cons, h', Bool.false_or, Option.some.injEq, Bool.false_eq_true, if_false, ih]
      split <;> simp
theorem add_call {H : Hp} {b g c gc t : Nat} {nm : ByteArray} {names : List ByteArray} {K : D → Hp → Nat → Prop} (hs : nm.size ≤ 1000000) (hb : H[b]? = some (some ⟨145, g, [.mp c gc]⟩)) (hc : H[c]? = some (some ⟨145, gc, strs names⟩))
    (hK : K (bool (isNm nm && !names.contains nm)) (H.set c (some ⟨145, gc, strs (addN names nm)⟩)) t) : ACall Try.prog 109 [str nm, .ptr b g 0] H t K := by
  refine ACall.enter tab_ok Try.func109 rfl rfl Try.ntmps109 (by simp) ?_
  simp only [enterTM]
  have hN := isName_dec nm hs
  have h1 := mfind_strs nm names
  have h2 := mput_strs nm names
  have hcl : c < H.length := (List.getElem?_eq_some_iff.1 hc).1
  cases hn : isNm nm
  · rw [hn] at hN
    rw [hn] at hK
    ((refine ggb1 (F := _∧_∧_∧_) ⟨hb, hc, h1, h2⟩ hN ?_))
    ((repeat refine AW_seq ?_); (refine wta ?_); simp (disch := omega) only [retQ, resD, oneD, bb, bt, zDs, zD, eqCells, simprocAttr, Try.results109])
    exact hK
  · rw [hn] at hN
    rw [hn] at hK
    cases hin : names.contains nm
    · rw [hin] at h1 hK
      simp only [Bool.false_eq_true, if_false] at h1
      ((refine ggb1 (F := _∧_∧_∧_∧_) ⟨hb, hc, h1, h2, @Option.isSome_none.{0}⟩ hN ?_))
      ((repeat refine AW_seq ?_); (refine wta ?_); simp (disch := omega) only [retQ, resD, oneD, bb, bt, zDs, zD, eqCells, simprocAttr, Try.results109])
      exact hK
    · rw [hin] at h1 hK
      simp only [if_true] at h1
      ((refine ggb1 (F := _∧_∧_∧_∧_) ⟨hb, hc, h1, h2, @Option.isSome_some.{0}⟩ hN ?_))
      ((repeat refine AW_seq ?_); (refine wta ?_); simp (disch := omega) only [retQ, resD, oneD, bb, bt, zDs, zD, eqCells, simprocAttr, Try.results109])
      exact hK
/-- Sizes that all memory has. -/
structure Fits (s : Sy) : Prop where
  nb : s.bs.length ≤ 1000000
  nr : s.rs.length ≤ 1000000
  sb : ∀ b ∈ s.bs, b.nm.size ≤ 1000000
  sr : ∀ r ∈ s.rs, r.nm.size ≤ 1000000 ∧ r.hs.length ≤ 1000000
theorem okB_at {bs : List Bk} {k : Nat} {b : Bk} (h : bs[k]? = some b) : okB bs k = (isNm b.nm && !(bNames (bs.take k)).contains b.nm && decide (0 ≤ b.w ∧ b.w ≤ 16777216)) := by unfold okB; rw [h]
theorem okR_at {s : Sy} {k : Nat} {r : Rp} (h : s.rs[k]? = some r) : okR s k = (isNm r.nm && !(bNames s.bs ++ rNames (s.rs.take k)).contains r.nm && okRope s.bs r) := by unfold okR; rw [h]
theorem bNames_step {bs : List Bk} {k : Nat} {b : Bk} (h : bs[k]? = some b) : bNames (bs.take (k + 1)) = bNames (bs.take k) ++ [b.nm] := by
  unfold bNames; rw [List.take_add_one, h]; simp
theorem rNames_step {rs : List Rp} {k : Nat} {r : Rp} (h : rs[k]? = some r) : rNames (rs.take (k + 1)) = rNames (rs.take k) ++ [r.nm] := by
  unfold rNames; rw [List.take_add_one, h]; simp
theorem hauls_step {rs : List Rp} {k : Nat} {r : Rp} (h : rs[k]? = some r) : hauls (rs.take (k + 1)) = hauls (rs.take k) + (if r.hl = true then 1 else 0) := by
  unfold hauls; rw [List.take_add_one, h, List.filter_append, List.length_append]
  cases hh : r.hl <;> simp [hh]
theorem hauls_le (rs : List Rp) : hauls rs ≤ rs.length := List.length_filter_le _ _
theorem validS_size {s : Sy} (h : okSize s = false) : validS s = false := by simp [validS, h]
theorem validS_b {s : Sy} {k : Nat} (hk : k < s.bs.length) (h : okB s.bs k = false) : validS s = false := by simp [validS, upto_not hk h]
theorem validS_r {s : Sy} {k : Nat} (hk : k < s.rs.length) (h : okR s k = false) : validS s = false := by simp [validS, upto_not hk h]
theorem validS_end {s : Sy} (h : okSize s = true) (hb : ∀ j, j < s.bs.length → okB s.bs j = true) (hr : ∀ j, j < s.rs.length → okR s j = true) : validS s = decide (hauls s.rs ≤ 1) := by
  simp [validS, h, upto_all hb, upto_all hr]
set_option maxHeartbeats 4000000 in
theorem valid_prog (s : Sy) (hf : Fits s) : PRet Try.prog 49 [syD s] (bool (validS s)) := by
  refine PRet.intro 1 fun t => ACall.enter tab_ok Try.func49 rfl rfl Try.ntmps49 (by simp) ?_
  simp only [enterTM]
  obtain ⟨nb, nr, sb, sr⟩ := hf
  have hlb := bkC_len s.bs
  have hlr := rpC_len s.rs
  have hdb := bkC_div s.bs
  have hdr := rpC_div s.rs
  have hw1 := within_ s.bs.length 1 6
  have hw2 := within_ s.rs.length 1 6
  by_cases c1 : 1 ≤ s.bs.length ∧ s.bs.length ≤ 6
  rotate_left 1
  · have ho : validS s = false := validS_size (by simp [okSize, c1])
    have hw : (decide ((1 : Int) ≤ s.bs.length) && decide ((s.bs.length : Int) ≤ 6)) = false := by
      rw [← Bool.not_eq_true, Bool.and_eq_true, decide_eq_true_eq, decide_eq_true_eq]; omega
    rw [hw] at hw1
    ((refine ggb1 (F := _∧_) ⟨hdb, hdr⟩ hw1 ?_))
    ((repeat refine AW_seq ?_); (refine wta ?_); simp (disch := omega) only [retQ, resD, oneD, rsv, rs, rsL, rsL_eq_map, List.map_map, bb, bt, zDs, zD, eqCells, simprocAttr, Try.results49, ho])
  have hwa : (decide ((1 : Int) ≤ s.bs.length) && decide ((s.bs.length : Int) ≤ 6)) = true := by
    rw [Bool.and_eq_true, decide_eq_true_eq, decide_eq_true_eq]; omega
  rw [hwa] at hw1
  by_cases c2 : 1 ≤ s.rs.length ∧ s.rs.length ≤ 6
  rotate_left 1
  · have ho : validS s = false := validS_size (by simp [okSize, c2])
    have hw : (decide ((1 : Int) ≤ s.rs.length) && decide ((s.rs.length : Int) ≤ 6)) = false := by
      rw [← Bool.not_eq_true, Bool.and_eq_true, decide_eq_true_eq, decide_eq_true_eq]; omega
    rw [hw] at hw2
    ((refine ggb2 (F := _∧_) ⟨hdb, hdr⟩ hw1 hw2 ?_))
    ((repeat refine AW_seq ?_); (refine wta ?_); simp (disch := omega) only [retQ, resD, oneD, rsv, rs, rsL, rsL_eq_map, List.map_map, bb, bt, zDs, zD, eqCells, simprocAttr, Try.results49, ho])
  have hwb : (decide ((1 : Int) ≤ s.rs.length) && decide ((s.rs.length : Int) ≤ 6)) = true := by
    rw [Bool.and_eq_true, decide_eq_true_eq, decide_eq_true_eq]; omega
  rw [hwb] at hw2
  have hsz : okSize s = true := by simp [okSize, c1, c2]
  ((refine ggb2 (F := _∧_) ⟨hdb, hdr⟩ hw1 hw2 ?_))
  clear hw1 hw2
  ((repeat refine AW_seq ?_))
  refine AW_mid (fun x : Nat => ⟨[(1, .ptr 0 (t + 1) 0), (4, .fn 109 [.ptr 2 (t + 1 + 1 + 1) 0])], [some ⟨49, t + 1, [bks s.bs, rps s.rs]⟩, some ⟨145, t + 1 + 1, strs (bNames s.bs)⟩, some ⟨145, t + 1 + 1 + 1, [.mp 1 (t + 1 + 1)]⟩], x⟩) (fun _ => ∀ j, j < s.bs.length → okB s.bs j = true) ?_ ?_
  · refine AW_block ?_
    refine AW_loop_w (fun x : Nat × Nat => ⟨[(1, .ptr 0 (t + 1) 0), (4, .fn 109 [.ptr 2 (t + 1 + 1 + 1) 0]), (25, bks s.bs), (26, int s.bs.length), (27, int x.1)], [some ⟨49, t + 1, [bks s.bs, rps s.rs]⟩, some ⟨145, t + 1 + 1, strs (bNames (s.bs.take x.1))⟩, some ⟨145, t + 1 + 1 + 1, [.mp 1 (t + 1 + 1)]⟩], x.2⟩) (fun x => s.bs.length - x.1) (fun x => x.1 ≤ s.bs.length ∧ ∀ j, j < x.1 → okB s.bs j = true) (0, t + 1 + 1 + 1) ⟨Nat.zero_le _, fun j hj => absurd hj (Nat.not_lt_zero _)⟩ (by (simp (disch := omega) only [StLe, tmLe, hpLe_refl, hpLe, bl, bb, bt, zDs, zD, eqCells, simprocAttr, strs, bNames])) ?_
    rintro ⟨k, tt⟩ ⟨hk, hin⟩
    simp only at hk hin
    by_cases hlt : k < s.bs.length
    · obtain ⟨b, hb⟩ : ∃ y, s.bs[k]? = some y := ⟨_, List.getElem?_eq_getElem hlt⟩
      have hra := bkC_read s.bs k b hb
      have hat := okB_at hb
      have hst := bNames_step hb
      have hwt := within_ b.w 0 16777216
      have hdw : decide (0 ≤ b.w ∧ b.w ≤ 16777216) = (decide (0 ≤ b.w) && decide (b.w ≤ 16777216)) := by rw [Bool.eq_iff_iff]; simp
      ((refine ggb0 (F := _∧_) ⟨@Int.ofNat_lt, hlt⟩ ?_))
      ((repeat refine AW_seq ?_))
      refine AW_block ?_
      ((refine ggb0 (F := _∧_) ⟨hlt, hra⟩ ?_))
      ((try with_reducible intro KR hKR); (first | refine awOps_nc fun KK hKK => ?_ | refine awOps_gc rfl fun KK hKK => ?_); simp (disch := omega) only [bb, bt, zDs, zD, eqCells, simprocAttr, goC, callO_fn, argsD, and_self])
      refine add_call (names := bNames (s.bs.take k)) (sb b (List.mem_of_getElem? hb)) rfl rfl ?_
      cases hnm : (isNm b.nm && !(bNames (s.bs.take k)).contains b.nm)
      · have ho : validS s = false := validS_b hlt (by rw [hat, hnm, Bool.false_and])
        (simp (disch := omega) only [bb, bt, zDs, zD, eqCells, simprocAttr, afterC]; refine hKK _ ?_; clear hKK KK)
        ((refine gga0 ?_))
        ((repeat refine AW_seq ?_); (refine wta ?_); simp (disch := omega) only [retQ, resD, oneD, rsv, rs, rsL, rsL_eq_map, List.map_map, bb, bt, zDs, zD, eqCells, simprocAttr, Try.results49, ho])
      · cases hw : (decide (0 ≤ b.w) && decide (b.w ≤ 16777216))
        · have ho : validS s = false := validS_b hlt (by rw [hat, hnm, hdw, hw]; rfl)
          rw [hw] at hwt
          (simp (disch := omega) only [bb, bt, zDs, zD, eqCells, simprocAttr, afterC]; refine hKK _ ?_; clear hKK KK)
          ((refine gga1 hwt ?_))
          ((repeat refine AW_seq ?_); (refine wta ?_); simp (disch := omega) only [retQ, resD, oneD, rsv, rs, rsL, rsL_eq_map, List.map_map, bb, bt, zDs, zD, eqCells, simprocAttr, Try.results49, ho])
        · rw [hw] at hwt
          have hcon : (bNames (s.bs.take k)).contains b.nm = false := by
            rw [Bool.and_eq_true, Bool.not_eq_true'] at hnm; exact hnm.2
          have hadd : addN (bNames (s.bs.take k)) b.nm = bNames (s.bs.take (k + 1)) := by
            unfold addN; rw [hcon, hst]; simp
          (simp (disch := omega) only [bb, bt, zDs, zD, eqCells, simprocAttr, afterC]; refine hKK _ ?_; clear hKK KK)
          ((refine ggb1 hadd hwt ?_))
          refine ⟨(k + 1, tt + 1), ⟨hlt, fun j hj => ?_⟩, by show s.bs.length - (k + 1) < s.bs.length - k; omega, ?_⟩
          · by_cases e : j = k
            · subst e; rw [hat, hnm, hdw, hw]; rfl
            · exact hin j (by omega)
          simp only [hadd]
          (simp (disch := omega) only [StLe, tmLe, hpLe_refl, hpLe, bl, bb, bt, zDs, zD, eqCells, simprocAttr])
    · have hke : k = s.bs.length := by omega
      subst hke
      rw [List.take_length]
      ((refine ggb0 @Int.lt_irrefl ?_))
      exact ⟨tt, hin, by (simp (disch := omega) only [StLe, tmLe, hpLe_refl, hpLe, bl, bb, bt, zDs, zD, eqCells, simprocAttr])⟩
  rintro t2 hbs
  ((refine ggb0 hdr ?_))
  ((repeat refine AW_seq ?_))
  refine AW_mid (fun x : Nat => ⟨[(7, int (hauls s.rs))], [], x⟩) (fun _ => ∀ j, j < s.rs.length → okR s j = true) ?_ ?_
  · refine AW_block ?_
    refine AW_loop_w (fun x : Nat × Nat => ⟨[(1, .ptr 0 (t + 1) 0), (4, .fn 109 [.ptr 2 (t + 1 + 1 + 1) 0]), (7, int (hauls (s.rs.take x.1))), (44, rps s.rs), (45, int s.rs.length), (46, int x.1)], [some ⟨49, t + 1, [bks s.bs, rps s.rs]⟩, some ⟨145, t + 1 + 1, strs (bNames s.bs ++ rNames (s.rs.take x.1))⟩, some ⟨145, t + 1 + 1 + 1, [.mp 1 (t + 1 + 1)]⟩], x.2⟩) (fun x => s.rs.length - x.1) (fun x => x.1 ≤ s.rs.length ∧ ∀ j, j < x.1 → okR s j = true) (0, t2) ⟨Nat.zero_le _, fun j hj => absurd hj (Nat.not_lt_zero _)⟩ (by (simp (disch := omega) only [StLe, tmLe, hpLe_refl, hpLe, bl, bb, bt, zDs, zD, eqCells, simprocAttr, rNames, List.append_nil, hauls, List.filter_nil])) ?_
    rintro ⟨k, tt⟩ ⟨hk, hin⟩
    simp only at hk hin
    by_cases hlt : k < s.rs.length
    · obtain ⟨r, hr⟩ : ∃ y, s.rs[k]? = some y := ⟨_, List.getElem?_eq_getElem hlt⟩
      have hra := rpC_read s.rs k r hr
      have hat := okR_at hr
      have hst := rNames_step hr
      have hsh := hauls_step hr
      have hhl := hauls_le (s.rs.take k)
      rw [List.length_take] at hhl
      obtain ⟨sr1, sr2⟩ := sr r (List.mem_of_getElem? hr)
      have hrp := rope_prog s r nb sr2
      ((refine ggb0 (F := _∧_) ⟨@Int.ofNat_lt, hlt⟩ ?_))
      ((repeat refine AW_seq ?_))
      refine AW_block ?_
      ((refine ggb0 (F := _∧_) ⟨hlt, hra⟩ ?_))
      ((try with_reducible intro KR hKR); (first | refine awOps_nc fun KK hKK => ?_ | refine awOps_gc rfl fun KK hKK => ?_); simp (disch := omega) only [bb, bt, zDs, zD, eqCells, simprocAttr, goC, callO_fn, argsD, and_self])
      refine add_call (names := bNames s.bs ++ rNames (s.rs.take k)) sr1 rfl rfl ?_
      cases hnm : (isNm r.nm && !(bNames s.bs ++ rNames (s.rs.take k)).contains r.nm)
      · have ho : validS s = false := validS_r hlt (by rw [hat, hnm, Bool.false_and])
        (simp (disch := omega) only [bb, bt, zDs, zD, eqCells, simprocAttr, afterC]; refine hKK _ ?_; clear hKK KK)
        ((refine gga0 ?_))
        ((repeat refine AW_seq ?_); (refine wta ?_); simp (disch := omega) only [retQ, resD, oneD, rsv, rs, rsL, rsL_eq_map, List.map_map, bb, bt, zDs, zD, eqCells, simprocAttr, Try.results49, ho])
      · cases hw : okRope s.bs r
        · have ho : validS s = false := validS_r hlt (by rw [hat, hnm, hw]; rfl)
          rw [hw] at hrp
          (simp (disch := omega) only [bb, bt, zDs, zD, eqCells, simprocAttr, afterC]; refine hKK _ ?_; clear hKK KK)
          ((refine gga1 hrp ?_))
          ((repeat refine AW_seq ?_); (refine wta ?_); simp (disch := omega) only [retQ, resD, oneD, rsv, rs, rsL, rsL_eq_map, List.map_map, bb, bt, zDs, zD, eqCells, simprocAttr, Try.results49, ho])
        · rw [hw] at hrp
          have hcon : (bNames s.bs ++ rNames (s.rs.take k)).contains r.nm = false := by
            rw [Bool.and_eq_true, Bool.not_eq_true'] at hnm; exact hnm.2
          have hadd : addN (bNames s.bs ++ rNames (s.rs.take k)) r.nm = bNames s.bs ++ rNames (s.rs.take (k + 1)) := by
            unfold addN; rw [hcon, hst]; simp
          (simp (disch := omega) only [bb, bt, zDs, zD, eqCells, simprocAttr, afterC]; refine hKK _ ?_; clear hKK KK)
          ((refine ggb1 hadd hrp ?_))
          cases hh : r.hl
          · rw [hh] at hsh
            simp only [Bool.false_eq_true, if_false, Nat.add_zero] at hsh
            ((refine gga0 ?_))
            refine ⟨(k + 1, tt + 1), ⟨hlt, fun j hj => ?_⟩, by show s.rs.length - (k + 1) < s.rs.length - k; omega, ?_⟩
            · by_cases e : j = k
              · subst e; rw [hat, hnm, hw]; rfl
              · exact hin j (by omega)
            simp only [hadd, hsh]
            (simp (disch := omega) only [StLe, tmLe, hpLe_refl, hpLe, bl, bb, bt, zDs, zD, eqCells, simprocAttr])
          · rw [hh] at hsh
            simp only [if_true] at hsh
            ((refine gga0 ?_))
            refine ⟨(k + 1, tt + 1), ⟨hlt, fun j hj => ?_⟩, by show s.rs.length - (k + 1) < s.rs.length - k; omega, ?_⟩
            · by_cases e : j = k
              · subst e; rw [hat, hnm, hw]; rfl
              · exact hin j (by omega)
            simp only [hadd, hsh]
            (simp (disch := omega) only [StLe, tmLe, hpLe_refl, hpLe, bl, bb, bt, zDs, zD, eqCells, simprocAttr])
    · have hke : k = s.rs.length := by omega
      subst hke
      rw [List.take_length]
      ((refine ggb0 @Int.lt_irrefl ?_))
      exact ⟨tt, hin, by (simp (disch := omega) only [StLe, tmLe, hpLe_refl, hpLe, bl, bb, bt, zDs, zD, eqCells, simprocAttr])⟩
  rintro t3 hrs
  have ho := validS_end hsz hbs hrs
  have he : decide ((hauls s.rs : Int) ≤ 1) = decide (hauls s.rs ≤ 1) := by rw [decide_eq_decide]; omega
  ((refine ggb0 he ?_))
  ((repeat refine AW_seq ?_); (refine wta ?_); simp (disch := omega) only [retQ, resD, oneD, rsv, rs, rsL, rsL_eq_map, List.map_map, bb, bt, zDs, zD, eqCells, simprocAttr, Try.results49, ho])
end Go.Proofs.Ytjjpjgnoanfaoaa.T
end

section
namespace Go.Proofs.Ytjjpjgnoanfaoaa.T
open Go Go.RowKit Lin
set_option linter.unusedSimpArgs false

/-! Names and ropes, by the reference. -/
theorem contains_map {α : Type} (f : α → ByteArray) (l : List α) (a : ByteArray) : (l.map f).contains a = l.any fun x => decide (f x = a) := by
  rw [Bool.eq_iff_iff, List.contains_iff_mem, List.any_eq_true, List.mem_map]
  simp
theorem first_ne {α : Type} (p : α → Bool) {l : List α} {k : Nat} {x : α} (h : l[k]? = some x) (hp : p x = true) : (idx p l 0 != (k : Int)) = (l.take k).any p := by
  have h1 := idx_first p l 0 k x h hp
  rw [Nat.zero_add] at h1
  cases ha : (l.take k).any p
  · rw [(h1.1 ha)]; simp
  · have : ¬ idx p l 0 = (k : Int) := fun e => by rw [h1.2 e] at ha; cases ha
    simpa using this
theorem findB_ne {bs : List Bk} {k : Nat} {b : Bk} (h : bs[k]? = some b) : (findB bs b.nm != (k : Int)) = (bNames (bs.take k)).contains b.nm := by
  unfold findB bNames
  rw [contains_map]
  exact first_ne _ h (by simp)
theorem findR_ne {rs : List Rp} {k : Nat} {r : Rp} (h : rs[k]? = some r) : (findR rs r.nm != (k : Int)) = (rNames (rs.take k)).contains r.nm := by
  unfold findR rNames
  rw [contains_map]
  exact first_ne _ h (by simp)
theorem findB_ge (bs : List Bk) (nm : ByteArray) : decide (0 ≤ findB bs nm) = (bNames bs).contains nm := by
  unfold findB bNames
  rw [contains_map, idx_any]
set_option maxHeartbeats 4000000 in
theorem rope_ref (s : Sy) (r : Rp) (hl : s.bs.length ≤ 1000000) (hr : r.hs.length ≤ 1000000) : PRet Try.prog 102 [syD s, .agg (rp1 r)] (bool (okRope s.bs r)) := by
  refine PRet.intro 1 fun t => ACall.enter tab_ok Try.func102 rfl rfl Try.ntmps102 (by simp) ?_
  simp only [enterTM]
  have hla := hdC_len r.hs
  have ha2 := hdC_div r.hs
  by_cases a1 : (r.hs.length : Int) < 2
  · have ho : okRope s.bs r = false := by
      have : ¬ (2 ≤ r.hs.length ∧ r.hs.length ≤ 10) := by omega
      simp only [okRope, this, decide_false, Bool.false_and]
    ((refine ggb0 (F := _∧_) ⟨ha2, a1⟩ ?_))
    ((repeat refine AW_seq ?_); (refine wta ?_); simp (disch := omega) only [retQ, resD, oneD, rsv, rs, rsL, rsL_eq_map, List.map_map, bb, bt, zDs, zD, eqCells, simprocAttr, Try.results102, ho])
  by_cases a2 : 10 < (r.hs.length : Int)
  · have ho : okRope s.bs r = false := by
      have : ¬ (2 ≤ r.hs.length ∧ r.hs.length ≤ 10) := by omega
      simp only [okRope, this, decide_false, Bool.false_and]
    ((refine ggb0 (F := _∧_∧_) ⟨ha2, a1, a2⟩ ?_))
    ((repeat refine AW_seq ?_); (refine wta ?_); simp (disch := omega) only [retQ, resD, oneD, rsv, rs, rsL, rsL_eq_map, List.map_map, bb, bt, zDs, zD, eqCells, simprocAttr, Try.results102, ho])
  have hsz : 2 ≤ r.hs.length ∧ r.hs.length ≤ 10 := by omega
  ((refine ggb0 (F := _∧_∧_) ⟨ha2, a1, a2⟩ ?_))
  ((repeat refine AW_seq ?_))
  refine AW_block ?_
  refine AW_loop_w (fun x : Nat × Nat => ⟨[(2, .ptr 0 (t + 1) 0), (3, .ptr 1 (t + 1 + 1) 0), (5, int x.1)], [some ⟨49, t + 1, [bks s.bs, rps s.rs]⟩, some ⟨61, t + 1 + 1, rp1 r⟩], x.2⟩) (fun x => r.hs.length - x.1) (fun x => x.1 ≤ r.hs.length ∧ ∀ j h, j < x.1 → r.hs[j]? = some h → okHold s.bs h (endH r.hs.length j) = true) (0, t + 1 + 1) ⟨Nat.zero_le _, fun j h hj => absurd hj (Nat.not_lt_zero _)⟩ (by (simp (disch := omega) only [StLe, tmLe, hpLe_refl, hpLe, bl, bb, bt, zDs, zD, eqCells, simprocAttr])) ?_
  rintro ⟨k, tt⟩ ⟨hk, hin⟩
  simp only at hk hin
  by_cases hlt : k < r.hs.length
  · obtain ⟨h, hh⟩ : ∃ h, r.hs[k]? = some h := ⟨_, List.getElem?_eq_getElem hlt⟩
    have hra := hdC_read r.hs k h hh
    have hH := hold_ref s h (endH r.hs.length k) hl
    ((refine ggb0 (F := _∧_∧_) ⟨@Int.ofNat_lt, hlt, ha2⟩ ?_))
    ((repeat refine AW_seq ?_))
    refine AW_block ?_
    have e0 : ((k : Int) == 0) = (k == 0) := by rw [Bool.eq_iff_iff]; simp
    have e1 : ((k : Int) == (r.hs.length : Int) - 1) = (k + 1 == r.hs.length) := by rw [Bool.eq_iff_iff, beq_iff_eq, beq_iff_eq]; omega
    have hend : endH r.hs.length k = (k == 0 || k + 1 == r.hs.length) := rfl
    cases hok : okHold s.bs h (endH r.hs.length k)
    · have ho : okRope s.bs r = false := by simp only [okRope, okHolds_not hh hok, Bool.and_false, Bool.false_and]
      rw [hok] at hH
      cases h0 : (k == 0) <;> cases h1 : (k + 1 == r.hs.length) <;>
      · rw [hend, h0, h1] at hH
        simp only [Bool.or_self, Bool.or_true, Bool.true_or] at hH
        ((repeat refine AW_seq ?_); (refine gdzb1 (F := _∧_∧_∧_∧_∧_∧_) ⟨ha2, hlt, hra, e0, e1, h0, h1⟩ hH ?_))
        ((refine gga0 ?_))
        ((repeat refine AW_seq ?_); (refine wta ?_); simp (disch := omega) only [retQ, resD, oneD, rsv, rs, rsL, rsL_eq_map, List.map_map, bb, bt, zDs, zD, eqCells, simprocAttr, Try.results102, ho])
    · rw [hok] at hH
      cases h0 : (k == 0) <;> cases h1 : (k + 1 == r.hs.length) <;>
      · rw [hend, h0, h1] at hH
        simp only [Bool.or_self, Bool.or_true, Bool.true_or] at hH
        ((repeat refine AW_seq ?_); (refine gdzb1 (F := _∧_∧_∧_∧_∧_∧_) ⟨ha2, hlt, hra, e0, e1, h0, h1⟩ hH ?_))
        ((refine gga0 ?_))
        refine ⟨(k + 1, tt + 1), ⟨hlt, fun j x hj hx => ?_⟩, by show r.hs.length - (k + 1) < r.hs.length - k; omega, ?_⟩
        · by_cases e : j = k
          · subst e; rw [hh] at hx; cases hx; exact hok
          · exact hin j x (by omega) hx
        (simp (disch := omega) only [StLe, tmLe, hpLe_refl, hpLe, bl, bb, bt, zDs, zD, eqCells, simprocAttr])
  · have hke : k = r.hs.length := by omega
    subst hke
    have hall : okHolds s.bs r.hs = true := okHolds_all fun j x hx => hin j x (List.getElem?_eq_some_iff.1 hx).1 hx
    obtain ⟨m, hm⟩ : ∃ m, r.hs.length = m + 1 := ⟨r.hs.length - 1, by omega⟩
    obtain ⟨h, hh⟩ : ∃ h, r.hs[m]? = some h := ⟨_, List.getElem?_eq_getElem (by omega)⟩
    have hlast : r.hs.getLast? = some h := by rw [List.getLast?_eq_getElem?, show r.hs.length - 1 = m by omega]; exact hh
    have ho : okRope s.bs r = (!r.hl || decide (h.b = ⟨#[]⟩)) := by
      simp only [okRope, hall, hsz, hlast, and_self, decide_true, Bool.true_and]
    have em : (r.hs.length : Int) - 1 = (m : Int) := by omega
    have hnm := hdC_name r.hs m h hh
    have hmlt : m < r.hs.length := by omega
    cases hhl : r.hl
    · rw [hhl] at ho
      ((refine ggb0 (F := _∧_∧_) ⟨@Int.lt_irrefl, hhl, ha2⟩ ?_))
      ((repeat refine AW_seq ?_); (refine wta ?_); simp (disch := omega) only [retQ, resD, oneD, rsv, rs, rsL, rsL_eq_map, List.map_map, bb, bt, zDs, zD, eqCells, simprocAttr, Try.results102, ho, Bool.true_or])
    · rw [hhl] at ho
      ((refine ggb0 (F := _∧_∧_∧_∧_∧_) ⟨@Int.lt_irrefl, hhl, em, hmlt, hnm, ha2⟩ ?_))
      ((repeat refine AW_seq ?_); (refine wta ?_); simp (disch := omega) only [retQ, resD, oneD, rsv, rs, rsL, rsL_eq_map, List.map_map, bb, bt, zDs, zD, eqCells, simprocAttr, Try.results102, ho, Bool.false_or])
end Go.Proofs.Ytjjpjgnoanfaoaa.T
end

section
namespace Go.Proofs.Ytjjpjgnoanfaoaa.T
open Go Go.RowKit Lin
set_option linter.unusedSimpArgs false

/-! Valid systems, by the reference. -/
set_option maxHeartbeats 4000000 in
theorem valid_ref (s : Sy) (hf : Fits s) : PRet Try.prog 43 [syD s] (bool (validS s)) := by
  refine PRet.intro 1 fun t => ACall.enter tab_ok Try.func43 rfl rfl Try.ntmps43 (by simp) ?_
  simp only [enterTM]
  obtain ⟨nb, nr, sb, sr⟩ := hf
  have hlb := bkC_len s.bs
  have hlr := rpC_len s.rs
  have hdb := bkC_div s.bs
  have hdr := rpC_div s.rs
  by_cases a1 : (s.bs.length : Int) < 1
  · have ho : validS s = false := validS_size (by simp [okSize]; omega)
    ((refine ggb0 (F := _∧_∧_) ⟨hdb, hdr, a1⟩ ?_))
    ((repeat refine AW_seq ?_); (refine wta ?_); simp (disch := omega) only [retQ, resD, oneD, rsv, rs, rsL, rsL_eq_map, List.map_map, bb, bt, zDs, zD, eqCells, simprocAttr, Try.results43, ho])
  by_cases a2 : 6 < (s.bs.length : Int)
  · have ho : validS s = false := validS_size (by simp [okSize]; omega)
    ((refine ggb0 (F := _∧_∧_∧_) ⟨hdb, hdr, a1, a2⟩ ?_))
    ((repeat refine AW_seq ?_); (refine wta ?_); simp (disch := omega) only [retQ, resD, oneD, rsv, rs, rsL, rsL_eq_map, List.map_map, bb, bt, zDs, zD, eqCells, simprocAttr, Try.results43, ho])
  by_cases a3 : (s.rs.length : Int) < 1
  · have ho : validS s = false := validS_size (by simp [okSize]; omega)
    ((refine ggb0 (F := _∧_∧_∧_∧_) ⟨hdb, hdr, a1, a2, a3⟩ ?_))
    ((repeat refine AW_seq ?_); (refine wta ?_); simp (disch := omega) only [retQ, resD, oneD, rsv, rs, rsL, rsL_eq_map, List.map_map, bb, bt, zDs, zD, eqCells, simprocAttr, Try.results43, ho])
  by_cases a4 : 6 < (s.rs.length : Int)
  · have ho : validS s = false := validS_size (by simp [okSize]; omega)
    ((refine ggb0 (F := _∧_∧_∧_∧_∧_) ⟨hdb, hdr, a1, a2, a3, a4⟩ ?_))
    ((repeat refine AW_seq ?_); (refine wta ?_); simp (disch := omega) only [retQ, resD, oneD, rsv, rs, rsL, rsL_eq_map, List.map_map, bb, bt, zDs, zD, eqCells, simprocAttr, Try.results43, ho])
  have hsz : okSize s = true := by simp [okSize]; omega
  ((refine ggb0 (F := _∧_∧_∧_∧_∧_) ⟨hdb, hdr, a1, a2, a3, a4⟩ ?_))
  clear a1 a2 a3 a4
  ((repeat refine AW_seq ?_))
  refine AW_mid (fun x : Nat => ⟨[(1, .ptr 0 (t + 1) 0)], [some ⟨49, t + 1, [bks s.bs, rps s.rs]⟩], x⟩) (fun _ => ∀ j, j < s.bs.length → okB s.bs j = true) ?_ ?_
  · refine AW_block ?_
    refine AW_loop_w (fun x : Nat × Nat => ⟨[(1, .ptr 0 (t + 1) 0), (3, int x.1)], [some ⟨49, t + 1, [bks s.bs, rps s.rs]⟩], x.2⟩) (fun x => s.bs.length - x.1) (fun x => x.1 ≤ s.bs.length ∧ ∀ j, j < x.1 → okB s.bs j = true) (0, t + 1) ⟨Nat.zero_le _, fun j hj => absurd hj (Nat.not_lt_zero _)⟩ (by (simp (disch := omega) only [StLe, tmLe, hpLe_refl, hpLe, bl, bb, bt, zDs, zD, eqCells, simprocAttr])) ?_
    rintro ⟨k, tt⟩ ⟨hk, hin⟩
    simp only at hk hin
    by_cases hlt : k < s.bs.length
    · obtain ⟨b, hb⟩ : ∃ y, s.bs[k]? = some y := ⟨_, List.getElem?_eq_getElem hlt⟩
      have hra := bkC_read s.bs k b hb
      have hat := okB_at hb
      have hN := isName_ref b.nm (sb b (List.mem_of_getElem? hb))
      have hF := refFindBlock s b.nm nb
      have hne := findB_ne hb
      ((refine ggb0 (F := _∧_∧_) ⟨@Int.ofNat_lt, hlt, hdb⟩ ?_))
      ((repeat refine AW_seq ?_))
      refine AW_block ?_
      cases hnm : isNm b.nm
      · have ho : validS s = false := validS_b hlt (by rw [hat, hnm, Bool.false_and, Bool.false_and])
        rw [hnm] at hN
        ((refine ggb1 (F := _∧_∧_) ⟨hdb, hlt, hra⟩ hN ?_))
        ((repeat refine AW_seq ?_); (refine wta ?_); simp (disch := omega) only [retQ, resD, oneD, rsv, rs, rsL, rsL_eq_map, List.map_map, bb, bt, zDs, zD, eqCells, simprocAttr, Try.results43, ho])
      rw [hnm] at hN
      cases hc : (bNames (s.bs.take k)).contains b.nm
      rotate_left 1
      · have ho : validS s = false := validS_b hlt (by rw [hat, hnm, hc]; rfl)
        rw [hc] at hne
        ((refine ggb2 (F := _∧_∧_∧_) ⟨hdb, hlt, hra, hne⟩ hN hF ?_))
        ((repeat refine AW_seq ?_); (refine wta ?_); simp (disch := omega) only [retQ, resD, oneD, rsv, rs, rsL, rsL_eq_map, List.map_map, bb, bt, zDs, zD, eqCells, simprocAttr, Try.results43, ho])
      rw [hc] at hne
      by_cases w1 : b.w < 0
      · have ho : validS s = false := validS_b hlt (by rw [hat, hnm, hc]; simp; omega)
        ((refine ggb2 (F := _∧_∧_∧_∧_) ⟨hdb, hlt, hra, hne, w1⟩ hN hF ?_))
        ((repeat refine AW_seq ?_); (refine wta ?_); simp (disch := omega) only [retQ, resD, oneD, rsv, rs, rsL, rsL_eq_map, List.map_map, bb, bt, zDs, zD, eqCells, simprocAttr, Try.results43, ho])
      by_cases w2 : 16777216 < b.w
      · have ho : validS s = false := validS_b hlt (by rw [hat, hnm, hc]; simp; omega)
        ((refine ggb2 (F := _∧_∧_∧_∧_∧_) ⟨hdb, hlt, hra, hne, w1, w2⟩ hN hF ?_))
        ((repeat refine AW_seq ?_); (refine wta ?_); simp (disch := omega) only [retQ, resD, oneD, rsv, rs, rsL, rsL_eq_map, List.map_map, bb, bt, zDs, zD, eqCells, simprocAttr, Try.results43, ho])
      ((refine ggb2 (F := _∧_∧_∧_∧_∧_) ⟨hdb, hlt, hra, hne, w1, w2⟩ hN hF ?_))
      refine ⟨(k + 1, tt + 1), ⟨hlt, fun j hj => ?_⟩, by show s.bs.length - (k + 1) < s.bs.length - k; omega, ?_⟩
      · by_cases e : j = k
        · subst e; rw [hat, hnm, hc]; simp; omega
        · exact hin j (by omega)
      (simp (disch := omega) only [StLe, tmLe, hpLe_refl, hpLe, bl, bb, bt, zDs, zD, eqCells, simprocAttr])
    · have hke : k = s.bs.length := by omega
      subst hke
      ((refine ggb0 (F := _∧_) ⟨@Int.lt_irrefl, hdb⟩ ?_))
      exact ⟨tt, hin, by (simp (disch := omega) only [StLe, tmLe, hpLe_refl, hpLe, bl, bb, bt, zDs, zD, eqCells, simprocAttr])⟩
  rintro t2 hbs
  ((refine ggb0 hdr ?_))
  ((repeat refine AW_seq ?_))
  refine AW_mid (fun x : Nat => ⟨[(5, int (hauls s.rs))], [], x⟩) (fun _ => ∀ j, j < s.rs.length → okR s j = true) ?_ ?_
  · refine AW_block ?_
    refine AW_loop_w (fun x : Nat × Nat => ⟨[(1, .ptr 0 (t + 1) 0), (5, int (hauls (s.rs.take x.1))), (6, int x.1)], [some ⟨49, t + 1, [bks s.bs, rps s.rs]⟩], x.2⟩) (fun x => s.rs.length - x.1) (fun x => x.1 ≤ s.rs.length ∧ ∀ j, j < x.1 → okR s j = true) (0, t2) ⟨Nat.zero_le _, fun j hj => absurd hj (Nat.not_lt_zero _)⟩ (by (simp (disch := omega) only [StLe, tmLe, hpLe_refl, hpLe, bl, bb, bt, zDs, zD, eqCells, simprocAttr, hauls, List.filter_nil])) ?_
    rintro ⟨k, tt⟩ ⟨hk, hin⟩
    simp only at hk hin
    by_cases hlt : k < s.rs.length
    · obtain ⟨r, hr⟩ : ∃ y, s.rs[k]? = some y := ⟨_, List.getElem?_eq_getElem hlt⟩
      have hra := rpC_read s.rs k r hr
      have hat := okR_at hr
      have hsh := hauls_step hr
      have hhl := hauls_le (s.rs.take k)
      rw [List.length_take] at hhl
      obtain ⟨sr1, sr2⟩ := sr r (List.mem_of_getElem? hr)
      have hrp := rope_ref s r nb sr2
      have hN := isName_ref r.nm sr1
      have hF := refFindRope s r.nm nr
      have hB := refFindBlock s r.nm nb
      have hne := findR_ne hr
      have hge := findB_ge s.bs r.nm
      have hcon : (bNames s.bs ++ rNames (s.rs.take k)).contains r.nm = ((bNames s.bs).contains r.nm || (rNames (s.rs.take k)).contains r.nm) := List.contains_append
      ((refine ggb0 (F := _∧_∧_) ⟨@Int.ofNat_lt, hlt, hdr⟩ ?_))
      ((repeat refine AW_seq ?_))
      refine AW_block ?_
      cases hnm : isNm r.nm
      · have ho : validS s = false := validS_r hlt (by rw [hat, hnm, Bool.false_and, Bool.false_and])
        rw [hnm] at hN
        ((refine ggb1 (F := _∧_∧_) ⟨hdr, hlt, hra⟩ hN ?_))
        ((repeat refine AW_seq ?_); (refine wta ?_); simp (disch := omega) only [retQ, resD, oneD, rsv, rs, rsL, rsL_eq_map, List.map_map, bb, bt, zDs, zD, eqCells, simprocAttr, Try.results43, ho])
      rw [hnm] at hN
      cases hc : (rNames (s.rs.take k)).contains r.nm
      rotate_left 1
      · have ho : validS s = false := validS_r hlt (by rw [hat, hnm, hcon, hc, Bool.or_true]; rfl)
        rw [hc] at hne
        ((refine ggb2 (F := _∧_∧_∧_) ⟨hdr, hlt, hra, hne⟩ hN hF ?_))
        ((repeat refine AW_seq ?_); (refine wta ?_); simp (disch := omega) only [retQ, resD, oneD, rsv, rs, rsL, rsL_eq_map, List.map_map, bb, bt, zDs, zD, eqCells, simprocAttr, Try.results43, ho])
      rw [hc] at hne
      cases hd : (bNames s.bs).contains r.nm
      rotate_left 1
      · have ho : validS s = false := validS_r hlt (by rw [hat, hnm, hcon, hd, Bool.true_or]; rfl)
        rw [hd] at hge
        ((refine ggb3 (F := _∧_∧_∧_∧_) ⟨hdr, hlt, hra, hne, hge⟩ hN hF hB ?_))
        ((repeat refine AW_seq ?_); (refine wta ?_); simp (disch := omega) only [retQ, resD, oneD, rsv, rs, rsL, rsL_eq_map, List.map_map, bb, bt, zDs, zD, eqCells, simprocAttr, Try.results43, ho])
      rw [hd] at hge
      cases hw : okRope s.bs r
      · have ho : validS s = false := validS_r hlt (by rw [hat, hw, Bool.and_false])
        rw [hw] at hrp
        ((refine ggb4 (F := _∧_∧_∧_∧_) ⟨hdr, hlt, hra, hne, hge⟩ hN hF hB hrp ?_))
        ((repeat refine AW_seq ?_); (refine wta ?_); simp (disch := omega) only [retQ, resD, oneD, rsv, rs, rsL, rsL_eq_map, List.map_map, bb, bt, zDs, zD, eqCells, simprocAttr, Try.results43, ho])
      rw [hw] at hrp
      have hok : okR s k = true := by rw [hat, hnm, hcon, hc, hd, hw]; rfl
      ((refine ggb4 (F := _∧_∧_∧_∧_) ⟨hdr, hlt, hra, hne, hge⟩ hN hF hB hrp ?_))
      cases hh : r.hl
      · rw [hh] at hsh
        simp only [Bool.false_eq_true, if_false, Nat.add_zero] at hsh
        ((refine gga0 ?_))
        refine ⟨(k + 1, tt + 1), ⟨hlt, fun j hj => ?_⟩, by show s.rs.length - (k + 1) < s.rs.length - k; omega, ?_⟩
        · by_cases e : j = k
          · subst e; exact hok
          · exact hin j (by omega)
        simp only [hsh]
        (simp (disch := omega) only [StLe, tmLe, hpLe_refl, hpLe, bl, bb, bt, zDs, zD, eqCells, simprocAttr])
      · rw [hh] at hsh
        simp only [if_true] at hsh
        ((refine gga0 ?_))
        refine ⟨(k + 1, tt + 1), ⟨hlt, fun j hj => ?_⟩, by show s.rs.length - (k + 1) < s.rs.length - k; omega, ?_⟩
        · by_cases e : j = k
          · subst e; exact hok
          · exact hin j (by omega)
        simp only [hsh]
        (simp (disch := omega) only [StLe, tmLe, hpLe_refl, hpLe, bl, bb, bt, zDs, zD, eqCells, simprocAttr])
    · have hke : k = s.rs.length := by omega
      subst hke
      rw [List.take_length]
      ((refine ggb0 (F := _∧_) ⟨@Int.lt_irrefl, hdr⟩ ?_))
      exact ⟨tt, hin, by (simp (disch := omega) only [StLe, tmLe, hpLe_refl, hpLe, bl, bb, bt, zDs, zD, eqCells, simprocAttr])⟩
  rintro t3 hrs
  have ho := validS_end hsz hbs hrs
  have he : decide ((hauls s.rs : Int) ≤ 1) = decide (hauls s.rs ≤ 1) := by rw [decide_eq_decide]; omega
  ((refine ggb0 he ?_))
  ((repeat refine AW_seq ?_); (refine wta ?_); simp (disch := omega) only [retQ, resD, oneD, rsv, rs, rsL, rsL_eq_map, List.map_map, bb, bt, zDs, zD, eqCells, simprocAttr, Try.results43, ho])
end Go.Proofs.Ytjjpjgnoanfaoaa.T
end

namespace Go.Proofs.Ytjjpjgnoanfaoaa.T
open Go Go.RowKit Lin
set_option linter.unusedSimpArgs false

/-! What is read stays as it is. -/
mutual
def tidyD : D → Bool
  | .v _ => true
  | .sl _ cs full => !full && tidyL cs
  | .rp cs _ => tidyL cs
  | .own .. => false
  | .ptr .. => false
  | .agg cs => tidyL cs
  | .tup cs => tidyL cs
  | .fn _ cs => tidyL cs
  | .mp .. => false
  | .any => true
def tidyL : List D → Bool
  | [] => true
  | d :: ds => tidyD d && tidyL ds
end
mutual
theorem rs_tidy (R : D → D) (H : Hp) : ∀ d : D, tidyD d = true → rs R H d = d
  | .v x, _ => by simp only [rs]
  | .sl sz cs full, h => by simp only [tidyD, Bool.and_eq_true, Bool.not_eq_true'] at h; simp only [rs, rsL_tidy R H cs h.2, h.1]
  | .rp cs o, h => by simp only [tidyD] at h; simp only [rs, rsL_tidy R H cs h]
  | .own .., h => by simp [tidyD] at h
  | .ptr .., h => by simp [tidyD] at h
  | .agg cs, h => by simp only [tidyD] at h; simp only [rs, rsL_tidy R H cs h]
  | .tup cs, h => by simp only [tidyD] at h; simp only [rs, rsL_tidy R H cs h]
  | .fn f cs, h => by simp only [tidyD] at h; simp only [rs, rsL_tidy R H cs h]
  | .mp .., h => by simp [tidyD] at h
  | .any, _ => by simp only [rs]
theorem rsL_tidy (R : D → D) (H : Hp) : ∀ ds : List D, tidyL ds = true → rsL R H ds = ds
  | [], _ => by simp only [rsL]
  | d :: ds, h => by
    simp only [tidyL, Bool.and_eq_true] at h
    simp only [rsL, rs_tidy R H d h.1, rsL_tidy R H ds h.2]
end
theorem rsv_tidy (H : Hp) (k : Nat) {d : D} (h : tidyD d = true) : rsv H (k + 1) d = d := rs_tidy _ H d h
theorem tidyL_app : ∀ (a b : List D), tidyL (a ++ b) = (tidyL a && tidyL b)
  | [], b => by simp [tidyL]
  | d :: a, b => by simp [tidyL, tidyL_app a b, Bool.and_assoc]
theorem tidyL_all : ∀ {l : List D}, (∀ d ∈ l, tidyD d = true) → tidyL l = true
  | [], _ => rfl
  | d :: l, h => by simp only [tidyL, Bool.and_eq_true]; exact ⟨h d (by simp), tidyL_all fun x hx => h x (by simp [hx])⟩
theorem tidy_ints (l : List Int) : tidyL (l.map int) = true := tidyL_all fun d hd => by obtain ⟨x, _, rfl⟩ := List.mem_map.1 hd; rfl
theorem tidy_mat (m : List (List Int)) : tidyD (mat m) = true := by
  simp only [tidyD, Bool.not_false, Bool.true_and]
  exact tidyL_all fun d hd => by obtain ⟨x, _, rfl⟩ := List.mem_map.1 hd; simp only [tidyD, Bool.not_false, Bool.true_and, tidy_ints]
theorem tidy_hd (l : List Hd) : tidyL (hdC l) = true := tidyL_all fun d hd => by
  obtain ⟨x, _, hx⟩ := List.mem_flatMap.1 hd
  simp only [List.mem_cons, List.not_mem_nil, or_false] at hx
  rcases hx with rfl | rfl | rfl | rfl <;> rfl
theorem tidy_bk (l : List Bk) : tidyL (bkC l) = true := tidyL_all fun d hd => by
  obtain ⟨x, _, hx⟩ := List.mem_flatMap.1 hd
  simp only [List.mem_cons, List.not_mem_nil, or_false] at hx
  rcases hx with rfl | rfl <;> rfl
theorem tidy_rp (l : List Rp) : tidyL (rpC l) = true := tidyL_all fun d hd => by
  obtain ⟨x, _, hx⟩ := List.mem_flatMap.1 hd
  simp only [List.mem_cons, List.not_mem_nil, or_false] at hx
  rcases hx with rfl | rfl | rfl
  · rfl
  · simp only [tidyD, Bool.not_false, Bool.true_and, tidy_hd]
  · rfl
theorem tidy_sy (s : Sy) : tidyD (syD s) = true := by simp only [tidyD, tidyL, Bool.not_false, tidy_bk, tidy_rp, Bool.and_self]
theorem hpLe_app : ∀ (R S : Hp), hpLe (R ++ S) R
  | [], S => by cases S <;> trivial
  | x :: R, S => ⟨.inr rfl, hpLe_app R S⟩

/-! Pulls, the matrix, the weights. -/
def pull (nm : ByteArray) : List Hd → Int
  | [] => 0
  | h :: l => (if h.b = nm then h.p else 0) + pull nm l
theorem pull_app (nm : ByteArray) : ∀ a b : List Hd, pull nm (a ++ b) = pull nm a + pull nm b
  | [], b => by simp [pull]
  | h :: a, b => by simp only [List.cons_append, pull, pull_app nm a b]; omega
theorem pull_step {nm : ByteArray} {hs : List Hd} {k : Nat} {h : Hd} (hh : hs[k]? = some h) : pull nm (hs.take (k + 1)) = pull nm (hs.take k) + (if h.b = nm then h.p else 0) := by
  rw [List.take_add_one, hh, pull_app]; simp [pull]
theorem pull_bound {nm : ByteArray} : ∀ {hs : List Hd}, (∀ h ∈ hs, -2 ≤ h.p ∧ h.p ≤ 2) → -(2 * hs.length : Int) ≤ pull nm hs ∧ pull nm hs ≤ 2 * hs.length
  | [], _ => by simp [pull]
  | h :: l, hb => by
    have ih := pull_bound (nm := nm) (hs := l) fun x hx => hb x (List.mem_cons_of_mem _ hx)
    have := hb h (by simp)
    simp only [pull, List.length_cons]
    split <;> omega
def matS (s : Sy) : List (List Int) := s.bs.map fun b => s.rs.map fun r => pull b.nm r.hs
def wtsS (s : Sy) : List Int := s.bs.map (·.w)
/-- What is known of a valid system. -/
structure OkS (s : Sy) : Prop where
  b1 : 1 ≤ s.bs.length
  b6 : s.bs.length ≤ 6
  r1 : 1 ≤ s.rs.length
  r6 : s.rs.length ≤ 6
  holds : ∀ r ∈ s.rs, 2 ≤ r.hs.length ∧ r.hs.length ≤ 10 ∧ okHolds s.bs r.hs = true
  pulls : ∀ r ∈ s.rs, ∀ h ∈ r.hs, -2 ≤ h.p ∧ h.p ≤ 2
  wts : ∀ b ∈ s.bs, 0 ≤ b.w ∧ b.w ≤ 16777216
  inj : ∀ (i j : Nat) (a b : Bk), s.bs[i]? = some a → s.bs[j]? = some b → a.nm = b.nm → i = j
  names : ∀ b ∈ s.bs, isNm b.nm = true
  rinj : ∀ (i j : Nat) (a b : Rp), s.rs[i]? = some a → s.rs[j]? = some b → a.nm = b.nm → i = j
theorem okHold_pull {bs : List Bk} {h : Hd} {e : Bool} (hk : okHold bs h e = true) : -2 ≤ h.p ∧ h.p ≤ 2 := by
  unfold okHold at hk
  rw [Bool.and_eq_true] at hk
  obtain ⟨_, hk⟩ := hk
  split at hk
  · have : h.p = 0 := by simpa using hk
    omega
  · rw [Bool.and_eq_true] at hk
    obtain ⟨_, hk⟩ := hk
    split at hk <;> simp at hk <;> omega
theorem validS_ok {s : Sy} (h : validS s = true) : OkS s := by
  simp only [validS, Bool.and_eq_true, List.all_eq_true, List.mem_range, okSize, decide_eq_true_eq] at h
  obtain ⟨⟨⟨⟨⟨b1, b6⟩, r1, r6⟩, hb⟩, hr⟩, _⟩ := h
  have hB : ∀ i b, s.bs[i]? = some b → isNm b.nm = true ∧ (bNames (s.bs.take i)).contains b.nm = false ∧ 0 ≤ b.w ∧ b.w ≤ 16777216 := fun i b hi => by
    have := hb i (List.getElem?_eq_some_iff.1 hi).1
    rw [okB_at hi, Bool.and_eq_true, Bool.and_eq_true, Bool.not_eq_true', decide_eq_true_eq] at this
    exact ⟨this.1.1, this.1.2, this.2⟩
  have hR : ∀ i r, s.rs[i]? = some r → (bNames s.bs ++ rNames (s.rs.take i)).contains r.nm = false ∧ okRope s.bs r = true := fun i r hi => by
    have := hr i (List.getElem?_eq_some_iff.1 hi).1
    rw [okR_at hi, Bool.and_eq_true, Bool.and_eq_true, Bool.not_eq_true'] at this
    exact ⟨this.1.2, this.2⟩
  have hH : ∀ r ∈ s.rs, 2 ≤ r.hs.length ∧ r.hs.length ≤ 10 ∧ okHolds s.bs r.hs = true := fun r hr => by
    obtain ⟨i, hi⟩ := List.mem_iff_getElem?.1 hr
    have := (hR i r hi).2
    rw [okRope, Bool.and_eq_true, Bool.and_eq_true, decide_eq_true_eq] at this
    exact ⟨this.1.1.1, this.1.1.2, this.1.2⟩
  have key : ∀ (i j : Nat) (a b : Bk), i < j → s.bs[i]? = some a → s.bs[j]? = some b → a.nm ≠ b.nm := fun i j a b hij hi hj e => by
    have h1 := (hB j b hj).2.1
    rw [← Bool.not_eq_true, List.contains_iff_mem] at h1
    refine h1 (List.mem_map.2 ⟨a, List.mem_of_getElem? (i := i) ?_, e⟩)
    rw [List.getElem?_take, if_pos hij]; exact hi
  have keyR : ∀ (i j : Nat) (a b : Rp), i < j → s.rs[i]? = some a → s.rs[j]? = some b → a.nm ≠ b.nm := fun i j a b hij hi hj e => by
    have h1 := (hR j b hj).1
    rw [← Bool.not_eq_true, List.contains_iff_mem] at h1
    refine h1 (List.mem_append_right _ (List.mem_map.2 ⟨a, List.mem_of_getElem? (i := i) ?_, e⟩))
    rw [List.getElem?_take, if_pos hij]; exact hi
  refine ⟨b1, b6, r1, r6, hH, fun r hr h hh => ?_, fun b hb => ?_, fun i j a b hi hj e => ?_, fun b hb => ?_, fun i j a b hi hj e => ?_⟩
  · obtain ⟨_, _, h3⟩ := hH r hr
    obtain ⟨j, hj⟩ := List.mem_iff_getElem?.1 hh
    unfold okHolds at h3
    rw [List.all_eq_true] at h3
    have := h3 j (List.mem_range.2 (List.getElem?_eq_some_iff.1 hj).1)
    rw [hj] at this
    exact okHold_pull this
  · obtain ⟨i, hi⟩ := List.mem_iff_getElem?.1 hb
    exact (hB i b hi).2.2
  · rcases Nat.lt_trichotomy i j with h | h | h
    · exact absurd e (key i j a b h hi hj)
    · exact h
    · exact absurd e.symm (key j i b a h hj hi)
  · obtain ⟨i, hi⟩ := List.mem_iff_getElem?.1 hb
    exact (hB i b hi).1
  · rcases Nat.lt_trichotomy i j with h | h | h
    · exact absurd e (keyR i j a b h hi hj)
    · exact h
    · exact absurd e.symm (keyR j i b a h hj hi)
theorem OkS.pull_le {s : Sy} (h : OkS s) {r : Rp} (hr : r ∈ s.rs) (nm : ByteArray) : -20 ≤ pull nm r.hs ∧ pull nm r.hs ≤ 20 := by
  have := pull_bound (nm := nm) (h.pulls r hr)
  have := (h.holds r hr).2.1
  omega
theorem OkS.mat_len {s : Sy} (_h : OkS s) : (matS s).length = s.bs.length := by simp [matS]
theorem OkS.mat_wid {s : Sy} (h : OkS s) : wid (matS s) = s.rs.length := by
  have := h.b1
  unfold wid matS
  cases hb : s.bs with
  | nil => rw [hb] at this; simp at this
  | cons b l => simp
theorem OkS.mat_valid {s : Sy} (h : OkS s) : validP (matS s) = true := by
  refine validP_iff.2 ⟨by rw [h.mat_len]; exact ⟨h.b1, h.b6⟩, by rw [h.mat_wid]; have := h.r1; have := h.r6; omega, fun r hr => ?_⟩
  obtain ⟨b, _, rfl⟩ := List.mem_map.1 hr
  refine ⟨by rw [h.mat_wid]; simp, fun x hx => ?_⟩
  obtain ⟨p, hp, rfl⟩ := List.mem_map.1 hx
  have := h.pull_le hp b.nm
  omega
theorem OkS.wts_len {s : Sy} (_h : OkS s) : (wtsS s).length = s.bs.length := by simp [wtsS]
theorem OkS.wts_in {s : Sy} (h : OkS s) : withinP (wtsS s) 67108864 = true := withinP_of fun n hn => by
  obtain ⟨b, hb, rfl⟩ := List.mem_map.1 hn
  have := h.wts b hb
  omega
end Go.Proofs.Ytjjpjgnoanfaoaa.T

section
namespace Go.Proofs.Ytjjpjgnoanfaoaa.T
open Go Go.RowKit Lin
set_option linter.unusedSimpArgs false

/-! The matrix and the weights: the walks. -/
theorem wts_take {s : Sy} {k : Nat} {b : Bk} (h : s.bs[k]? = some b) : (wtsS s).take (k + 1) = (wtsS s).take k ++ [b.w] := by
  rw [List.take_add_one]; simp [wtsS, h]
set_option maxHeartbeats 1000000 in
theorem weights_prog (s : Sy) (hf : Fits s) : PRet Try.prog 89 [syD s] (.tup (if validS s = true then [ints (wtsS s), int 0] else [ints [], int 1])) := by
  refine PRet.intro 1 fun t => ACall.enter tab_ok Try.func89 rfl rfl Try.ntmps89 (by simp) ?_
  simp only [enterTM]
  have hla := bkC_len s.bs
  have ha2 := bkC_div s.bs
  have hwl : (wtsS s).length = s.bs.length := by simp [wtsS]
  have hnb := hf.nb
  have hV := valid_prog s hf
  cases hv : validS s
  · rw [hv] at hV
    ((refine gga1 hV ?_))
    ((repeat refine AW_seq ?_); (refine wta ?_); simp (disch := omega) only [retQ, resD, oneD, rsv, rs, rsL, rsL_eq_map, List.map_map, bb, bt, zDs, zD, eqCells, simprocAttr, Try.results89, Bool.false_eq_true, if_false])
    rfl
  rw [hv] at hV
  simp only [if_true]
  ((refine wqa ?_))
  ((repeat refine AW_seq ?_); (refine AW_region_k tab_ok fun KR hKR => ?_)); ((refine wra ?_)); ((refine wka1 hV ?_)); ((refine wra ?_)); ((refine wea ?_); (try clear hKR KR))
  ((refine wia ?_))
  ((refine wsa ?_))
  ((refine wqa ?_))
  ((refine wqb ha2 ?_))
  ((repeat refine AW_seq ?_))
  refine AW.begin 4 1 3 rfl (by decide) ?_
  simp only [putTM, List.length_cons, List.length_nil, Nat.reduceEqDiff, ↓reduceIte, List.cons_append, List.nil_append]
  refine AW_mid (fun x : Nat × Nat => ⟨[(4, .own 1 1 x.1 0 s.bs.length)], [none, some ⟨3, x.1, (wtsS s).map int⟩], x.2⟩) (fun _ => True) ?_ ?_
  · refine AW_block ?_
    refine AW_loop_w (fun x : Nat × Nat × Nat => ⟨[(1, .ptr 0 (t + 1) 0), (4, .own 1 1 x.2.1 0 x.1), (11, bks s.bs), (12, int s.bs.length), (13, int x.1)], [some ⟨49, t + 1, [bks s.bs, rps s.rs]⟩, some ⟨3, x.2.1, ((wtsS s).take x.1).map int⟩], x.2.2⟩) (fun x => s.bs.length - x.1) (fun x => x.1 ≤ s.bs.length) (0, t + 1 + 1, t + 1 + 1) (Nat.zero_le _) (by (simp (disch := omega) only [StLe, tmLe, hpLe_refl, hpLe, bl, bb, bt, zDs, zD, eqCells, simprocAttr])) ?_
    rintro ⟨k, g, tt⟩ hk
    simp only at hk
    by_cases hlt : k < s.bs.length
    · obtain ⟨b, hb⟩ : ∃ y, s.bs[k]? = some y := ⟨_, List.getElem?_eq_getElem hlt⟩
      have hra := bkC_read s.bs k b hb
      have hst := wts_take hb
      have hcl : ((wtsS s).take k).length = k := by rw [List.length_take]; omega
      ((refine ggb0 (F := _∧_∧_) ⟨@Int.ofNat_lt, hlt, ha2⟩ ?_))
      ((repeat refine AW_seq ?_))
      refine AW_block ?_
      ((refine ggb0 (F := _∧_∧_∧_) ⟨hlt, ha2, hra, hcl⟩ ?_))
      refine ⟨(k + 1, tt + 1 + 1, tt + 1 + 1), hlt, by show s.bs.length - (k + 1) < s.bs.length - k; omega, ?_⟩
      simp only [hst, List.map_append, List.map_cons, List.map_nil]
      (simp (disch := omega) only [StLe, tmLe, hpLe_refl, hpLe, bl, bb, bt, zDs, zD, eqCells, simprocAttr])
    · have hke : k = s.bs.length := by omega
      subst hke
      rw [List.take_of_length_le (by omega)]
      ((refine wqb (F := _∧_) ⟨@Int.lt_irrefl, ha2⟩ ?_))
      ((refine wia ?_))
      ((refine wxa ?_))
      exact ⟨(g, tt), trivial, by (simp (disch := omega) only [StLe, tmLe, hpLe_refl, hpLe, bl, bb, bt, zDs, zD, eqCells, simprocAttr])⟩
  rintro ⟨g, tt⟩ -
  have hfin : List.take s.bs.length ((wtsS s).map int) = (wtsS s).map int := List.take_of_length_le (by simp [wtsS])
  ((refine AW.freeze (1) (by first | rfl | (simp only [setH, List.getElem?_cons_zero, List.getElem?_cons_succ, hfin, hwl]; done)) ?_); simp (disch := omega) only [fzT, fz, fzL, fzL_ints, fzL_mat, fzH, fzB, eq_self, bb, bt, zDs, zD, eqCells, simprocAttr, hfin, hwl])
  ((refine gga0 ?_))
  ((repeat refine AW_seq ?_); (refine wta ?_); simp (disch := omega) only [retQ, resD, oneD, bb, bt, zDs, zD, eqCells, simprocAttr, Try.results89])
  exact rsv_tidy _ _ (by simp only [tidyD, tidyL, tidy_ints, Bool.not_false, Bool.and_self])
end Go.Proofs.Ytjjpjgnoanfaoaa.T
end

section
namespace Go.Proofs.Ytjjpjgnoanfaoaa.T
open Go Go.RowKit Lin
set_option linter.unusedSimpArgs false

/-! The matrix of pulls. -/
def rowS (s : Sy) (nm : ByteArray) : List Int := s.rs.map fun r => pull nm r.hs
theorem matS_get {s : Sy} {i : Nat} {b : Bk} (h : s.bs[i]? = some b) : (matS s)[i]? = some (rowS s b.nm) := by simp [matS, rowS, h]
theorem matS_take {s : Sy} {i : Nat} {b : Bk} (h : s.bs[i]? = some b) : (matS s).take (i + 1) = (matS s).take i ++ [rowS s b.nm] := by
  rw [List.take_add_one, matS_get h]; rfl
theorem rowS_take {s : Sy} {nm : ByteArray} {k : Nat} {r : Rp} (h : s.rs[k]? = some r) : (rowS s nm).take (k + 1) = (rowS s nm).take k ++ [pull nm r.hs] := by
  rw [List.take_add_one]; simp [rowS, h]
/-! The matrix of the program: filled rope by rope, hold by hold. -/
def ent (s : Sy) (nm : ByteArray) (k j c : Nat) : Int :=
  if c < k then (match s.rs[c]? with | some r => pull nm r.hs | none => 0) else if c = k then (match s.rs[k]? with | some r => pull nm (r.hs.take j) | none => 0) else 0
def rowP (s : Sy) (k j : Nat) (nm : ByteArray) : List Int := (List.range s.rs.length).map (ent s nm k j)
def rowsP (s : Sy) (k j : Nat) : List (List Int) := s.bs.map fun b => rowP s k j b.nm
theorem rowP_len (s : Sy) (k j : Nat) (nm : ByteArray) : (rowP s k j nm).length = s.rs.length := by simp [rowP]
theorem rowsP_len (s : Sy) (k j : Nat) : (rowsP s k j).length = s.bs.length := by simp [rowsP]
theorem rowP_get {s : Sy} {k j : Nat} {nm : ByteArray} {r : Rp} (hr : s.rs[k]? = some r) : (rowP s k j nm)[k]? = some (pull nm (r.hs.take j)) := by
  have hk := (List.getElem?_eq_some_iff.1 hr).1
  simp [rowP, List.getElem?_range hk, ent, hr]
theorem rowP_step {s : Sy} {k j : Nat} {nm : ByteArray} {r : Rp} {h : Hd} (hr : s.rs[k]? = some r) (hh : r.hs[j]? = some h) : rowP s k (j + 1) nm = (rowP s k j nm).set k (pull nm (r.hs.take j) + (if h.b = nm then h.p else 0)) := by
  refine List.ext_getElem? fun c => ?_
  by_cases e : k = c
  · subst e
    have hk := (List.getElem?_eq_some_iff.1 hr).1
    rw [List.getElem?_set_self (by rw [rowP_len]; exact hk), rowP_get hr, pull_step hh]
  · rw [List.getElem?_set_ne e]
    unfold rowP
    rw [List.getElem?_map, List.getElem?_map]
    by_cases hc : c < s.rs.length
    · rw [List.getElem?_range hc]
      simp only [Option.map_some, ent, show ¬ c = k from fun h => e h.symm, if_false]
    · rw [List.getElem?_eq_none (by simp; omega)]; rfl
theorem rowP_same {s : Sy} {k j : Nat} {nm : ByteArray} {r : Rp} {h : Hd} (hr : s.rs[k]? = some r) (hh : r.hs[j]? = some h) (hne : h.b ≠ nm) : rowP s k (j + 1) nm = rowP s k j nm := by
  unfold rowP
  refine List.map_congr_left fun c _ => ?_
  unfold ent
  rw [hr]
  simp only
  rw [pull_step hh, if_neg hne, Int.add_zero]
theorem rowsP_zero (s : Sy) : rowsP s 0 0 = List.replicate s.bs.length (List.replicate s.rs.length 0) := by
  have e : ∀ nm, rowP s 0 0 nm = List.replicate s.rs.length 0 := fun nm => by
    refine List.eq_replicate_iff.2 ⟨rowP_len _ _ _ _, fun x hx => ?_⟩
    obtain ⟨c, _, rfl⟩ := List.mem_map.1 hx
    unfold ent
    rw [if_neg (Nat.not_lt_zero _)]
    split
    · cases s.rs[0]? <;> simp [pull]
    · rfl
  unfold rowsP
  simp only [e]
  exact List.map_const' ..
theorem rowsP_next {s : Sy} {k : Nat} {r : Rp} (hr : s.rs[k]? = some r) : rowsP s (k + 1) 0 = rowsP s k r.hs.length := by
  unfold rowsP rowP
  refine List.map_congr_left fun b _ => List.map_congr_left fun c _ => ?_
  unfold ent
  by_cases h1 : c < k
  · rw [if_pos (by omega), if_pos h1]
  · rw [if_neg h1]
    by_cases h2 : c = k
    · subst h2
      rw [if_pos (by omega), if_pos rfl, hr]
      simp only [List.take_length]
    · rw [if_neg (by omega), if_neg h2]
      split
      · cases s.rs[k + 1]? <;> simp [pull]
      · rfl
theorem rowsP_end (s : Sy) : rowsP s s.rs.length 0 = matS s := by
  unfold rowsP matS
  refine List.map_congr_left fun b _ => ?_
  refine List.ext_getElem (by simp [rowP]) fun c h1 h2 => ?_
  have hc : c < s.rs.length := by simpa [rowP] using h1
  simp [rowP, ent, hc]
theorem rowsP_miss {s : Sy} {k j : Nat} {r : Rp} {h : Hd} (hr : s.rs[k]? = some r) (hh : r.hs[j]? = some h) (hf : findB s.bs h.b < 0) : rowsP s k (j + 1) = rowsP s k j := by
  unfold rowsP
  refine List.map_congr_left fun b hb => rowP_same hr hh fun e => ?_
  obtain ⟨h1, _⟩ := idx_lt (fun x => decide (x.nm = h.b)) s.bs 0
  obtain ⟨i, x, e1, _⟩ := h1 (List.any_eq_true.2 ⟨b, hb, by simp [e]⟩)
  unfold findB at hf
  rw [e1] at hf
  omega
theorem findB_hit {s : Sy} {nm : ByteArray} (hf : 0 ≤ findB s.bs nm) : ∃ (i : Nat) (b : Bk), findB s.bs nm = i ∧ s.bs[i]? = some b ∧ b.nm = nm := by
  obtain ⟨h1, h2⟩ := idx_lt (fun x => decide (x.nm = nm)) s.bs 0
  cases ha : s.bs.any (fun x => decide (x.nm = nm))
  · unfold findB at hf; rw [h2 ha] at hf; omega
  · obtain ⟨i, x, e, hi, hx⟩ := h1 ha
    exact ⟨i, x, by unfold findB; rw [e, Nat.zero_add], hi, by simpa using hx⟩
theorem rowsP_hit {s : Sy} (ok : OkS s) {k j i : Nat} {r : Rp} {h : Hd} {b : Bk} (hr : s.rs[k]? = some r) (hh : r.hs[j]? = some h) (hi : s.bs[i]? = some b) (hn : b.nm = h.b) :
    rowsP s k (j + 1) = (rowsP s k j).set i ((rowP s k j b.nm).set k (pull b.nm (r.hs.take j) + h.p)) := by
  refine List.ext_getElem? fun c => ?_
  have hil := (List.getElem?_eq_some_iff.1 hi).1
  by_cases e : i = c
  · subst e
    rw [List.getElem?_set_self (by rw [rowsP_len]; exact hil)]
    simp only [rowsP, List.getElem?_map, hi, Option.map_some]
    rw [rowP_step hr hh, if_pos hn.symm]
  · rw [List.getElem?_set_ne e]
    simp only [rowsP, List.getElem?_map]
    cases hc : s.bs[c]? with
    | none => rfl
    | some b' =>
      simp only [Option.map_some]
      rw [rowP_same hr hh fun e' => e (ok.inj i c b b' hi hc (hn.trans e'))]
end Go.Proofs.Ytjjpjgnoanfaoaa.T
end

section
namespace Go.Proofs.Ytjjpjgnoanfaoaa.T
open Go Go.RowKit Lin
set_option linter.unusedSimpArgs false

/-! The matrix of pulls: the program's walk. -/
abbrev nilI : D := .sl 1 [] true
theorem zerosI (n : Nat) : (List.replicate n [int 0]).flatten = (List.replicate n (0 : Int)).map int := by simp
theorem nilsI (n : Nat) : (List.replicate n [nilI]).flatten = List.replicate n nilI := by simp
theorem nil_set {cells : List D} {n k : Nat} (hc : cells.length = k) (hk : k < n) (d : D) : (cells ++ List.replicate (n - k) nilI).set k d = (cells ++ [d]) ++ List.replicate (n - (k + 1)) nilI := by
  obtain ⟨j, hj⟩ : ∃ j, n - k = j + 1 := ⟨n - k - 1, by omega⟩
  rw [List.set_append_right _ _ (by omega), hc, Nat.sub_self, hj, show n - (k + 1) = j by omega, List.replicate_succ, List.set_cons_zero]
  simp
structure MA where
  k : Nat
  cells : List D
  R : Hp
  t : Nat
set_option maxHeartbeats 4000000 in
theorem matrix_prog (s : Sy) (hf : Fits s) : PRet Try.prog 88 [syD s] (.tup (if validS s = true then [mat (matS s), int 0] else [ints [], int 1])) := by
  refine PRet.intro 1 fun t => ACall.enter tab_ok Try.func88 rfl rfl Try.ntmps88 (by simp) ?_
  simp only [enterTM]
  have hlb := bkC_len s.bs
  have hdb := bkC_div s.bs
  have hlr := rpC_len s.rs
  have hdr := rpC_div s.rs
  have hnb := hf.nb
  have hV := valid_prog s hf
  cases hv : validS s
  · rw [hv] at hV
    ((refine gga1 hV ?_))
    ((repeat refine AW_seq ?_); (refine wta ?_); simp (disch := omega) only [retQ, resD, oneD, rsv, rs, rsL, rsL_eq_map, List.map_map, bb, bt, zDs, zD, eqCells, simprocAttr, Try.results88, Bool.false_eq_true, if_false])
    rfl
  rw [hv] at hV
  have ok := validS_ok hv
  have hb6 := ok.b6
  have hr6 := ok.r6
  simp only [if_true]
  ((refine ggb1 hdb hV ?_))
  rw [nilsI]
  ((repeat refine AW_seq ?_))
  refine AW_mid (fun x : MA => ⟨[(1, .ptr 0 (t + 1) 0), (4, .own 1 1 (t + 1 + 1) 0 s.bs.length)], some ⟨49, t + 1, [bks s.bs, rps s.rs]⟩ :: some ⟨81, t + 1 + 1, x.cells⟩ :: x.R, x.t⟩) (fun x => x.R.length = s.bs.length ∧ x.cells.length = s.bs.length ∧ LayO 2 (rowsP s 0 0) (List.range s.bs.length) x.cells x.R) ?_ ?_
  · refine AW_block ?_
    refine AW_loop_w (fun x : MA => ⟨[(1, .ptr 0 (t + 1) 0), (4, .own 1 1 (t + 1 + 1) 0 s.bs.length), (19, int s.bs.length), (20, int x.k)], some ⟨49, t + 1, [bks s.bs, rps s.rs]⟩ :: some ⟨81, t + 1 + 1, x.cells ++ List.replicate (s.bs.length - x.k) nilI⟩ :: x.R, x.t⟩) (fun x => s.bs.length - x.k) (fun x => x.k ≤ s.bs.length ∧ x.R.length = x.k ∧ x.cells.length = x.k ∧ LayO 2 (List.replicate x.k (List.replicate s.rs.length 0)) (List.range x.k) x.cells x.R) ⟨0, [], [], t + 1 + 1⟩ ⟨Nat.zero_le _, rfl, rfl, LayO.nil 2 []⟩ (by (simp (disch := omega) only [StLe, tmLe, hpLe_refl, hpLe, bl, bb, bt, zDs, zD, eqCells, simprocAttr, Nat.sub_zero])) ?_
    rintro ⟨k, cells, R, tt⟩ ⟨hk, hR, hc, hL⟩
    simp only at hk hR hc hL
    by_cases hlt : k < s.bs.length
    · have hset := nil_set hc hlt
      have hcl : (cells ++ List.replicate (s.bs.length - k) nilI).length = s.bs.length := by simp; omega
      have hrl : (List.replicate (s.bs.length - k) nilI).length = s.bs.length - k := by simp
      ((refine ggb0 (F := _∧_) ⟨@Int.ofNat_lt, hlt⟩ ?_))
      ((repeat refine AW_seq ?_))
      refine AW_block ?_
      ((refine ggb0 (F := _∧_∧_) ⟨hdr, hlt, hrl⟩ ?_))
      rw [zerosI, hset]
      have hp := hL.push (g := tt + 1) (r := List.replicate s.rs.length 0) hR
      rw [List.length_replicate, ← hR] at hp
      refine ⟨⟨k + 1, cells ++ [D.own 1 (R.length + 1 + 1) (tt + 1) 0 s.rs.length], R ++ [some ⟨3, tt + 1, (List.replicate s.rs.length (0 : Int)).map int⟩], tt + 1⟩, ⟨hlt, by simp [hR], by simp [hc], ?_⟩, by show s.bs.length - (k + 1) < s.bs.length - k; omega, ?_⟩
      · rw [List.replicate_succ', ← hR]; exact hp
      (simp (disch := omega) only [StLe, tmLe, hpLe_refl, hpLe, bl, bb, bt, zDs, zD, eqCells, simprocAttr])
    · have hke : k = s.bs.length := by omega
      subst hke
      ((refine ggb0 @Int.lt_irrefl ?_))
      refine ⟨⟨0, cells, R, tt⟩, ⟨hR, hc, by rw [rowsP_zero]; exact hL⟩, ?_⟩
      simp only [Nat.sub_self, List.replicate_zero, List.append_nil]
      (simp (disch := omega) only [StLe, tmLe, hpLe_refl, hpLe, bl, bb, bt, zDs, zD, eqCells, simprocAttr])
  rintro ⟨_, cells0, R0, tt0⟩ ⟨hR0, hc0, hL0⟩
  simp only at hR0 hc0 hL0
  ((refine ggb0 hdr ?_))
  ((repeat refine AW_seq ?_))
  refine AW_mid (fun x : MA => ⟨[(4, .own 1 1 (t + 1 + 1) 0 s.bs.length)], none :: some ⟨81, t + 1 + 1, x.cells⟩ :: x.R, x.t⟩) (fun x => LayO 2 (matS s) (List.range s.bs.length) x.cells x.R) ?_ ?_
  · refine AW_block ?_
    refine AW_loop_w (fun x : Nat × Hp × Nat => ⟨[(1, .ptr 0 (t + 1) 0), (4, .own 1 1 (t + 1 + 1) 0 s.bs.length), (32, rps s.rs), (33, int s.rs.length), (34, int x.1)], some ⟨49, t + 1, [bks s.bs, rps s.rs]⟩ :: some ⟨81, t + 1 + 1, cells0⟩ :: x.2.1, x.2.2⟩) (fun x => s.rs.length - x.1) (fun x => x.1 ≤ s.rs.length ∧ x.2.1.length = s.bs.length ∧ LayO 2 (rowsP s x.1 0) (List.range s.bs.length) cells0 x.2.1) (0, R0, tt0) ⟨Nat.zero_le _, hR0, hL0⟩ (by (simp (disch := omega) only [StLe, tmLe, hpLe_refl, hpLe, bl, bb, bt, zDs, zD, eqCells, simprocAttr])) ?_
    rintro ⟨k, R, tt⟩ ⟨hk, hR, hL⟩
    simp only at hk hR hL
    by_cases hlk : k < s.rs.length
    · obtain ⟨r, hr⟩ : ∃ y, s.rs[k]? = some y := ⟨_, List.getElem?_eq_getElem hlk⟩
      have hrm := List.mem_of_getElem? hr
      have hra := rpC_read s.rs k r hr
      have hgl : ∀ x : Option Blk, (R ++ [x])[R.length]? = some x := fun x => by simp
      have hld := hdC_len r.hs
      have hdd := hdC_div r.hs
      obtain ⟨ho1, ho2, _⟩ := ok.holds r hrm
      ((refine ggb0 (F := _∧_) ⟨@Int.ofNat_lt, hlk⟩ ?_))
      ((repeat refine AW_seq ?_))
      refine AW_block ?_
      ((refine ggb0 (F := _∧_∧_∧_) ⟨hlk, hra, hgl, hdd⟩ ?_))
      · ((repeat refine AW_seq ?_))
        refine AW_block ?_
        refine AW_loop_w (fun x : Nat × Hp × Nat => ⟨[(1, .ptr 0 (t + 1) 0), (4, .own 1 1 (t + 1 + 1) 0 s.bs.length), (6, int k), (32, rps s.rs), (33, int s.rs.length), (34, int k), (40, hds r.hs), (41, int r.hs.length), (42, int x.1)], some ⟨49, t + 1, [bks s.bs, rps s.rs]⟩ :: some ⟨81, t + 1 + 1, cells0⟩ :: x.2.1, x.2.2⟩) (fun x => r.hs.length - x.1) (fun x => x.1 ≤ r.hs.length ∧ x.2.1.length = s.bs.length ∧ LayO 2 (rowsP s k x.1) (List.range s.bs.length) cells0 x.2.1) (0, R, tt + 1) ⟨Nat.zero_le _, hR, hL⟩ (by (simp (disch := omega) only [StLe, tmLe, hpLe_refl, hpLe, bl, bb, bt, zDs, zD, eqCells, simprocAttr, hpLe_app])) ?_
        clear hR hL hgl
        rintro ⟨j, R, tt⟩ ⟨hj, hR, hL⟩
        simp only at hj hR hL
        by_cases hlj : j < r.hs.length
        · obtain ⟨h, hh⟩ : ∃ y, r.hs[j]? = some y := ⟨_, List.getElem?_eq_getElem hlj⟩
          have hrh := hdC_read r.hs j h hh
          have hgl : ∀ x : Option Blk, (R ++ [x])[R.length]? = some x := fun x => by simp
          have hF := find_ s h.b hnb
          ((refine ggb0 (F := _∧_) ⟨@Int.ofNat_lt, hlj⟩ ?_))
          ((repeat refine AW_seq ?_))
          refine AW_block ?_
          by_cases hfi : 0 ≤ findB s.bs h.b
          · obtain ⟨i, b, hi, hbi, hbn⟩ := findB_hit hfi
            rw [hi] at hF hfi
            have hil := (List.getElem?_eq_some_iff.1 hbi).1
            have hri : (rowsP s k j)[i]? = some (rowP s k j b.nm) := by simp [rowsP, hbi]
            obtain ⟨g, hci, hRi⟩ := hL.at_ i i _ (by simp [hil]) hri
            rw [rowP_len] at hci
            have hgi : ∀ x : Option Blk, (R ++ [x])[i]? = some (some ⟨3, g, (rowP s k j b.nm).map int⟩) := fun x => by rw [List.getElem?_append_left (by omega)]; exact hRi
            have hsi : ∀ x y : Option Blk, (R ++ [x]).set i y = R.set i y ++ [x] := fun x y => List.set_append_left _ _ (by omega)
            have hvk := rowP_get (j := j) (nm := b.nm) hr
            have hpl := rowP_len s k j b.nm
            have hpb := pull_bound (nm := b.nm) (hs := r.hs.take j) fun x hx => ok.pulls r hrm x (List.mem_of_mem_take hx)
            rw [List.length_take] at hpb
            have hhp := ok.pulls r hrm h (List.mem_of_getElem? hh)
            have hst : ((rowP s k j b.nm).map int).set k (int (pull b.nm (r.hs.take j) + h.p)) = ((rowP s k j b.nm).set k (pull b.nm (r.hs.take j) + h.p)).map int := by rw [List.map_set]
            ((refine ggb1 (F := _∧_∧_∧_) ⟨hlj, hrh, hgl, hfi⟩ hF ?_))
            ((repeat refine AW_seq ?_); (refine AW_drawn_k tab_ok follows_mixed 0 fun KR hKR => ?_); simp only [List.replicate_succ, List.replicate_zero, List.append_nil, List.nil_append, List.cons_append, List.length_cons, List.length_nil, Nat.reduceAdd])
            ((refine wdb (F := _∧_∧_∧_∧_∧_∧_∧_∧_∧_) ⟨hgl, hci, hgi, hsi, hvk, hpl, hst, hlk, hil, hc0⟩ ?_))
            ((refine awD_nil ?_); simp only [List.reverse_cons, List.reverse_nil, List.nil_append, List.cons_append]; (refine hKR _ _ (by exact anyB_map (clamp 2) (by kernel_rfl)) ?_); (try clear hKR KR); (repeat (with_reducible first | refine q1 ?_ | refine q2 ?_ | refine q3 ?_ | refine q4 ?_ | refine q5 ?_ | refine q6 ?_ | (refine q7 ?_ ?_; (focus (with_unfolding_all rfl))))))
            ((refine gga0 ?_))
            refine ⟨(j + 1, R.set i (some ⟨3, g, ((rowP s k j b.nm).set k (pull b.nm (r.hs.take j) + h.p)).map int⟩), tt + 1 + 1), ⟨hlj, by simp [hR], ?_⟩, by show r.hs.length - (j + 1) < r.hs.length - j; omega, ?_⟩
            · rw [rowsP_hit ok hr hh hbi hbn]
              exact hL.set (by simp [hil]) hri hRi (by simp)
            (simp (disch := omega) only [StLe, tmLe, hpLe_refl, hpLe, bl, bb, bt, zDs, zD, eqCells, simprocAttr, hpLe_app])
          · ((refine ggb1 (F := _∧_∧_∧_) ⟨hlj, hrh, hgl, hfi⟩ hF ?_))
            refine ⟨(j + 1, R, tt + 1), ⟨hlj, hR, by rw [rowsP_miss hr hh (by omega)]; exact hL⟩, by show r.hs.length - (j + 1) < r.hs.length - j; omega, ?_⟩
            (simp (disch := omega) only [StLe, tmLe, hpLe_refl, hpLe, bl, bb, bt, zDs, zD, eqCells, simprocAttr, hpLe_app])
        · have hje : j = r.hs.length := by omega
          subst hje
          ((refine ggb0 @Int.lt_irrefl ?_))
          refine ⟨(k + 1, R, tt), ⟨hlk, hR, by rw [rowsP_next hr]; exact hL⟩, by show s.rs.length - (k + 1) < s.rs.length - k; omega, ?_⟩
          (simp (disch := omega) only [StLe, tmLe, hpLe_refl, hpLe, bl, bb, bt, zDs, zD, eqCells, simprocAttr])
    · have hke : k = s.rs.length := by omega
      subst hke
      ((refine wqb @Int.lt_irrefl ?_))
      ((refine wia ?_))
      ((refine wxa ?_))
      exact ⟨⟨0, cells0, R, tt⟩, by rw [rowsP_end] at hL; exact hL, by (simp (disch := omega) only [StLe, tmLe, hpLe_refl, hpLe, bl, bb, bt, zDs, zD, eqCells, simprocAttr])⟩
  rintro ⟨_, cells, R, tt⟩ hL
  simp only at hL
  refine AW.tail 2 [none, some ⟨81, t + 1 + 1, cells⟩] R rfl ?_
  have hval := hL.value (m := 2) (H2 := R) (by simp) (fun x hx => by simp) 1
  simp only [zT, zH, List.map_cons, List.map_nil, Option.map_some, Option.map_none, List.length_nil, List.length_cons, hval, Nat.zero_add, Nat.reduceAdd]
  have hz : zv 2 R 2 (.own 1 1 (t + 1 + 1) 0 s.bs.length) = .own 1 1 (t + 1 + 1) 0 s.bs.length := by simp [zv, zz]
  simp only [hz]
  have hml := ok.mat_len
  have hfin : List.take s.bs.length ((matS s).map ints) = (matS s).map ints := List.take_of_length_le (by simp [matS])
  ((refine AW.freeze (1) (by first | rfl | (simp only [setH, List.getElem?_cons_zero, List.getElem?_cons_succ, hfin, hml]; done)) ?_); simp (disch := omega) only [fzT, fz, fzL, fzL_ints, fzL_mat, fzH, fzB, eq_self, bb, bt, zDs, zD, eqCells, simprocAttr, hfin, hml])
  ((refine gga0 ?_))
  ((repeat refine AW_seq ?_); (refine wta ?_); simp (disch := omega) only [retQ, resD, oneD, bb, bt, zDs, zD, eqCells, simprocAttr, Try.results88])
  refine rsv_tidy _ _ ?_
  have := tidy_mat (matS s)
  simp only [tidyD, tidyL, Bool.not_false, Bool.and_true, Bool.true_and] at this ⊢
  exact this
end Go.Proofs.Ytjjpjgnoanfaoaa.T
end

