import Derived.Test.YthabldkbiedfmaaSA
import Derived.Test.YthabldkbiedfmaaWA
import Derived.Test.YthabldkbiedfmaaRatioA
set_option linter.all false
namespace Go.Proofs.Ythabldkbiedfmaa.T
open Go Go.RowKit

/-! Names, holds, ropes, systems: what is right (plain). -/
def bytes (s : ByteArray) : List UInt8 := s.data.toList
theorem bytes_len (s : ByteArray) : (bytes s).length = s.size := rfl
theorem bytes_get (s : ByteArray) (i : Nat) : s[i]? = (bytes s)[i]? := by
  by_cases h : i < s.size
  · rw [getElem?_pos s i h, List.getElem?_eq_getElem (show i < (bytes s).length from h)]
    rfl
  · rw [getElem?_neg s i h, List.getElem?_eq_none (show (bytes s).length ≤ i by rw [bytes_len]; omega)]
theorem empty_size (s : ByteArray) : decide (s = ⟨#[]⟩) = decide (s.size = 0) := by
  rw [Bool.eq_iff_iff]
  simp only [decide_eq_true_eq]
  constructor
  · rintro rfl; rfl
  · intro h
    cases s with
    | mk a => exact congrArg _ (Array.eq_empty_of_size_eq_zero h)
instance instLawfulNames : LawfulBEq ByteArray where
  eq_of_beq {a b} h := by rw [str_beq] at h; simpa using h
  rfl {a} := by rw [str_beq]; simp
def isL (c : Int) : Bool := (decide (97 ≤ c) && decide (c ≤ 122)) || (decide (65 ≤ c) && decide (c ≤ 90))
def isDg (c : Int) : Bool := decide (48 ≤ c) && decide (c ≤ 57)
def wordB (c : UInt8) : Bool := isL c.toNat || isDg c.toNat || ((c.toNat : Int) == 95)
def wordN (l : List UInt8) : Nat := (l.takeWhile wordB).length
def isNm (s : ByteArray) : Bool := decide (s.size ≠ 0) && decide (s.size ≤ 20) && (match bytes s with | c :: _ => isL c.toNat | [] => false) && decide (wordN (bytes s) = s.size)
theorem wordN_le (l : List UInt8) : wordN l ≤ l.length := by
  unfold wordN
  exact (List.takeWhile_sublist _).length_le
theorem wordN_step {l : List UInt8} {k : Nat} {c : UInt8} (h : l[k]? = some c) (hk : wordN l = k + wordN (l.drop k)) : wordN (l.drop k) = if wordB c = true then 1 + wordN (l.drop (k + 1)) else 0 := by
  obtain ⟨h1, h2⟩ := List.getElem?_eq_some_iff.1 h
  rw [List.drop_eq_getElem_cons h1, h2]
  unfold wordN
  rw [List.takeWhile_cons]
  split <;> simp
  omega
def findB (bs : List Bk) (nm : ByteArray) : Int := idx (fun b => decide (b.nm = nm)) bs 0
def findR (rs : List Rp) (nm : ByteArray) : Int := idx (fun r => decide (r.nm = nm)) rs 0
def lossy (n d : Int) : Bool := vfrac n d && decide (d ≤ n) && decide (n ≤ 100)
def okHold (bs : List Bk) (h : Hd) (e : Bool) : Bool :=
  (if e = true then (h.n == 1 && h.d == 1) else lossy h.n h.d) &&
  (if h.b = ⟨#[]⟩ then h.p == 0 else decide (0 ≤ findB bs h.b) && (if e = true then (h.p == 1 || h.p == -1) else (h.p == 2 || h.p == 0 || h.p == -2)))
def endH (n i : Nat) : Bool := i == 0 || i + 1 == n
def okHolds (bs : List Bk) (hs : List Hd) : Bool := (List.range hs.length).all fun i => match hs[i]? with | some h => okHold bs h (endH hs.length i) | none => true
def okRope (bs : List Bk) (r : Rp) : Bool := decide (2 ≤ r.hs.length ∧ r.hs.length ≤ 10) && okHolds bs r.hs && (!r.hl || (match r.hs.getLast? with | some h => decide (h.b = ⟨#[]⟩) | none => true))
def bNames (bs : List Bk) : List ByteArray := bs.map (·.nm)
def rNames (rs : List Rp) : List ByteArray := rs.map (·.nm)
def okB (bs : List Bk) (k : Nat) : Bool := match bs[k]? with | some b => isNm b.nm && !(bNames (bs.take k)).contains b.nm && decide (0 ≤ b.w ∧ b.w ≤ 16777216) | none => true
def okR (s : Sy) (k : Nat) : Bool := match s.rs[k]? with | some r => isNm r.nm && !(bNames s.bs ++ rNames (s.rs.take k)).contains r.nm && okRope s.bs r | none => true
def hauls (rs : List Rp) : Nat := (rs.filter (·.hl)).length
def okSize (s : Sy) : Bool := decide (1 ≤ s.bs.length ∧ s.bs.length ≤ 6) && decide (1 ≤ s.rs.length ∧ s.rs.length ≤ 6)
def validS (s : Sy) : Bool := okSize s && (List.range s.bs.length).all (okB s.bs) && (List.range s.rs.length).all (okR s) && decide (hauls s.rs ≤ 1)
theorem upto_all {p : Nat → Bool} {n : Nat} (h : ∀ k, k < n → p k = true) : (List.range n).all p = true := List.all_eq_true.2 fun x hx => h x (List.mem_range.1 hx)
theorem upto_not {p : Nat → Bool} {n k : Nat} (hk : k < n) (h : p k = false) : (List.range n).all p = false := by
  rw [← Bool.not_eq_true, List.all_eq_true]
  intro hh
  rw [hh k (List.mem_range.2 hk)] at h
  cases h
/-- The first place of a name. -/
theorem idx_first {α : Type} (p : α → Bool) : ∀ (l : List α) (n k : Nat) (x : α), l[k]? = some x → p x = true → ((l.take k).any p = false ↔ idx p l n = (n + k : Nat))
  | [], n, k, x, h, _ => by simp at h
  | y :: l, n, 0, x, h, hp => by simp at h; subst h; simp [idx, hp]
  | y :: l, n, k + 1, x, h, hp => by
    have ih := idx_first p l (n + 1) k x (by simpa using h) hp
    rw [List.take_succ_cons, List.any_cons]
    cases hy : p y
    · simp only [Bool.false_or, idx, hy, Bool.false_eq_true, if_false]
      rw [ih, show n + 1 + k = n + (k + 1) by omega]
    · simp only [Bool.true_or, idx, hy, if_true]
      constructor
      · intro h; cases h
      · intro h; exfalso; omega
theorem idx_lt {α : Type} (p : α → Bool) : ∀ (l : List α) (n : Nat), (l.any p = true → ∃ k x, idx p l n = (n + k : Nat) ∧ l[k]? = some x ∧ p x = true) ∧ (l.any p = false → idx p l n = -1)
  | [], n => by simp [idx]
  | y :: l, n => by
    obtain ⟨h1, h2⟩ := idx_lt p l (n + 1)
    rw [List.any_cons]
    cases hy : p y
    · simp only [Bool.false_or, idx, hy, Bool.false_eq_true, if_false]
      refine ⟨fun h => ?_, h2⟩
      obtain ⟨k, x, e, hk, hx⟩ := h1 h
      exact ⟨k + 1, x, by rw [e]; congr 1; omega, by simpa using hk, hx⟩
    · simp only [Bool.true_or, idx, hy, if_true]
      exact ⟨fun _ => ⟨0, y, by simp, rfl, hy⟩, fun h => by cases h⟩
end Go.Proofs.Ythabldkbiedfmaa.T
