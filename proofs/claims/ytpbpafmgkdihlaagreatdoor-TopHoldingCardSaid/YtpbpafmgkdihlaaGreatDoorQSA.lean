import Derived.Test.YtpbpafmgkdihlaaGreatDoorQTB
set_option linter.all false
namespace Go.Proofs.YtpbpafmgkdihlaaGreatDoor.T
open Go Go.RowKit
structure Hd where
 b : ByteArray
 p : Int
 n : Int
 d : Int
 deriving DecidableEq
structure Rp where
 nm : ByteArray
 hs : List Hd
 hl : Bool
 deriving DecidableEq
structure Bk where
 nm : ByteArray
 w : Int
 deriving DecidableEq
structure Sy where
 bs : List Bk
 rs : List Rp
 deriving DecidableEq
abbrev str (s : ByteArray) : D := .v (.string s)
theorem Y9l {α : Type} {f : α → List D} {n : Nat} (hn : ∀ x, (f x).length = n) : ∀ l : List α, (l.flatMap f).length = l.length * n
 | [] => by simp
 | x :: l => by simp only [List.flatMap_cons, List.length_append, hn, Y9l hn l, List.length_cons, Nat.add_mul]; omega
theorem Y7r {α : Type} {f : α → List D} {n : Nat} (hn : ∀ x, (f x).length = n) : ∀ (l : List α) (i : Nat) (x : α), l[i]? = some x → ((l.flatMap f).drop (i * n)).take n = f x
 | [], i, x, h => by simp at h
 | y :: l, 0, x, h => by
  simp at h; subst h
  rw [Nat.zero_mul, List.drop_zero, List.flatMap_cons, List.take_left' (hn _)]
 | y :: l, i + 1, x, h => by
  have := Y7r hn l i x (by simpa using h)
  have e : (i + 1) * n = (f y).length + i * n := by rw [hn, Nat.add_mul]; omega
  rw [e, List.flatMap_cons, List.drop_append, List.drop_eq_nil_of_le (by omega), List.nil_append, Nat.add_sub_cancel_left]
  exact this
theorem Y9k {α : Type} {f : α → List D} {n : Nat} (hn : ∀ x, (f x).length = n) : ∀ (l : List α) (i : Nat) (y : α), i < l.length → (l.flatMap f).take (i * n) ++ f y ++ (l.flatMap f).drop (i * n + n) = (l.set i y).flatMap f
 | [], i, y, h => by simp at h
 | x :: l, 0, y, h => by
  simp only [Nat.zero_mul, List.take_zero, List.nil_append, Nat.zero_add, List.set_cons_zero, List.flatMap_cons]
  rw [List.drop_append, List.drop_eq_nil_of_le (by rw [hn]; exact Nat.le_refl _), hn, Nat.sub_self]; simp
 | x :: l, i + 1, y, h => by
  have := Y9k hn l i y (by simpa using h)
  have e : (i + 1) * n = (f x).length + i * n := by rw [hn, Nat.add_mul]; omega
  rw [List.set_cons_succ, List.flatMap_cons, List.flatMap_cons, ← this, e, Nat.add_assoc, List.take_append, List.take_of_length_le (by omega), Nat.add_sub_cancel_left, List.drop_append, List.drop_eq_nil_of_le (by omega), List.nil_append, Nat.add_sub_cancel_left]
  simp
abbrev hd1 (x : Hd) : List D := [str x.b, int x.p, int x.n, int x.d]
def hdC (l : List Hd) : List D := l.flatMap hd1
abbrev hds (l : List Hd) : D := .sl 4 (hdC l) false
theorem Y3i (l : List Hd) : (hdC l).length = l.length * 4 := Y9l (f := hd1) (n := 4) (fun _ => rfl) l
theorem Y4v (l : List Hd) : (hdC l).length / 4 = l.length := by rw [Y3i]; omega
theorem Y4m (l : List Hd) (i : Nat) (x : Hd) (h : l[i]? = some x) : ((hdC l).drop (i * 4)).take 4 = hd1 x := Y7r (f := hd1) (n := 4) (fun _ => rfl) l i x h
theorem Ytb (l : List Hd) (i : Nat) (x : Hd) (h : l[i]? = some x) (j : Nat) (hj : j < 4) : (hdC l)[i * 4 + j]? = (hd1 x)[j]? := by
 rw [← Y4m l i x h, List.getElem?_take, if_pos hj, List.getElem?_drop]
theorem Ydv (l : List Hd) (i : Nat) (x : Hd) (h : l[i]? = some x) : (hdC l)[i * 4]? = some (str x.b) := Ytb l i x h 0 (by decide)
theorem Yx2 (l : List Hd) (i : Nat) (y : Hd) (h : i < l.length) : (hdC l).take (i * 4) ++ hd1 y ++ (hdC l).drop (i * 4 + 4) = hdC (l.set i y) := Y9k (f := hd1) (n := 4) (fun _ => rfl) l i y h
abbrev rp1 (x : Rp) : List D := [str x.nm, hds x.hs, bool x.hl]
def rpC (l : List Rp) : List D := l.flatMap rp1
abbrev rps (l : List Rp) : D := .sl 3 (rpC l) false
theorem Y28 (l : List Rp) : (rpC l).length = l.length * 3 := Y9l (f := rp1) (n := 3) (fun _ => rfl) l
theorem Y1q (l : List Rp) : (rpC l).length / 3 = l.length := by rw [Y28]; omega
theorem Y2z (l : List Rp) (i : Nat) (x : Rp) (h : l[i]? = some x) : ((rpC l).drop (i * 3)).take 3 = rp1 x := Y7r (f := rp1) (n := 3) (fun _ => rfl) l i x h
theorem Y9a (l : List Rp) (i : Nat) (x : Rp) (h : l[i]? = some x) (j : Nat) (hj : j < 3) : (rpC l)[i * 3 + j]? = (rp1 x)[j]? := by
 rw [← Y2z l i x h, List.getElem?_take, if_pos hj, List.getElem?_drop]
theorem Yje (l : List Rp) (i : Nat) (x : Rp) (h : l[i]? = some x) : (rpC l)[i * 3]? = some (str x.nm) := Y9a l i x h 0 (by decide)
theorem Ywf (l : List Rp) (i : Nat) (y : Rp) (h : i < l.length) : (rpC l).take (i * 3) ++ rp1 y ++ (rpC l).drop (i * 3 + 3) = rpC (l.set i y) := Y9k (f := rp1) (n := 3) (fun _ => rfl) l i y h
abbrev bk1 (x : Bk) : List D := [str x.nm, int x.w]
def bkC (l : List Bk) : List D := l.flatMap bk1
abbrev bks (l : List Bk) : D := .sl 2 (bkC l) false
theorem Y1z (l : List Bk) : (bkC l).length = l.length * 2 := Y9l (f := bk1) (n := 2) (fun _ => rfl) l
theorem Y2p (l : List Bk) : (bkC l).length / 2 = l.length := by rw [Y1z]; omega
theorem Y4r (l : List Bk) (i : Nat) (x : Bk) (h : l[i]? = some x) : ((bkC l).drop (i * 2)).take 2 = bk1 x := Y7r (f := bk1) (n := 2) (fun _ => rfl) l i x h
theorem Yek (l : List Bk) (i : Nat) (x : Bk) (h : l[i]? = some x) (j : Nat) (hj : j < 2) : (bkC l)[i * 2 + j]? = (bk1 x)[j]? := by
 rw [← Y4r l i x h, List.getElem?_take, if_pos hj, List.getElem?_drop]
theorem Yej (l : List Bk) (i : Nat) (x : Bk) (h : l[i]? = some x) : (bkC l)[i * 2]? = some (str x.nm) := Yek l i x h 0 (by decide)
theorem Yxq (l : List Bk) (i : Nat) (y : Bk) (h : i < l.length) : (bkC l).take (i * 2) ++ bk1 y ++ (bkC l).drop (i * 2 + 2) = bkC (l.set i y) := Y9k (f := bk1) (n := 2) (fun _ => rfl) l i y h
abbrev syD (s : Sy) : D := .agg [bks s.bs, rps s.rs]
theorem Y67 : ∀ (a b : List D), Y11 (a ++ b) = (Y11 a && Y11 b)
 | [], b => by simp [Y11]
 | d :: a, b => by simp [Y11, Y67 a b, Bool.and_assoc]
theorem Y9d : ∀ l : List Hd, Y11 (hdC l) = true
 | [] => rfl
 | x :: l => by have := Y9d l; simp only [hdC, List.flatMap_cons, Y67, Y11, Y17, Bool.true_and] at this ⊢; exact this
theorem Y55 : ∀ l : List Bk, Y11 (bkC l) = true
 | [] => rfl
 | x :: l => by have := Y55 l; simp only [bkC, List.flatMap_cons, Y67, Y11, Y17, Bool.true_and] at this ⊢; exact this
theorem Y7h : ∀ l : List Rp, Y11 (rpC l) = true
 | [] => rfl
 | x :: l => by have := Y7h l; have h := Y9d x.hs; simp only [rpC, List.flatMap_cons, Y67, Y11, Y17, Bool.true_and, Bool.and_true, h] at this ⊢; exact this
mutual
theorem Ytq (b g : Nat) (cs : List D) : ∀ d : D, Y17 d = true → fz b g cs d = d
 | .v x, _ => by simp only [fz]
 | .sl sz ds full, h => by simp only [Y17] at h; simp only [fz, Y34 b g cs ds h]
 | .rp ds o, h => by simp only [Y17] at h; simp only [fz, Y34 b g cs ds h]
 | .own .., h => by simp [Y17] at h
 | .ptr .., h => by simp [Y17] at h
 | .agg ds, h => by simp only [Y17] at h; simp only [fz, Y34 b g cs ds h]
 | .tup ds, h => by simp only [Y17] at h; simp only [fz, Y34 b g cs ds h]
 | .fn f ds, h => by simp only [Y17] at h; simp only [fz, Y34 b g cs ds h]
 | .mp .., h => by simp [Y17] at h
 | .any, _ => by simp only [fz]
theorem Y34 (b g : Nat) (cs : List D) : ∀ ds : List D, Y11 ds = true → fzL b g cs ds = ds
 | [], _ => by simp only [fzL]
 | d :: ds, h => by
  simp only [Y11, Bool.and_eq_true] at h
  simp only [fzL, Ytq b g cs d h.1, Y34 b g cs ds h.2]
end
theorem Yly (b g : Nat) (cs : List D) (l : List Hd) : fzL b g cs (hdC l) = hdC l := Y34 b g cs _ (Y9d l)
theorem Y5g (b g : Nat) (cs : List D) (l : List Rp) : fzL b g cs (rpC l) = rpC l := Y34 b g cs _ (Y7h l)
theorem Y5h (b g : Nat) (cs : List D) (l : List Bk) : fzL b g cs (bkC l) = bkC l := Y34 b g cs _ (Y55 l)
end Go.Proofs.YtpbpafmgkdihlaaGreatDoor.T
