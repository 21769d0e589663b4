import Derived.Test.YtcppnmohgaobdaaGreatRTB
set_option linter.all false
namespace Go.Proofs.YtcppnmohgaobdaaGreat.T
open Go Go.RowKit
structure Hd where
  b : ByteArray
  p : Int
  n : Int
  d : Int
  deriving DecidableEq
structure Rp where
  nm : ByteArray
  hs : List Hd
  hl : Bool
  deriving DecidableEq
structure Bk where
  nm : ByteArray
  w : Int
  deriving DecidableEq
structure Sy where
  bs : List Bk
  rs : List Rp
  deriving DecidableEq
abbrev str (s : ByteArray) : D := .v (.string s)
theorem flat_len {α : Type} {f : α → List D} {n : Nat} (hn : ∀ x, (f x).length = n) : ∀ l : List α, (l.flatMap f).length = l.length * n
  | [] => by simp
  | x :: l => by simp only [List.flatMap_cons, List.length_append, hn, flat_len hn l, List.length_cons, Nat.add_mul]; omega
theorem flat_read {α : Type} {f : α → List D} {n : Nat} (hn : ∀ x, (f x).length = n) : ∀ (l : List α) (i : Nat) (x : α), l[i]? = some x → ((l.flatMap f).drop (i * n)).take n = f x
  | [], i, x, h => by simp at h
  | y :: l, 0, x, h => by
    simp at h; subst h
    rw [Nat.zero_mul, List.drop_zero, List.flatMap_cons, List.take_left' (hn _)]
  | y :: l, i + 1, x, h => by
    have := flat_read hn l i x (by simpa using h)
    have e : (i + 1) * n = (f y).length + i * n := by rw [hn, Nat.add_mul]; omega
    rw [e, List.flatMap_cons, List.drop_append, List.drop_eq_nil_of_le (by omega), List.nil_append, Nat.add_sub_cancel_left]
    exact this
theorem flat_set {α : Type} {f : α → List D} {n : Nat} (hn : ∀ x, (f x).length = n) : ∀ (l : List α) (i : Nat) (y : α), i < l.length → (l.flatMap f).take (i * n) ++ f y ++ (l.flatMap f).drop (i * n + n) = (l.set i y).flatMap f
  | [], i, y, h => by simp at h
  | x :: l, 0, y, h => by
    simp only [Nat.zero_mul, List.take_zero, List.nil_append, Nat.zero_add, List.set_cons_zero, List.flatMap_cons]
    rw [List.drop_append, List.drop_eq_nil_of_le (by rw [hn]; exact Nat.le_refl _), hn, Nat.sub_self]; simp
  | x :: l, i + 1, y, h => by
    have := flat_set hn l i y (by simpa using h)
    have e : (i + 1) * n = (f x).length + i * n := by rw [hn, Nat.add_mul]; omega
    rw [List.set_cons_succ, List.flatMap_cons, List.flatMap_cons, ← this, e, Nat.add_assoc, List.take_append, List.take_of_length_le (by omega), Nat.add_sub_cancel_left, List.drop_append, List.drop_eq_nil_of_le (by omega), List.nil_append, Nat.add_sub_cancel_left]
    simp
abbrev hd1 (x : Hd) : List D := [str x.b, int x.p, int x.n, int x.d]
def hdC (l : List Hd) : List D := l.flatMap hd1
abbrev hds (l : List Hd) : D := .sl 4 (hdC l) false
theorem hdC_len (l : List Hd) : (hdC l).length = l.length * 4 := flat_len (f := hd1) (n := 4) (fun _ => rfl) l
theorem hdC_div (l : List Hd) : (hdC l).length / 4 = l.length := by rw [hdC_len]; omega
theorem hdC_read (l : List Hd) (i : Nat) (x : Hd) (h : l[i]? = some x) : ((hdC l).drop (i * 4)).take 4 = hd1 x := flat_read (f := hd1) (n := 4) (fun _ => rfl) l i x h
theorem hdC_cell (l : List Hd) (i : Nat) (x : Hd) (h : l[i]? = some x) (j : Nat) (hj : j < 4) : (hdC l)[i * 4 + j]? = (hd1 x)[j]? := by
  rw [← hdC_read l i x h, List.getElem?_take, if_pos hj, List.getElem?_drop]
theorem hdC_name (l : List Hd) (i : Nat) (x : Hd) (h : l[i]? = some x) : (hdC l)[i * 4]? = some (str x.b) := hdC_cell l i x h 0 (by decide)
theorem hdC_set (l : List Hd) (i : Nat) (y : Hd) (h : i < l.length) : (hdC l).take (i * 4) ++ hd1 y ++ (hdC l).drop (i * 4 + 4) = hdC (l.set i y) := flat_set (f := hd1) (n := 4) (fun _ => rfl) l i y h
abbrev rp1 (x : Rp) : List D := [str x.nm, hds x.hs, bool x.hl]
def rpC (l : List Rp) : List D := l.flatMap rp1
abbrev rps (l : List Rp) : D := .sl 3 (rpC l) false
theorem rpC_len (l : List Rp) : (rpC l).length = l.length * 3 := flat_len (f := rp1) (n := 3) (fun _ => rfl) l
theorem rpC_div (l : List Rp) : (rpC l).length / 3 = l.length := by rw [rpC_len]; omega
theorem rpC_read (l : List Rp) (i : Nat) (x : Rp) (h : l[i]? = some x) : ((rpC l).drop (i * 3)).take 3 = rp1 x := flat_read (f := rp1) (n := 3) (fun _ => rfl) l i x h
theorem rpC_cell (l : List Rp) (i : Nat) (x : Rp) (h : l[i]? = some x) (j : Nat) (hj : j < 3) : (rpC l)[i * 3 + j]? = (rp1 x)[j]? := by
  rw [← rpC_read l i x h, List.getElem?_take, if_pos hj, List.getElem?_drop]
theorem rpC_name (l : List Rp) (i : Nat) (x : Rp) (h : l[i]? = some x) : (rpC l)[i * 3]? = some (str x.nm) := rpC_cell l i x h 0 (by decide)
theorem rpC_set (l : List Rp) (i : Nat) (y : Rp) (h : i < l.length) : (rpC l).take (i * 3) ++ rp1 y ++ (rpC l).drop (i * 3 + 3) = rpC (l.set i y) := flat_set (f := rp1) (n := 3) (fun _ => rfl) l i y h
abbrev bk1 (x : Bk) : List D := [str x.nm, int x.w]
def bkC (l : List Bk) : List D := l.flatMap bk1
abbrev bks (l : List Bk) : D := .sl 2 (bkC l) false
theorem bkC_len (l : List Bk) : (bkC l).length = l.length * 2 := flat_len (f := bk1) (n := 2) (fun _ => rfl) l
theorem bkC_div (l : List Bk) : (bkC l).length / 2 = l.length := by rw [bkC_len]; omega
theorem bkC_read (l : List Bk) (i : Nat) (x : Bk) (h : l[i]? = some x) : ((bkC l).drop (i * 2)).take 2 = bk1 x := flat_read (f := bk1) (n := 2) (fun _ => rfl) l i x h
theorem bkC_cell (l : List Bk) (i : Nat) (x : Bk) (h : l[i]? = some x) (j : Nat) (hj : j < 2) : (bkC l)[i * 2 + j]? = (bk1 x)[j]? := by
  rw [← bkC_read l i x h, List.getElem?_take, if_pos hj, List.getElem?_drop]
theorem bkC_name (l : List Bk) (i : Nat) (x : Bk) (h : l[i]? = some x) : (bkC l)[i * 2]? = some (str x.nm) := bkC_cell l i x h 0 (by decide)
abbrev syD (s : Sy) : D := .agg [bks s.bs, rps s.rs]
theorem plainL_app : ∀ (a b : List D), plainL (a ++ b) = (plainL a && plainL b)
  | [], b => by simp [plainL]
  | d :: a, b => by simp [plainL, plainL_app a b, Bool.and_assoc]
theorem plain_hd : ∀ l : List Hd, plainL (hdC l) = true
  | [] => rfl
  | x :: l => by have := plain_hd l; simp only [hdC, List.flatMap_cons, plainL_app, plainL, plainD, Bool.true_and] at this ⊢; exact this
theorem plain_bk : ∀ l : List Bk, plainL (bkC l) = true
  | [] => rfl
  | x :: l => by have := plain_bk l; simp only [bkC, List.flatMap_cons, plainL_app, plainL, plainD, Bool.true_and] at this ⊢; exact this
theorem plain_rp : ∀ l : List Rp, plainL (rpC l) = true
  | [] => rfl
  | x :: l => by have := plain_rp l; have h := plain_hd x.hs; simp only [rpC, List.flatMap_cons, plainL_app, plainL, plainD, Bool.true_and, Bool.and_true, h] at this ⊢; exact this
mutual
theorem fz_plain (b g : Nat) (cs : List D) : ∀ d : D, plainD d = true → fz b g cs d = d
  | .v x, _ => by simp only [fz]
  | .sl sz ds full, h => by simp only [plainD] at h; simp only [fz, fzL_plain b g cs ds h]
  | .rp ds o, h => by simp only [plainD] at h; simp only [fz, fzL_plain b g cs ds h]
  | .own .., h => by simp [plainD] at h
  | .ptr .., h => by simp [plainD] at h
  | .agg ds, h => by simp only [plainD] at h; simp only [fz, fzL_plain b g cs ds h]
  | .tup ds, h => by simp only [plainD] at h; simp only [fz, fzL_plain b g cs ds h]
  | .fn f ds, h => by simp only [plainD] at h; simp only [fz, fzL_plain b g cs ds h]
  | .mp .., h => by simp [plainD] at h
  | .any, _ => by simp only [fz]
theorem fzL_plain (b g : Nat) (cs : List D) : ∀ ds : List D, plainL ds = true → fzL b g cs ds = ds
  | [], _ => by simp only [fzL]
  | d :: ds, h => by
    simp only [plainL, Bool.and_eq_true] at h
    simp only [fzL, fz_plain b g cs d h.1, fzL_plain b g cs ds h.2]
end
theorem fz_hd (b g : Nat) (cs : List D) (l : List Hd) : fzL b g cs (hdC l) = hdC l := fzL_plain b g cs _ (plain_hd l)
theorem fz_rp (b g : Nat) (cs : List D) (l : List Rp) : fzL b g cs (rpC l) = rpC l := fzL_plain b g cs _ (plain_rp l)
theorem fz_bk (b g : Nat) (cs : List D) (l : List Bk) : fzL b g cs (bkC l) = bkC l := fzL_plain b g cs _ (plain_bk l)
end Go.Proofs.YtcppnmohgaobdaaGreat.T

