import Derived.Test.YtpcakodemleoiaaGreatHTB
set_option linter.all false
namespace Go.Proofs.YtpcakodemleoiaaGreat.T
open Go Go.RowKit
structure Hd where
 b : ByteArray
 p : Int
 n : Int
 d : Int
 deriving DecidableEq
structure Rp where
 nm : ByteArray
 hs : List Hd
 hl : Bool
 deriving DecidableEq
structure Bk where
 nm : ByteArray
 w : Int
 deriving DecidableEq
structure Sy where
 bs : List Bk
 rs : List Rp
 deriving DecidableEq
abbrev str (s : ByteArray) : D := .v (.string s)
theorem Y72 {α : Type} {f : α → List D} {n : Nat} (hn : ∀ x, (f x).length = n) : ∀ l : List α, (l.flatMap f).length = l.length * n
 | [] => by simp
 | x :: l => by simp only [List.flatMap_cons, List.length_append, hn, Y72 hn l, List.length_cons, Nat.add_mul]; omega
theorem Y5u {α : Type} {f : α → List D} {n : Nat} (hn : ∀ x, (f x).length = n) : ∀ (l : List α) (i : Nat) (x : α), l[i]? = some x → ((l.flatMap f).drop (i * n)).take n = f x
 | [], i, x, h => by simp at h
 | y :: l, 0, x, h => by
  simp at h; subst h
  rw [Nat.zero_mul, List.drop_zero, List.flatMap_cons, List.take_left' (hn _)]
 | y :: l, i + 1, x, h => by
  have := Y5u hn l i x (by simpa using h)
  have e : (i + 1) * n = (f y).length + i * n := by rw [hn, Nat.add_mul]; omega
  rw [e, List.flatMap_cons, List.drop_append, List.drop_eq_nil_of_le (by omega), List.nil_append, Nat.add_sub_cancel_left]
  exact this
theorem Yas {α : Type} {f : α → List D} {n : Nat} (hn : ∀ x, (f x).length = n) : ∀ (l : List α) (i : Nat) (y : α), i < l.length → (l.flatMap f).take (i * n) ++ f y ++ (l.flatMap f).drop (i * n + n) = (l.set i y).flatMap f
 | [], i, y, h => by simp at h
 | x :: l, 0, y, h => by
  simp only [Nat.zero_mul, List.take_zero, List.nil_append, Nat.zero_add, List.set_cons_zero, List.flatMap_cons]
  rw [List.drop_append, List.drop_eq_nil_of_le (by rw [hn]; exact Nat.le_refl _), hn, Nat.sub_self]; simp
 | x :: l, i + 1, y, h => by
  have := Yas hn l i y (by simpa using h)
  have e : (i + 1) * n = (f x).length + i * n := by rw [hn, Nat.add_mul]; omega
  rw [List.set_cons_succ, List.flatMap_cons, List.flatMap_cons, ← this, e, Nat.add_assoc, List.take_append, List.take_of_length_le (by omega), Nat.add_sub_cancel_left, List.drop_append, List.drop_eq_nil_of_le (by omega), List.nil_append, Nat.add_sub_cancel_left]
  simp
abbrev hd1 (x : Hd) : List D := [str x.b, int x.p, int x.n, int x.d]
def hdC (l : List Hd) : List D := l.flatMap hd1
abbrev hds (l : List Hd) : D := .sl 4 (hdC l) false
theorem Y29 (l : List Hd) : (hdC l).length = l.length * 4 := Y72 (f := hd1) (n := 4) (fun _ => rfl) l
theorem Y2a (l : List Hd) : (hdC l).length / 4 = l.length := by rw [Y29]; omega
theorem Y28 (l : List Hd) (i : Nat) (x : Hd) (h : l[i]? = some x) : ((hdC l).drop (i * 4)).take 4 = hd1 x := Y5u (f := hd1) (n := 4) (fun _ => rfl) l i x h
theorem Ye1 (l : List Hd) (i : Nat) (x : Hd) (h : l[i]? = some x) (j : Nat) (hj : j < 4) : (hdC l)[i * 4 + j]? = (hd1 x)[j]? := by
 rw [← Y28 l i x h, List.getElem?_take, if_pos hj, List.getElem?_drop]
theorem Y70 (l : List Hd) (i : Nat) (x : Hd) (h : l[i]? = some x) : (hdC l)[i * 4]? = some (str x.b) := Ye1 l i x h 0 (by decide)
theorem hdC_set (l : List Hd) (i : Nat) (y : Hd) (h : i < l.length) : (hdC l).take (i * 4) ++ hd1 y ++ (hdC l).drop (i * 4 + 4) = hdC (l.set i y) := Yas (f := hd1) (n := 4) (fun _ => rfl) l i y h
abbrev rp1 (x : Rp) : List D := [str x.nm, hds x.hs, bool x.hl]
def rpC (l : List Rp) : List D := l.flatMap rp1
abbrev rps (l : List Rp) : D := .sl 3 (rpC l) false
theorem Y23 (l : List Rp) : (rpC l).length = l.length * 3 := Y72 (f := rp1) (n := 3) (fun _ => rfl) l
theorem Y1l (l : List Rp) : (rpC l).length / 3 = l.length := by rw [Y23]; omega
theorem Y1s (l : List Rp) (i : Nat) (x : Rp) (h : l[i]? = some x) : ((rpC l).drop (i * 3)).take 3 = rp1 x := Y5u (f := rp1) (n := 3) (fun _ => rfl) l i x h
theorem Y4c (l : List Rp) (i : Nat) (x : Rp) (h : l[i]? = some x) (j : Nat) (hj : j < 3) : (rpC l)[i * 3 + j]? = (rp1 x)[j]? := by
 rw [← Y1s l i x h, List.getElem?_take, if_pos hj, List.getElem?_drop]
theorem Ydg (l : List Rp) (i : Nat) (x : Rp) (h : l[i]? = some x) : (rpC l)[i * 3]? = some (str x.nm) := Y4c l i x h 0 (by decide)
theorem rpC_set (l : List Rp) (i : Nat) (y : Rp) (h : i < l.length) : (rpC l).take (i * 3) ++ rp1 y ++ (rpC l).drop (i * 3 + 3) = rpC (l.set i y) := Yas (f := rp1) (n := 3) (fun _ => rfl) l i y h
abbrev bk1 (x : Bk) : List D := [str x.nm, int x.w]
def bkC (l : List Bk) : List D := l.flatMap bk1
abbrev bks (l : List Bk) : D := .sl 2 (bkC l) false
theorem Y2w (l : List Bk) : (bkC l).length = l.length * 2 := Y72 (f := bk1) (n := 2) (fun _ => rfl) l
theorem Y2k (l : List Bk) : (bkC l).length / 2 = l.length := by rw [Y2w]; omega
theorem Y4m (l : List Bk) (i : Nat) (x : Bk) (h : l[i]? = some x) : ((bkC l).drop (i * 2)).take 2 = bk1 x := Y5u (f := bk1) (n := 2) (fun _ => rfl) l i x h
theorem Yei (l : List Bk) (i : Nat) (x : Bk) (h : l[i]? = some x) (j : Nat) (hj : j < 2) : (bkC l)[i * 2 + j]? = (bk1 x)[j]? := by
 rw [← Y4m l i x h, List.getElem?_take, if_pos hj, List.getElem?_drop]
theorem Y75 (l : List Bk) (i : Nat) (x : Bk) (h : l[i]? = some x) : (bkC l)[i * 2]? = some (str x.nm) := Yei l i x h 0 (by decide)
abbrev syD (s : Sy) : D := .agg [bks s.bs, rps s.rs]
theorem Y4g : ∀ (a b : List D), Y0q (a ++ b) = (Y0q a && Y0q b)
 | [], b => by simp [Y0q]
 | d :: a, b => by simp [Y0q, Y4g a b, Bool.and_assoc]
theorem Y6w : ∀ l : List Hd, Y0q (hdC l) = true
 | [] => rfl
 | x :: l => by have := Y6w l; simp only [hdC, List.flatMap_cons, Y4g, Y0q, Y0z, Bool.true_and] at this ⊢; exact this
theorem Y4f : ∀ l : List Bk, Y0q (bkC l) = true
 | [] => rfl
 | x :: l => by have := Y4f l; simp only [bkC, List.flatMap_cons, Y4g, Y0q, Y0z, Bool.true_and] at this ⊢; exact this
theorem Y5j : ∀ l : List Rp, Y0q (rpC l) = true
 | [] => rfl
 | x :: l => by have := Y5j l; have h := Y6w x.hs; simp only [rpC, List.flatMap_cons, Y4g, Y0q, Y0z, Bool.true_and, Bool.and_true, h] at this ⊢; exact this
mutual
theorem fz_plain (b g : Nat) (cs : List D) : ∀ d : D, Y0z d = true → fz b g cs d = d
 | .v x, _ => by simp only [fz]
 | .sl sz ds full, h => by simp only [Y0z] at h; simp only [fz, Y2d b g cs ds h]
 | .rp ds o, h => by simp only [Y0z] at h; simp only [fz, Y2d b g cs ds h]
 | .own .., h => by simp [Y0z] at h
 | .ptr .., h => by simp [Y0z] at h
 | .agg ds, h => by simp only [Y0z] at h; simp only [fz, Y2d b g cs ds h]
 | .tup ds, h => by simp only [Y0z] at h; simp only [fz, Y2d b g cs ds h]
 | .fn f ds, h => by simp only [Y0z] at h; simp only [fz, Y2d b g cs ds h]
 | .mp .., h => by simp [Y0z] at h
 | .any, _ => by simp only [fz]
theorem Y2d (b g : Nat) (cs : List D) : ∀ ds : List D, Y0q ds = true → fzL b g cs ds = ds
 | [], _ => by simp only [fzL]
 | d :: ds, h => by
  simp only [Y0q, Bool.and_eq_true] at h
  simp only [fzL, fz_plain b g cs d h.1, Y2d b g cs ds h.2]
end
theorem fz_hd (b g : Nat) (cs : List D) (l : List Hd) : fzL b g cs (hdC l) = hdC l := Y2d b g cs _ (Y6w l)
theorem fz_rp (b g : Nat) (cs : List D) (l : List Rp) : fzL b g cs (rpC l) = rpC l := Y2d b g cs _ (Y5j l)
theorem fz_bk (b g : Nat) (cs : List D) (l : List Bk) : fzL b g cs (bkC l) = bkC l := Y2d b g cs _ (Y4f l)
end Go.Proofs.YtpcakodemleoiaaGreat.T

