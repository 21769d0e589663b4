import Derived.Test.YtpbpafmgkdihlaaGreatDoorQSA
import Derived.Test.YtpbpafmgkdihlaaGreatDoorQWA
import Derived.Test.YtpbpafmgkdihlaaGreatDoorQRatioA
set_option linter.all false
namespace Go.Proofs.YtpbpafmgkdihlaaGreatDoor.T
open Go Go.RowKit
def bytes (s : ByteArray) : List UInt8 := s.data.toList
theorem Y60 (s : ByteArray) : (bytes s).length = s.size := rfl
theorem Y80 (s : ByteArray) (i : Nat) : s[i]? = (bytes s)[i]? := by
 by_cases h : i < s.size
 ·rw [getElem?_pos s i h, List.getElem?_eq_getElem (show i < (bytes s).length from h)]
  rfl
 ·rw [getElem?_neg s i h, List.getElem?_eq_none (show (bytes s).length ≤ i by rw [Y60]; omega)]
theorem Yck (s : ByteArray) : decide (s = ⟨#[]⟩) = decide (s.size = 0) := by
 rw [Bool.eq_iff_iff]
 simp only [decide_eq_true_eq]
 constructor
 ·rintro rfl; rfl
 ·intro h
  cases s with
  | mk a => exact congrArg _ (Array.eq_empty_of_size_eq_zero h)
instance instLawfulNames : LawfulBEq ByteArray where
 eq_of_beq {a b} h := by rw [Yd6] at h; simpa using h
 rfl {a} := by rw [Yd6]; simp
def isL (c : Int) : Bool := (decide (97 ≤ c) && decide (c ≤ 122)) || (decide (65 ≤ c) && decide (c ≤ 90))
def isDg (c : Int) : Bool := decide (48 ≤ c) && decide (c ≤ 57)
def Y5f (c : UInt8) : Bool := isL c.toNat || isDg c.toNat || ((c.toNat : Int) == 95)
def Y4x (l : List UInt8) : Nat := (l.takeWhile Y5f).length
def isNm (s : ByteArray) : Bool := decide (s.size ≠ 0) && decide (s.size ≤ 20) && (match bytes s with | c :: _ => isL c.toNat | [] => false) && decide (Y4x (bytes s) = s.size)
theorem Ybj {l : List UInt8} {k : Nat} {c : UInt8} (h : l[k]? = some c) (hk : Y4x l = k + Y4x (l.drop k)) : Y4x (l.drop k) = if Y5f c = true then 1 + Y4x (l.drop (k + 1)) else 0 := by
 obtain ⟨h1, h2⟩ := List.getElem?_eq_some_iff.1 h
 rw [List.drop_eq_getElem_cons h1, h2]
 unfold Y4x
 rw [List.takeWhile_cons]
 split <;> simp
 omega
def Y1k (bs : List Bk) (nm : ByteArray) : Int := idx (fun b => decide (b.nm = nm)) bs 0
def Ytv (rs : List Rp) (nm : ByteArray) : Int := idx (fun r => decide (r.nm = nm)) rs 0
def Y3h (n d : Int) : Bool := Y09 n d && decide (d ≤ n) && decide (n ≤ 100)
def Y0q (bs : List Bk) (h : Hd) (e : Bool) : Bool :=
 (if e = true then (h.n == 1 && h.d == 1) else Y3h h.n h.d) &&
 (if h.b = ⟨#[]⟩ then h.p == 0 else decide (0 ≤ Y1k bs h.b) && (if e = true then (h.p == 1 || h.p == -1) else (h.p == 2 || h.p == 0 || h.p == -2)))
def endH (n i : Nat) : Bool := i == 0 || i + 1 == n
def Y21 (bs : List Bk) (hs : List Hd) : Bool := (List.range hs.length).all fun i => match hs[i]? with | some h => Y0q bs h (endH hs.length i) | none => true
def Y1g (bs : List Bk) (r : Rp) : Bool := decide (2 ≤ r.hs.length ∧ r.hs.length ≤ 10) && Y21 bs r.hs && (!r.hl || (match r.hs.getLast? with | some h => decide (h.b = ⟨#[]⟩) | none => true))
def Y0l (bs : List Bk) : List ByteArray := bs.map (·.nm)
def Y18 (rs : List Rp) : List ByteArray := rs.map (·.nm)
def okB (bs : List Bk) (k : Nat) : Bool := match bs[k]? with | some b => isNm b.nm && !(Y0l (bs.take k)).contains b.nm && decide (0 ≤ b.w ∧ b.w ≤ 16777216) | none => true
def okR (s : Sy) (k : Nat) : Bool := match s.rs[k]? with | some r => isNm r.nm && !(Y0l s.bs ++ Y18 (s.rs.take k)).contains r.nm && Y1g s.bs r | none => true
def Y3v (rs : List Rp) : Nat := (rs.filter (·.hl)).length
def Y4f (s : Sy) : Bool := decide (1 ≤ s.bs.length ∧ s.bs.length ≤ 6) && decide (1 ≤ s.rs.length ∧ s.rs.length ≤ 6)
def Y0g (s : Sy) : Bool := Y4f s && (List.range s.bs.length).all (okB s.bs) && (List.range s.rs.length).all (okR s) && decide (Y3v s.rs ≤ 1)
theorem Yd1 {p : Nat → Bool} {n : Nat} (h : ∀ k, k < n → p k = true) : (List.range n).all p = true := List.all_eq_true.2 fun x hx => h x (List.mem_range.1 hx)
theorem Yd0 {p : Nat → Bool} {n k : Nat} (hk : k < n) (h : p k = false) : (List.range n).all p = false := by
 rw [← Bool.not_eq_true, List.all_eq_true]
 intro hh
 rw [hh k (List.mem_range.2 hk)] at h
 cases h
theorem Yg3 {α : Type} (p : α → Bool) : ∀ (l : List α) (n k : Nat) (x : α), l[k]? = some x → p x = true → ((l.take k).any p = false ↔ idx p l n = (n + k : Nat))
 | [], n, k, x, h, _ => by simp at h
 | y :: l, n, 0, x, h, hp => by simp at h; subst h; simp [idx, hp]
 | y :: l, n, k + 1, x, h, hp => by
  have ih := Yg3 p l (n + 1) k x (by simpa using h) hp
  rw [List.take_succ_cons, List.any_cons]
  cases hy : p y
  ·simp only [Bool.false_or, idx, hy, Bool.false_eq_true, if_false]
   rw [ih, show n + 1 + k = n + (k + 1) by omega]
  ·simp only [Bool.true_or, idx, hy, if_true]
   constructor
   ·intro h; cases h
   ·intro h; exfalso; omega
theorem Y8x {α : Type} (p : α → Bool) : ∀ (l : List α) (n : Nat), (l.any p = true → ∃ k x, idx p l n = (n + k : Nat) ∧ l[k]? = some x ∧ p x = true) ∧ (l.any p = false → idx p l n = -1)
 | [], n => by simp [idx]
 | y :: l, n => by
  obtain ⟨h1, h2⟩ := Y8x p l (n + 1)
  rw [List.any_cons]
  cases hy : p y
  ·simp only [Bool.false_or, idx, hy, Bool.false_eq_true, if_false]
   refine ⟨fun h => ?_, h2⟩
   obtain ⟨k, x, e, hk, hx⟩ := h1 h
   exact ⟨k + 1, x, by rw [e]; congr 1; omega, by simpa using hk, hx⟩
  ·simp only [Bool.true_or, idx, hy, if_true]
   exact ⟨fun _ => ⟨0, y, by simp, rfl, hy⟩, fun h => by cases h⟩
theorem Yc7 (c : Int) : PRet Tryz.prog 63 [.v (.int .u8 c)] (bool (isL c)) := by
 refine pri 1 Tryz.func63 Tryz.ntmps63 fun t => ?_
 simp only [Y04]
 by_cases h1 : 97 ≤ c <;> by_cases h2 : c ≤ 122 <;> by_cases h3 : 65 ≤ c <;> by_cases h4 : c ≤ 90 <;>
 ·((refine ggb0 (F := _∧_∧_∧_) ⟨h1, h2, h3, h4⟩ ?_))
  ((repeat refine Y00 ?_); (refine wta ?_); simp (disch := omega) only [retQ, resD, oneD, rsv, rs, rsL, Y0a, List.map_map, bb, bt, zDs, zD, Y01, simprocAttr, Tryz.results63, isL, h1, h2, h3, h4, Bool.or_true, Bool.or_false, Bool.or_self])
theorem Yc8 (c : Int) : PRet Tryz.prog 119 [.v (.int .u8 c)] (bool (isL c)) := by
 refine pri 1 Tryz.func119 Tryz.ntmps119 fun t => ?_
 simp only [Y04]
 by_cases h1 : 97 ≤ c <;> by_cases h2 : c ≤ 122 <;> by_cases h3 : 65 ≤ c <;> by_cases h4 : c ≤ 90 <;>
 ·((refine ggb0 (F := _∧_∧_∧_) ⟨h1, h2, h3, h4⟩ ?_))
  ((repeat refine Y00 ?_); (refine wta ?_); simp (disch := omega) only [retQ, resD, oneD, rsv, rs, rsL, Y0a, List.map_map, bb, bt, zDs, zD, Y01, simprocAttr, Tryz.results119, isL, h1, h2, h3, h4, Bool.or_true, Bool.or_false, Bool.or_self])
theorem Yqs (c : Int) : PRet Tryz.prog 93 [.v (.int .u8 c)] (bool (isDg c)) := by
 refine pri 1 Tryz.func93 Tryz.ntmps93 fun t => ?_
 simp only [Y04]
 by_cases h1 : 48 ≤ c <;> by_cases h2 : c ≤ 57 <;>
 ·((refine ggb0 (F := _∧_) ⟨h1, h2⟩ ?_))
  ((repeat refine Y00 ?_); (refine wta ?_); simp (disch := omega) only [retQ, resD, oneD, rsv, rs, rsL, Y0a, List.map_map, bb, bt, zDs, zD, Y01, simprocAttr, Tryz.results93, isDg, h1, h2])
theorem Yqt (c : Int) : PRet Tryz.prog 155 [.v (.int .u8 c)] (bool (isDg c)) := by
 refine pri 1 Tryz.func155 Tryz.ntmps155 fun t => ?_
 simp only [Y04]
 by_cases h1 : 48 ≤ c <;> by_cases h2 : c ≤ 57 <;>
 ·((refine ggb0 (F := _∧_) ⟨h1, h2⟩ ?_))
  ((repeat refine Y00 ?_); (refine wta ?_); simp (disch := omega) only [retQ, resD, oneD, rsv, rs, rsL, Y0a, List.map_map, bb, bt, zDs, zD, Y01, simprocAttr, Tryz.results155, isDg, h1, h2])
theorem Yrv (s : ByteArray) (hs : s.size ≤ 1000000) : PRet Tryz.prog 64 [str s, int 0] (int (Y4x (bytes s))) := by
 refine pri 1 Tryz.func64 Tryz.ntmps64 fun t => ?_
 simp only [Y04]
 refine gga0 ?_
 repeat refine Y00 ?_
 refine Y02 ?_
 refine Y05 (fun k : Nat => ⟨[(0, str s), (1, int k)], [], t⟩) (fun k => s.size - k) (fun k => k ≤ s.size ∧ Y4x (bytes s) = k + Y4x ((bytes s).drop k)) 0 ⟨Nat.zero_le _, by simp⟩ ele fun k ⟨hk, hi⟩ => ?_
 by_cases hlt : k < s.size
 ·obtain ⟨c, hc⟩ : ∃ c, (bytes s)[k]? = some c := ⟨_, List.getElem?_eq_getElem hlt⟩
  have hb := Y80 s k
  rw [hc] at hb
  have hst := Ybj hc hi
  have hl := Yc7 c.toNat
  have hd := Yqs c.toNat
  cases h1 : isL c.toNat
  ·rw [h1] at hl
   cases h2 : isDg c.toNat
   ·rw [h2] at hd
    cases h3 : ((c.toNat : Int) == 95)
    ·have hw : Y5f c = false := by simp only [Y5f, h1, h2, h3, Bool.or_self]
     rw [hw] at hst
     ((refine ggb2 (F := _∧_∧_∧_) ⟨@Int.ofNat_lt, hlt, hb, h3⟩ hl hd ?_))
     rw [if_neg (by decide)] at hst
     refine exq Tryz.results64 ?_
     rw [hi, hst]; simp
    ·have hw : Y5f c = true := by simp only [Y5f, h1, h2, h3, Bool.or_true]
     rw [hw, if_pos rfl] at hst
     ((refine ggb2 (F := _∧_∧_∧_) ⟨@Int.ofNat_lt, hlt, hb, h3⟩ hl hd ?_))
     repeat refine Y00 ?_
     refine Y02 ?_
     refine gga0 ?_
     refine ⟨k + 1, ⟨hlt, by omega⟩, by omega, ?_⟩
     exact ele
   ·rw [h2] at hd
    have hw : Y5f c = true := by simp only [Y5f, h1, h2, Bool.or_true, Bool.true_or]
    rw [hw, if_pos rfl] at hst
    ((refine ggb2 (F := _∧_∧_) ⟨@Int.ofNat_lt, hlt, hb⟩ hl hd ?_))
    repeat refine Y00 ?_
    refine Y02 ?_
    refine gga0 ?_
    refine ⟨k + 1, ⟨hlt, by omega⟩, by omega, ?_⟩
    exact ele
  ·rw [h1] at hl
   have hw : Y5f c = true := by simp only [Y5f, h1, Bool.true_or]
   rw [hw, if_pos rfl] at hst
   ((refine ggb1 (F := _∧_∧_) ⟨@Int.ofNat_lt, hlt, hb⟩ hl ?_))
   repeat refine Y00 ?_
   refine Y02 ?_
   refine gga0 ?_
   refine ⟨k + 1, ⟨hlt, by omega⟩, by omega, ?_⟩
   exact ele
 ·have hke : k = s.size := by omega
  subst hke
  rw [List.drop_eq_nil_of_le (by rw [Y60]; exact Nat.le_refl _)] at hi
  refine ggb0 @Int.lt_irrefl ?_
  refine exq Tryz.results64 ?_
  rw [hi]; simp [Y4x]
theorem Yrw (s : ByteArray) (hs : s.size ≤ 1000000) : PRet Tryz.prog 120 [str s] (int (Y4x (bytes s))) := by
 refine pri 1 Tryz.func120 Tryz.ntmps120 fun t => ?_
 simp only [Y04]
 refine gga0 ?_
 repeat refine Y00 ?_
 refine Y02 ?_
 refine Y05 (fun k : Nat => ⟨[(0, str s), (3, int k)], [], t⟩) (fun k => s.size - k) (fun k => k ≤ s.size ∧ Y4x (bytes s) = k + Y4x ((bytes s).drop k)) 0 ⟨Nat.zero_le _, by simp⟩ ele fun k ⟨hk, hi⟩ => ?_
 by_cases hlt : k < s.size
 ·obtain ⟨c, hc⟩ : ∃ c, (bytes s)[k]? = some c := ⟨_, List.getElem?_eq_getElem hlt⟩
  have hb := Y80 s k
  rw [hc] at hb
  have hst := Ybj hc hi
  have hl := Yc8 c.toNat
  have hd := Yqt c.toNat
  cases h1 : isL c.toNat
  ·rw [h1] at hl
   cases h2 : isDg c.toNat
   ·rw [h2] at hd
    cases h3 : ((c.toNat : Int) == 95)
    ·have hw : Y5f c = false := by simp only [Y5f, h1, h2, h3, Bool.or_self]
     rw [hw] at hst
     ((refine ggb2 (F := _∧_∧_∧_) ⟨@Int.ofNat_lt, hlt, hb, h3⟩ hl hd ?_))
     rw [if_neg (by decide)] at hst
     refine exq Tryz.results120 ?_
     rw [hi, hst]; simp
    ·have hw : Y5f c = true := by simp only [Y5f, h1, h2, h3, Bool.or_true]
     rw [hw, if_pos rfl] at hst
     ((refine ggb2 (F := _∧_∧_∧_) ⟨@Int.ofNat_lt, hlt, hb, h3⟩ hl hd ?_))
     repeat refine Y00 ?_
     refine Y02 ?_
     refine gga0 ?_
     refine ⟨k + 1, ⟨hlt, by omega⟩, by omega, ?_⟩
     exact ele
   ·rw [h2] at hd
    have hw : Y5f c = true := by simp only [Y5f, h1, h2, Bool.or_true, Bool.true_or]
    rw [hw, if_pos rfl] at hst
    ((refine ggb2 (F := _∧_∧_) ⟨@Int.ofNat_lt, hlt, hb⟩ hl hd ?_))
    repeat refine Y00 ?_
    refine Y02 ?_
    refine gga0 ?_
    refine ⟨k + 1, ⟨hlt, by omega⟩, by omega, ?_⟩
    exact ele
  ·rw [h1] at hl
   have hw : Y5f c = true := by simp only [Y5f, h1, Bool.true_or]
   rw [hw, if_pos rfl] at hst
   ((refine ggb1 (F := _∧_∧_) ⟨@Int.ofNat_lt, hlt, hb⟩ hl ?_))
   repeat refine Y00 ?_
   refine Y02 ?_
   refine gga0 ?_
   refine ⟨k + 1, ⟨hlt, by omega⟩, by omega, ?_⟩
   exact ele
 ·have hke : k = s.size := by omega
  subst hke
  rw [List.drop_eq_nil_of_le (by rw [Y60]; exact Nat.le_refl _)] at hi
  refine ggb0 @Int.lt_irrefl ?_
  refine exq Tryz.results120 ?_
  rw [hi]; simp [Y4x]
theorem Yc9 (s : ByteArray) (hs : s.size ≤ 1000000) : PRet Tryz.prog 28 [str s] (bool (isNm s)) := by
 refine pri 1 Tryz.func28 Tryz.ntmps28 fun t => ?_
 simp only [Y04]
 have he := Yck s
 have hw := Yrv s hs
 by_cases h0 : s.size = 0
 ·have hn : isNm s = false := by simp [isNm, h0]
  have hE : s = ⟨#[]⟩ := by rw [decide_eq_decide] at he; exact he.2 h0
  have h0' : ((s.size : Int) == 0) = true := by simp [h0]
  rw [hn]
  ((refine ggb0 (F := _∧_) ⟨h0', hE⟩ ?_))
  exact exx Tryz.results28
 have hE : ¬ s = ⟨#[]⟩ := fun h => h0 (by rw [h]; rfl)
 have h0' : ((s.size : Int) == 0) = false := by rw [beq_eq_false_iff_ne]; omega
 by_cases h20 : s.size ≤ 20
 rotate_left 1
 ·have hn : isNm s = false := by simp [isNm, h20]
  have h1 : ¬ (s.size : Int) ≤ 20 := by omega
  have h2 : (20 : Int) < s.size := by omega
  rw [hn]
  ((refine ggb0 (F := _∧_∧_∧_) ⟨h0', hE, h1, h2⟩ ?_))
  exact exx Tryz.results28
 have h1 : (s.size : Int) ≤ 20 := by omega
 have h2 : ¬ (20 : Int) < s.size := by omega
 obtain ⟨c, hc⟩ : ∃ c, (bytes s)[0]? = some c := ⟨_, List.getElem?_eq_getElem (show 0 < (bytes s).length by rw [Y60]; omega)⟩
 have hb := Y80 s 0
 rw [hc] at hb
 have hl := Yc7 c.toNat
 obtain ⟨r, hbs⟩ : ∃ r, bytes s = c :: r := by
  cases hx : bytes s with
  | nil => rw [hx] at hc; simp at hc
  | cons a r => rw [hx] at hc; simp at hc; subst hc; exact ⟨r, rfl⟩
 have hn : isNm s = (isL c.toNat && decide (Y4x (bytes s) = s.size)) := by
  simp only [isNm, h0, h20, ne_eq, not_false_eq_true, decide_true, Bool.true_and]
  rw [hbs]
 have ew : ((Y4x (bytes s) : Int) == (s.size : Int)) = decide (Y4x (bytes s) = s.size) := by
  rw [Bool.eq_iff_iff]; simp; omega
 rw [hn]
 cases hL : isL c.toNat
 ·rw [hL] at hl
  ((refine ggb1 (F := _∧_∧_∧_∧_) ⟨h0', hE, h1, h2, hb⟩ hl ?_))
  exact exx Tryz.results28
 ·rw [hL] at hl
  ((refine ggb2 (F := _∧_∧_∧_∧_∧_) ⟨h0', hE, h1, h2, hb, ew⟩ hl hw ?_))
  exact exx Tryz.results28
theorem Yca (s : ByteArray) (hs : s.size ≤ 1000000) : PRet Tryz.prog 82 [str s] (bool (isNm s)) := by
 refine pri 1 Tryz.func82 Tryz.ntmps82 fun t => ?_
 simp only [Y04]
 have he := Yck s
 have hw := Yrw s hs
 by_cases h0 : s.size = 0
 ·have hn : isNm s = false := by simp [isNm, h0]
  have hE : s = ⟨#[]⟩ := by rw [decide_eq_decide] at he; exact he.2 h0
  have h0' : ((s.size : Int) == 0) = true := by simp [h0]
  rw [hn]
  ((refine ggb0 (F := _∧_) ⟨h0', hE⟩ ?_))
  exact exx Tryz.results82
 have hE : ¬ s = ⟨#[]⟩ := fun h => h0 (by rw [h]; rfl)
 have h0' : ((s.size : Int) == 0) = false := by rw [beq_eq_false_iff_ne]; omega
 by_cases h20 : s.size ≤ 20
 rotate_left 1
 ·have hn : isNm s = false := by simp [isNm, h20]
  have h1 : ¬ (s.size : Int) ≤ 20 := by omega
  have h2 : (20 : Int) < s.size := by omega
  rw [hn]
  ((refine ggb0 (F := _∧_∧_∧_) ⟨h0', hE, h1, h2⟩ ?_))
  exact exx Tryz.results82
 have h1 : (s.size : Int) ≤ 20 := by omega
 have h2 : ¬ (20 : Int) < s.size := by omega
 obtain ⟨c, hc⟩ : ∃ c, (bytes s)[0]? = some c := ⟨_, List.getElem?_eq_getElem (show 0 < (bytes s).length by rw [Y60]; omega)⟩
 have hb := Y80 s 0
 rw [hc] at hb
 have hl := Yc8 c.toNat
 obtain ⟨r, hbs⟩ : ∃ r, bytes s = c :: r := by
  cases hx : bytes s with
  | nil => rw [hx] at hc; simp at hc
  | cons a r => rw [hx] at hc; simp at hc; subst hc; exact ⟨r, rfl⟩
 have hn : isNm s = (isL c.toNat && decide (Y4x (bytes s) = s.size)) := by
  simp only [isNm, h0, h20, ne_eq, not_false_eq_true, decide_true, Bool.true_and]
  rw [hbs]
 have ew : ((Y4x (bytes s) : Int) == (s.size : Int)) = decide (Y4x (bytes s) = s.size) := by
  rw [Bool.eq_iff_iff]; simp; omega
 rw [hn]
 cases hL : isL c.toNat
 ·rw [hL] at hl
  ((refine ggb1 (F := _∧_∧_∧_∧_) ⟨h0', hE, h1, h2, hb⟩ hl ?_))
  exact exx Tryz.results82
 ·rw [hL] at hl
  ((refine ggb2 (F := _∧_∧_∧_∧_∧_) ⟨h0', hE, h1, h2, hb, ew⟩ hl hw ?_))
  exact exx Tryz.results82
theorem Yan (l : List Bk) (g : FuncId) (caps : List D) (p : Bk → Bool) (hl : l.length ≤ 1000000) (hp : ∀ x ∈ l, PRet Tryz.prog g ((D.agg (bk1 x) :: caps).map ufa) (bool (p x))) : PRet Tryz.prog 68 [bks l, .fn g caps] (int (idx p l 0)) := by
 refine pri 1 Tryz.func68 Tryz.ntmps68 fun t => ?_
 simp only [Y04]
 have hla := Y1z l
 have ha2 := Y2p l
 refine ggb0 ha2 ?_
 repeat refine Y00 ?_
 refine Y02 ?_
 refine Y05 (fun k : Nat => ⟨[(0, bks l), (1, .fn g caps), (7, int l.length), (8, int k)], [], t⟩) (fun k => l.length - k) (fun k => k ≤ l.length ∧ idx p l 0 = idx p (l.drop k) k) 0 ⟨Nat.zero_le _, rfl⟩ ele fun k ⟨hk, hi⟩ => ?_
 by_cases hlt : k < l.length
 ·obtain ⟨x, hx⟩ : ∃ x, l[k]? = some x := ⟨_, List.getElem?_eq_getElem hlt⟩
  have hm := List.mem_of_getElem? hx
  have hd : l.drop k = x :: l.drop (k + 1) := by
   obtain ⟨h1, h2⟩ := List.getElem?_eq_some_iff.1 hx
   rw [List.drop_eq_getElem_cons h1, h2]
  rw [hd] at hi
  have hra := Y4r l k x hx
  have hc := hp x hm
  ((refine ggb0 (F := _∧_) ⟨@Int.ofNat_lt, hlt⟩ ?_))
  repeat refine Y00 ?_
  refine Y02 ?_
  cases hpx : p x
  ·rw [hpx] at hc
   ((refine ggb0 (F := _∧_∧_) ⟨ha2, hlt, hra⟩ ?_))
   refine wka1 hc ?_
   refine gga0 ?_
   refine ⟨k + 1, ⟨hlt, by rw [hi]; simp [idx, hpx]⟩, by omega, ?_⟩
   exact ele
  ·rw [hpx] at hc
   ((refine ggb0 (F := _∧_∧_) ⟨ha2, hlt, hra⟩ ?_))
   refine wka1 hc ?_
   refine gga0 ?_
   ((repeat refine Y00 ?_); (refine wta ?_); simp (disch := omega) only [retQ, resD, oneD, rsv, rs, rsL, Y0a, List.map_map, bb, bt, zDs, zD, Y01, simprocAttr, Tryz.results68, hi, idx, hpx])
 ·((refine ggb0 (F := _∧_) ⟨@Int.ofNat_lt, hlt⟩ ?_))
  refine exq (F := _ ∧ _) ⟨Tryz.results68, hi⟩ ?_
  rw [List.drop_eq_nil_of_le (by omega)]; rfl
theorem Y6x (l : List Rp) (g : FuncId) (caps : List D) (p : Rp → Bool) (hl : l.length ≤ 1000000) (hp : ∀ x ∈ l, PRet Tryz.prog g ((D.agg (rp1 x) :: caps).map ufa) (bool (p x))) : PRet Tryz.prog 53 [rps l, .fn g caps] (int (idx p l 0)) := by
 refine pri 1 Tryz.func53 Tryz.ntmps53 fun t => ?_
 simp only [Y04]
 have hla := Y28 l
 have ha2 := Y1q l
 refine ggb0 ha2 ?_
 repeat refine Y00 ?_
 refine Y02 ?_
 refine Y05 (fun k : Nat => ⟨[(0, rps l), (1, .fn g caps), (7, int l.length), (8, int k)], [], t⟩) (fun k => l.length - k) (fun k => k ≤ l.length ∧ idx p l 0 = idx p (l.drop k) k) 0 ⟨Nat.zero_le _, rfl⟩ ele fun k ⟨hk, hi⟩ => ?_
 by_cases hlt : k < l.length
 ·obtain ⟨x, hx⟩ : ∃ x, l[k]? = some x := ⟨_, List.getElem?_eq_getElem hlt⟩
  have hm := List.mem_of_getElem? hx
  have hd : l.drop k = x :: l.drop (k + 1) := by
   obtain ⟨h1, h2⟩ := List.getElem?_eq_some_iff.1 hx
   rw [List.drop_eq_getElem_cons h1, h2]
  rw [hd] at hi
  have hra := Y2z l k x hx
  have hc := hp x hm
  ((refine ggb0 (F := _∧_) ⟨@Int.ofNat_lt, hlt⟩ ?_))
  repeat refine Y00 ?_
  refine Y02 ?_
  cases hpx : p x
  ·rw [hpx] at hc
   ((refine ggb0 (F := _∧_∧_) ⟨ha2, hlt, hra⟩ ?_))
   refine wka1 hc ?_
   refine gga0 ?_
   refine ⟨k + 1, ⟨hlt, by rw [hi]; simp [idx, hpx]⟩, by omega, ?_⟩
   exact ele
  ·rw [hpx] at hc
   ((refine ggb0 (F := _∧_∧_) ⟨ha2, hlt, hra⟩ ?_))
   refine wka1 hc ?_
   refine gga0 ?_
   ((repeat refine Y00 ?_); (refine wta ?_); simp (disch := omega) only [retQ, resD, oneD, rsv, rs, rsL, Y0a, List.map_map, bb, bt, zDs, zD, Y01, simprocAttr, Tryz.results53, hi, idx, hpx])
 ·((refine ggb0 (F := _∧_) ⟨@Int.ofNat_lt, hlt⟩ ?_))
  refine exq (F := _ ∧ _) ⟨Tryz.results53, hi⟩ ?_
  rw [List.drop_eq_nil_of_le (by omega)]; rfl
theorem Yi4 (l : List Hd) (g : FuncId) (caps : List D) (p : Hd → Bool) (hl : l.length ≤ 1000000) (hp : ∀ x ∈ l, PRet Tryz.prog g ((D.agg (hd1 x) :: caps).map ufa) (bool (p x))) : PRet Tryz.prog 32 [hds l, .fn g caps] (int (idx p l 0)) := by
 refine pri 1 Tryz.func32 Tryz.ntmps32 fun t => ?_
 simp only [Y04]
 have hla := Y3i l
 have ha2 := Y4v l
 refine ggb0 ha2 ?_
 repeat refine Y00 ?_
 refine Y02 ?_
 refine Y05 (fun k : Nat => ⟨[(0, hds l), (1, .fn g caps), (7, int l.length), (8, int k)], [], t⟩) (fun k => l.length - k) (fun k => k ≤ l.length ∧ idx p l 0 = idx p (l.drop k) k) 0 ⟨Nat.zero_le _, rfl⟩ ele fun k ⟨hk, hi⟩ => ?_
 by_cases hlt : k < l.length
 ·obtain ⟨x, hx⟩ : ∃ x, l[k]? = some x := ⟨_, List.getElem?_eq_getElem hlt⟩
  have hm := List.mem_of_getElem? hx
  have hd : l.drop k = x :: l.drop (k + 1) := by
   obtain ⟨h1, h2⟩ := List.getElem?_eq_some_iff.1 hx
   rw [List.drop_eq_getElem_cons h1, h2]
  rw [hd] at hi
  have hra := Y4m l k x hx
  have hc := hp x hm
  ((refine ggb0 (F := _∧_) ⟨@Int.ofNat_lt, hlt⟩ ?_))
  repeat refine Y00 ?_
  refine Y02 ?_
  cases hpx : p x
  ·rw [hpx] at hc
   ((refine ggb0 (F := _∧_∧_) ⟨ha2, hlt, hra⟩ ?_))
   refine wka1 hc ?_
   refine gga0 ?_
   refine ⟨k + 1, ⟨hlt, by rw [hi]; simp [idx, hpx]⟩, by omega, ?_⟩
   exact ele
  ·rw [hpx] at hc
   ((refine ggb0 (F := _∧_∧_) ⟨ha2, hlt, hra⟩ ?_))
   refine wka1 hc ?_
   refine gga0 ?_
   ((repeat refine Y00 ?_); (refine wta ?_); simp (disch := omega) only [retQ, resD, oneD, rsv, rs, rsL, Y0a, List.map_map, bb, bt, zDs, zD, Y01, simprocAttr, Tryz.results32, hi, idx, hpx])
 ·((refine ggb0 (F := _∧_) ⟨@Int.ofNat_lt, hlt⟩ ?_))
  refine exq (F := _ ∧ _) ⟨Tryz.results32, hi⟩ ?_
  rw [List.drop_eq_nil_of_le (by omega)]; rfl
theorem Y11n (b : Bk) (nm : ByteArray) : PRet Tryz.prog 139 [.agg (bk1 b), .rp [str nm] 0] (bool (decide (b.nm = nm))) := by
 refine pri 1 Tryz.func139 Tryz.ntmps139 fun t => ?_
 simp only [Y04]
 refine gga0 ?_
 exact exx Tryz.results139
theorem Yzu (s : Sy) (nm : ByteArray) (hl : s.bs.length ≤ 1000000) : PRet Tryz.prog 103 [syD s, str nm] (int (Y1k s.bs nm)) := by
 refine pri 1 Tryz.func103 Tryz.ntmps103 fun t => ?_
 simp only [Y04]
 refine wqa ?_
 ((refine AW.freeze (1) (by first | rfl | (simp only [setH, List.getElem?_cons_zero, List.getElem?_cons_succ, Y5h, Y5g]; done)) ?_); simp (disch := omega) only [fzT, fz, fzL, Y0p, Y0y, fzH, fzB, eq_self, bb, bt, zDs, zD, Y01, simprocAttr, Y5h, Y5g])
 have hI := Yan s.bs 139 [.rp [str nm] 0] (fun b => decide (b.nm = nm)) hl (fun x _ => Y11n x nm)
 refine gga1 hI ?_
 ((repeat refine Y00 ?_); (refine wta ?_); simp (disch := omega) only [retQ, resD, oneD, rsv, rs, rsL, Y0a, List.map_map, bb, bt, zDs, zD, Y01, simprocAttr, Tryz.results103, Y1k])
theorem Y5q (s : Sy) (nm : ByteArray) (hl : s.bs.length ≤ 1000000) : PRet Tryz.prog 29 [syD s, str nm] (int (Y1k s.bs nm)) := by
 refine pri 1 Tryz.func29 Tryz.ntmps29 fun t => ?_
 simp only [Y04]
 have hla := Y1z s.bs
 have ha2 := Y2p s.bs
 refine gga0 ?_
 repeat refine Y00 ?_
 refine Y02 ?_
 refine Y05 (fun k : Nat => ⟨[(1, str nm), (2, .ptr 0 (t + 1) 0), (5, int k)], [some ⟨25, t + 1, [bks s.bs, rps s.rs]⟩], t + 1⟩) (fun k => s.bs.length - k) (fun k => k ≤ s.bs.length ∧ Y1k s.bs nm = idx (fun x => decide (x.nm = nm)) (s.bs.drop k) k) 0 ⟨Nat.zero_le _, rfl⟩ ele fun k ⟨hk, hi⟩ => ?_
 by_cases hlt : k < s.bs.length
 ·obtain ⟨x, hx⟩ : ∃ x, s.bs[k]? = some x := ⟨_, List.getElem?_eq_getElem hlt⟩
  have hd : s.bs.drop k = x :: s.bs.drop (k + 1) := by
   obtain ⟨h1, h2⟩ := List.getElem?_eq_some_iff.1 hx
   rw [List.drop_eq_getElem_cons h1, h2]
  rw [hd] at hi
  have hra := Yej s.bs k x hx
  ((refine ggb0 (F := _∧_∧_) ⟨@Int.ofNat_lt, hlt, ha2⟩ ?_))
  repeat refine Y00 ?_
  refine Y02 ?_
  by_cases hpx : x.nm = nm
  ·((refine ggb0 (F := _∧_∧_∧_) ⟨ha2, hlt, hra, hpx⟩ ?_))
   ((repeat refine Y00 ?_); (refine wta ?_); simp (disch := omega) only [retQ, resD, oneD, rsv, rs, rsL, Y0a, List.map_map, bb, bt, zDs, zD, Y01, simprocAttr, Tryz.results29, hi, idx, hpx, decide_true])
  ·((refine ggb0 (F := _∧_∧_∧_) ⟨ha2, hlt, hra, hpx⟩ ?_))
   refine ⟨k + 1, ⟨hlt, by rw [hi]; simp [idx, hpx]⟩, by omega, ?_⟩
   exact ele
 ·((refine ggb0 (F := _∧_∧_) ⟨@Int.ofNat_lt, hlt, ha2⟩ ?_))
  refine exq (F := _ ∧ _) ⟨Tryz.results29, hi⟩ ?_
  rw [List.drop_eq_nil_of_le (by omega)]; rfl
theorem Yhe (s : Sy) (nm : ByteArray) (hl : s.rs.length ≤ 1000000) : PRet Tryz.prog 30 [syD s, str nm] (int (Ytv s.rs nm)) := by
 refine pri 1 Tryz.func30 Tryz.ntmps30 fun t => ?_
 simp only [Y04]
 have hla := Y28 s.rs
 have ha2 := Y1q s.rs
 refine gga0 ?_
 repeat refine Y00 ?_
 refine Y02 ?_
 refine Y05 (fun k : Nat => ⟨[(1, str nm), (2, .ptr 0 (t + 1) 0), (5, int k)], [some ⟨25, t + 1, [bks s.bs, rps s.rs]⟩], t + 1⟩) (fun k => s.rs.length - k) (fun k => k ≤ s.rs.length ∧ Ytv s.rs nm = idx (fun x => decide (x.nm = nm)) (s.rs.drop k) k) 0 ⟨Nat.zero_le _, rfl⟩ ele fun k ⟨hk, hi⟩ => ?_
 by_cases hlt : k < s.rs.length
 ·obtain ⟨x, hx⟩ : ∃ x, s.rs[k]? = some x := ⟨_, List.getElem?_eq_getElem hlt⟩
  have hd : s.rs.drop k = x :: s.rs.drop (k + 1) := by
   obtain ⟨h1, h2⟩ := List.getElem?_eq_some_iff.1 hx
   rw [List.drop_eq_getElem_cons h1, h2]
  rw [hd] at hi
  have hra := Yje s.rs k x hx
  ((refine ggb0 (F := _∧_∧_) ⟨@Int.ofNat_lt, hlt, ha2⟩ ?_))
  repeat refine Y00 ?_
  refine Y02 ?_
  by_cases hpx : x.nm = nm
  ·((refine ggb0 (F := _∧_∧_∧_) ⟨ha2, hlt, hra, hpx⟩ ?_))
   ((repeat refine Y00 ?_); (refine wta ?_); simp (disch := omega) only [retQ, resD, oneD, rsv, rs, rsL, Y0a, List.map_map, bb, bt, zDs, zD, Y01, simprocAttr, Tryz.results30, hi, idx, hpx, decide_true])
  ·((refine ggb0 (F := _∧_∧_∧_) ⟨ha2, hlt, hra, hpx⟩ ?_))
   refine ⟨k + 1, ⟨hlt, by rw [hi]; simp [idx, hpx]⟩, by omega, ?_⟩
   exact ele
 ·((refine ggb0 (F := _∧_∧_) ⟨@Int.ofNat_lt, hlt, ha2⟩ ?_))
  refine exq (F := _ ∧ _) ⟨Tryz.results30, hi⟩ ?_
  rw [List.drop_eq_nil_of_le (by omega)]; rfl
end Go.Proofs.YtpbpafmgkdihlaaGreatDoor.T
