import Derived.Test.YtpcakodemleoiaaGreatHSA
import Derived.Test.YtpcakodemleoiaaGreatHWA
import Derived.Test.YtpcakodemleoiaaGreatHRatioA
set_option linter.all false
section
namespace Go.Proofs.YtpcakodemleoiaaGreat.T
open Go Go.RowKit
def bytes (s : ByteArray) : List UInt8 := s.data.toList
theorem Y47 (s : ByteArray) : (bytes s).length = s.size := rfl
theorem Y60 (s : ByteArray) (i : Nat) : s[i]? = (bytes s)[i]? := by
 by_cases h : i < s.size
 ·rw [getElem?_pos s i h, List.getElem?_eq_getElem (show i < (bytes s).length from h)]
  rfl
 ·rw [getElem?_neg s i h, List.getElem?_eq_none (show (bytes s).length ≤ i by rw [Y47]; omega)]
theorem Y9t (s : ByteArray) : decide (s = ⟨#[]⟩) = decide (s.size = 0) := by
 rw [Bool.eq_iff_iff]
 simp only [decide_eq_true_eq]
 constructor
 ·rintro rfl; rfl
 ·intro h
  cases s with
  | mk a => exact congrArg _ (Array.eq_empty_of_size_eq_zero h)
instance instLawfulNames : LawfulBEq ByteArray where
 eq_of_beq {a b} h := by rw [Yaa] at h; simpa using h
 rfl {a} := by rw [Yaa]; simp
def isL (c : Int) : Bool := (decide (97 ≤ c) && decide (c ≤ 122)) || (decide (65 ≤ c) && decide (c ≤ 90))
def isDg (c : Int) : Bool := decide (48 ≤ c) && decide (c ≤ 57)
def wordB (c : UInt8) : Bool := isL c.toNat || isDg c.toNat || ((c.toNat : Int) == 95)
def wordN (l : List UInt8) : Nat := (l.takeWhile wordB).length
def isNm (s : ByteArray) : Bool := decide (s.size ≠ 0) && decide (s.size ≤ 20) && (match bytes s with | c :: _ => isL c.toNat | [] => false) && decide (wordN (bytes s) = s.size)
theorem Y8t {l : List UInt8} {k : Nat} {c : UInt8} (h : l[k]? = some c) (hk : wordN l = k + wordN (l.drop k)) : wordN (l.drop k) = if wordB c = true then 1 + wordN (l.drop (k + 1)) else 0 := by
 obtain ⟨h1, h2⟩ := List.getElem?_eq_some_iff.1 h
 rw [List.drop_eq_getElem_cons h1, h2]
 unfold wordN
 rw [List.takeWhile_cons]
 split <;> simp
 omega
def findB (bs : List Bk) (nm : ByteArray) : Int := idx (fun b => decide (b.nm = nm)) bs 0
def findR (rs : List Rp) (nm : ByteArray) : Int := idx (fun r => decide (r.nm = nm)) rs 0
def lossy (n d : Int) : Bool := vfrac n d && decide (d ≤ n) && decide (n ≤ 100)
def Y0l (bs : List Bk) (h : Hd) (e : Bool) : Bool :=
 (if e = true then (h.n == 1 && h.d == 1) else lossy h.n h.d) &&
 (if h.b = ⟨#[]⟩ then h.p == 0 else decide (0 ≤ findB bs h.b) && (if e = true then (h.p == 1 || h.p == -1) else (h.p == 2 || h.p == 0 || h.p == -2)))
def endH (n i : Nat) : Bool := i == 0 || i + 1 == n
def Y2i (bs : List Bk) (hs : List Hd) : Bool := (List.range hs.length).all fun i => match hs[i]? with | some h => Y0l bs h (endH hs.length i) | none => true
def Y1f (bs : List Bk) (r : Rp) : Bool := decide (2 ≤ r.hs.length ∧ r.hs.length ≤ 10) && Y2i bs r.hs && (!r.hl || (match r.hs.getLast? with | some h => decide (h.b = ⟨#[]⟩) | none => true))
def Y0k (bs : List Bk) : List ByteArray := bs.map (·.nm)
def Y24 (rs : List Rp) : List ByteArray := rs.map (·.nm)
def okB (bs : List Bk) (k : Nat) : Bool := match bs[k]? with | some b => isNm b.nm && !(Y0k (bs.take k)).contains b.nm && decide (0 ≤ b.w ∧ b.w ≤ 16777216) | none => true
def okR (s : Sy) (k : Nat) : Bool := match s.rs[k]? with | some r => isNm r.nm && !(Y0k s.bs ++ Y24 (s.rs.take k)).contains r.nm && Y1f s.bs r | none => true
def hauls (rs : List Rp) : Nat := (rs.filter (·.hl)).length
def Y30 (s : Sy) : Bool := decide (1 ≤ s.bs.length ∧ s.bs.length ≤ 6) && decide (1 ≤ s.rs.length ∧ s.rs.length ≤ 6)
def Y0f (s : Sy) : Bool := Y30 s && (List.range s.bs.length).all (okB s.bs) && (List.range s.rs.length).all (okR s) && decide (hauls s.rs ≤ 1)
theorem Ya8 {p : Nat → Bool} {n : Nat} (h : ∀ k, k < n → p k = true) : (List.range n).all p = true := List.all_eq_true.2 fun x hx => h x (List.mem_range.1 hx)
theorem Ya7 {p : Nat → Bool} {n k : Nat} (hk : k < n) (h : p k = false) : (List.range n).all p = false := by
 rw [← Bool.not_eq_true, List.all_eq_true]
 intro hh
 rw [hh k (List.mem_range.2 hk)] at h
 cases h
theorem Yc2 {α : Type} (p : α → Bool) : ∀ (l : List α) (n k : Nat) (x : α), l[k]? = some x → p x = true → ((l.take k).any p = false ↔ idx p l n = (n + k : Nat))
 | [], n, k, x, h, _ => by simp at h
 | y :: l, n, 0, x, h, hp => by simp at h; subst h; simp [idx, hp]
 | y :: l, n, k + 1, x, h, hp => by
  have ih := Yc2 p l (n + 1) k x (by simpa using h) hp
  rw [List.take_succ_cons, List.any_cons]
  cases hy : p y
  ·simp only [Bool.false_or, idx, hy, Bool.false_eq_true, if_false]
   rw [ih, show n + 1 + k = n + (k + 1) by omega]
  ·simp only [Bool.true_or, idx, hy, if_true]
   constructor
   ·intro h; cases h
   ·intro h; exfalso; omega
theorem Y6l {α : Type} (p : α → Bool) : ∀ (l : List α) (n : Nat), (l.any p = true → ∃ k x, idx p l n = (n + k : Nat) ∧ l[k]? = some x ∧ p x = true) ∧ (l.any p = false → idx p l n = -1)
 | [], n => by simp [idx]
 | y :: l, n => by
  obtain ⟨h1, h2⟩ := Y6l p l (n + 1)
  rw [List.any_cons]
  cases hy : p y
  ·simp only [Bool.false_or, idx, hy, Bool.false_eq_true, if_false]
   refine ⟨fun h => ?_, h2⟩
   obtain ⟨k, x, e, hk, hx⟩ := h1 h
   exact ⟨k + 1, x, by rw [e]; congr 1; omega, by simpa using hk, hx⟩
  ·simp only [Bool.true_or, idx, hy, if_true]
   exact ⟨fun _ => ⟨0, y, by simp, rfl, hy⟩, fun h => by cases h⟩
end Go.Proofs.YtpcakodemleoiaaGreat.T
end
section
namespace Go.Proofs.YtpcakodemleoiaaGreat.T
open Go Go.RowKit
theorem Y9h (c : Int) : PRet Tryz.prog 102 [.v (.int .u8 c)] (bool (isL c)) := by
 refine PRet.intro 1 fun t => ACall.enter tab_ok Tryz.func102 rfl rfl Tryz.ntmps102 (by simp) ?_
 simp only [Y06]
 by_cases h1 : 97 ≤ c <;> by_cases h2 : c ≤ 122 <;> by_cases h3 : 65 ≤ c <;> by_cases h4 : c ≤ 90 <;>
 ·((refine ggb0 (F := _∧_∧_∧_) ⟨h1, h2, h3, h4⟩ ?_))
  ((repeat refine Y01 ?_); (refine wta ?_); simp (disch := omega) only [retQ, resD, oneD, rsv, rs, rsL, Y02, List.map_map, bb, bt, zDs, zD, Y00, simprocAttr, Tryz.results102, isL, h1, h2, h3, h4, Bool.or_true, Bool.or_false, Bool.or_self])
theorem Y9i (c : Int) : PRet Tryz.prog 141 [.v (.int .u8 c)] (bool (isL c)) := by
 refine PRet.intro 1 fun t => ACall.enter tab_ok Tryz.func141 rfl rfl Tryz.ntmps141 (by simp) ?_
 simp only [Y06]
 by_cases h1 : 97 ≤ c <;> by_cases h2 : c ≤ 122 <;> by_cases h3 : 65 ≤ c <;> by_cases h4 : c ≤ 90 <;>
 ·((refine ggb0 (F := _∧_∧_∧_) ⟨h1, h2, h3, h4⟩ ?_))
  ((repeat refine Y01 ?_); (refine wta ?_); simp (disch := omega) only [retQ, resD, oneD, rsv, rs, rsL, Y02, List.map_map, bb, bt, zDs, zD, Y00, simprocAttr, Tryz.results141, isL, h1, h2, h3, h4, Bool.or_true, Bool.or_false, Bool.or_self])
theorem digit_ref (c : Int) : PRet Tryz.prog 124 [.v (.int .u8 c)] (bool (isDg c)) := by
 refine PRet.intro 1 fun t => ACall.enter tab_ok Tryz.func124 rfl rfl Tryz.ntmps124 (by simp) ?_
 simp only [Y06]
 by_cases h1 : 48 ≤ c <;> by_cases h2 : c ≤ 57 <;>
 ·((refine ggb0 (F := _∧_) ⟨h1, h2⟩ ?_))
  ((repeat refine Y01 ?_); (refine wta ?_); simp (disch := omega) only [retQ, resD, oneD, rsv, rs, rsL, Y02, List.map_map, bb, bt, zDs, zD, Y00, simprocAttr, Tryz.results124, isDg, h1, h2])
theorem digit_dec (c : Int) : PRet Tryz.prog 151 [.v (.int .u8 c)] (bool (isDg c)) := by
 refine PRet.intro 1 fun t => ACall.enter tab_ok Tryz.func151 rfl rfl Tryz.ntmps151 (by simp) ?_
 simp only [Y06]
 by_cases h1 : 48 ≤ c <;> by_cases h2 : c ≤ 57 <;>
 ·((refine ggb0 (F := _∧_) ⟨h1, h2⟩ ?_))
  ((repeat refine Y01 ?_); (refine wta ?_); simp (disch := omega) only [retQ, resD, oneD, rsv, rs, rsL, Y02, List.map_map, bb, bt, zDs, zD, Y00, simprocAttr, Tryz.results151, isDg, h1, h2])
theorem word_ref (s : ByteArray) (hs : s.size ≤ 1000000) : PRet Tryz.prog 103 [str s, int 0] (int (wordN (bytes s))) := by
 refine PRet.intro 1 fun t => ACall.enter tab_ok Tryz.func103 rfl rfl Tryz.ntmps103 (by simp) ?_
 simp only [Y06]
 ((refine gga0 ?_))
 ((repeat refine Y01 ?_))
 refine Y04 ?_
 refine Y07 (fun k : Nat => ⟨[(0, str s), (1, int k)], [], t⟩) (fun k => s.size - k) (fun k => k ≤ s.size ∧ wordN (bytes s) = k + wordN ((bytes s).drop k)) 0 ⟨Nat.zero_le _, by simp⟩ (by (simp (disch := omega) only [StLe, tmLe, Y03, hpLe, bl, bb, bt, zDs, zD, Y00, simprocAttr])) fun k ⟨hk, hi⟩ => ?_
 by_cases hlt : k < s.size
 ·obtain ⟨c, hc⟩ : ∃ c, (bytes s)[k]? = some c := ⟨_, List.getElem?_eq_getElem hlt⟩
  have hb := Y60 s k
  rw [hc] at hb
  have hst := Y8t hc hi
  have hl := Y9h c.toNat
  have hd := digit_ref c.toNat
  cases h1 : isL c.toNat
  ·rw [h1] at hl
   cases h2 : isDg c.toNat
   ·rw [h2] at hd
    cases h3 : ((c.toNat : Int) == 95)
    ·have hw : wordB c = false := by simp only [wordB, h1, h2, h3, Bool.or_self]
     rw [hw] at hst
     ((refine ggb2 (F := _∧_∧_∧_) ⟨@Int.ofNat_lt, hlt, hb, h3⟩ hl hd ?_))
     rw [if_neg (by decide)] at hst
     ((repeat refine Y01 ?_); (refine wta ?_); simp (disch := omega) only [retQ, resD, oneD, rsv, rs, rsL, Y02, List.map_map, bb, bt, zDs, zD, Y00, simprocAttr, Tryz.results103])
     rw [hi, hst]; simp
    ·have hw : wordB c = true := by simp only [wordB, h1, h2, h3, Bool.or_true]
     rw [hw, if_pos rfl] at hst
     ((refine ggb2 (F := _∧_∧_∧_) ⟨@Int.ofNat_lt, hlt, hb, h3⟩ hl hd ?_))
     ((repeat refine Y01 ?_))
     refine Y04 ?_
     ((refine gga0 ?_))
     refine ⟨k + 1, ⟨hlt, by omega⟩, by omega, ?_⟩
     (simp (disch := omega) only [StLe, tmLe, Y03, hpLe, bl, bb, bt, zDs, zD, Y00, simprocAttr])
   ·rw [h2] at hd
    have hw : wordB c = true := by simp only [wordB, h1, h2, Bool.or_true, Bool.true_or]
    rw [hw, if_pos rfl] at hst
    ((refine ggb2 (F := _∧_∧_) ⟨@Int.ofNat_lt, hlt, hb⟩ hl hd ?_))
    ((repeat refine Y01 ?_))
    refine Y04 ?_
    ((refine gga0 ?_))
    refine ⟨k + 1, ⟨hlt, by omega⟩, by omega, ?_⟩
    (simp (disch := omega) only [StLe, tmLe, Y03, hpLe, bl, bb, bt, zDs, zD, Y00, simprocAttr])
  ·rw [h1] at hl
   have hw : wordB c = true := by simp only [wordB, h1, Bool.true_or]
   rw [hw, if_pos rfl] at hst
   ((refine ggb1 (F := _∧_∧_) ⟨@Int.ofNat_lt, hlt, hb⟩ hl ?_))
   ((repeat refine Y01 ?_))
   refine Y04 ?_
   ((refine gga0 ?_))
   refine ⟨k + 1, ⟨hlt, by omega⟩, by omega, ?_⟩
   (simp (disch := omega) only [StLe, tmLe, Y03, hpLe, bl, bb, bt, zDs, zD, Y00, simprocAttr])
 ·have hke : k = s.size := by omega
  subst hke
  rw [List.drop_eq_nil_of_le (by rw [Y47]; exact Nat.le_refl _)] at hi
  ((refine ggb0 @Int.lt_irrefl ?_))
  ((repeat refine Y01 ?_); (refine wta ?_); simp (disch := omega) only [retQ, resD, oneD, rsv, rs, rsL, Y02, List.map_map, bb, bt, zDs, zD, Y00, simprocAttr, Tryz.results103])
  rw [hi]; simp [wordN]
theorem word_dec (s : ByteArray) (hs : s.size ≤ 1000000) : PRet Tryz.prog 142 [str s] (int (wordN (bytes s))) := by
 refine PRet.intro 1 fun t => ACall.enter tab_ok Tryz.func142 rfl rfl Tryz.ntmps142 (by simp) ?_
 simp only [Y06]
 ((refine gga0 ?_))
 ((repeat refine Y01 ?_))
 refine Y04 ?_
 refine Y07 (fun k : Nat => ⟨[(0, str s), (3, int k)], [], t⟩) (fun k => s.size - k) (fun k => k ≤ s.size ∧ wordN (bytes s) = k + wordN ((bytes s).drop k)) 0 ⟨Nat.zero_le _, by simp⟩ (by (simp (disch := omega) only [StLe, tmLe, Y03, hpLe, bl, bb, bt, zDs, zD, Y00, simprocAttr])) fun k ⟨hk, hi⟩ => ?_
 by_cases hlt : k < s.size
 ·obtain ⟨c, hc⟩ : ∃ c, (bytes s)[k]? = some c := ⟨_, List.getElem?_eq_getElem hlt⟩
  have hb := Y60 s k
  rw [hc] at hb
  have hst := Y8t hc hi
  have hl := Y9i c.toNat
  have hd := digit_dec c.toNat
  cases h1 : isL c.toNat
  ·rw [h1] at hl
   cases h2 : isDg c.toNat
   ·rw [h2] at hd
    cases h3 : ((c.toNat : Int) == 95)
    ·have hw : wordB c = false := by simp only [wordB, h1, h2, h3, Bool.or_self]
     rw [hw] at hst
     ((refine ggb2 (F := _∧_∧_∧_) ⟨@Int.ofNat_lt, hlt, hb, h3⟩ hl hd ?_))
     rw [if_neg (by decide)] at hst
     ((repeat refine Y01 ?_); (refine wta ?_); simp (disch := omega) only [retQ, resD, oneD, rsv, rs, rsL, Y02, List.map_map, bb, bt, zDs, zD, Y00, simprocAttr, Tryz.results142])
     rw [hi, hst]; simp
    ·have hw : wordB c = true := by simp only [wordB, h1, h2, h3, Bool.or_true]
     rw [hw, if_pos rfl] at hst
     ((refine ggb2 (F := _∧_∧_∧_) ⟨@Int.ofNat_lt, hlt, hb, h3⟩ hl hd ?_))
     ((repeat refine Y01 ?_))
     refine Y04 ?_
     ((refine gga0 ?_))
     refine ⟨k + 1, ⟨hlt, by omega⟩, by omega, ?_⟩
     (simp (disch := omega) only [StLe, tmLe, Y03, hpLe, bl, bb, bt, zDs, zD, Y00, simprocAttr])
   ·rw [h2] at hd
    have hw : wordB c = true := by simp only [wordB, h1, h2, Bool.or_true, Bool.true_or]
    rw [hw, if_pos rfl] at hst
    ((refine ggb2 (F := _∧_∧_) ⟨@Int.ofNat_lt, hlt, hb⟩ hl hd ?_))
    ((repeat refine Y01 ?_))
    refine Y04 ?_
    ((refine gga0 ?_))
    refine ⟨k + 1, ⟨hlt, by omega⟩, by omega, ?_⟩
    (simp (disch := omega) only [StLe, tmLe, Y03, hpLe, bl, bb, bt, zDs, zD, Y00, simprocAttr])
  ·rw [h1] at hl
   have hw : wordB c = true := by simp only [wordB, h1, Bool.true_or]
   rw [hw, if_pos rfl] at hst
   ((refine ggb1 (F := _∧_∧_) ⟨@Int.ofNat_lt, hlt, hb⟩ hl ?_))
   ((repeat refine Y01 ?_))
   refine Y04 ?_
   ((refine gga0 ?_))
   refine ⟨k + 1, ⟨hlt, by omega⟩, by omega, ?_⟩
   (simp (disch := omega) only [StLe, tmLe, Y03, hpLe, bl, bb, bt, zDs, zD, Y00, simprocAttr])
 ·have hke : k = s.size := by omega
  subst hke
  rw [List.drop_eq_nil_of_le (by rw [Y47]; exact Nat.le_refl _)] at hi
  ((refine ggb0 @Int.lt_irrefl ?_))
  ((repeat refine Y01 ?_); (refine wta ?_); simp (disch := omega) only [retQ, resD, oneD, rsv, rs, rsL, Y02, List.map_map, bb, bt, zDs, zD, Y00, simprocAttr, Tryz.results142])
  rw [hi]; simp [wordN]
theorem Y9j (s : ByteArray) (hs : s.size ≤ 1000000) : PRet Tryz.prog 75 [str s] (bool (isNm s)) := by
 refine PRet.intro 1 fun t => ACall.enter tab_ok Tryz.func75 rfl rfl Tryz.ntmps75 (by simp) ?_
 simp only [Y06]
 have he := Y9t s
 have hw := word_ref s hs
 by_cases h0 : s.size = 0
 ·have hn : isNm s = false := by simp [isNm, h0]
  have hE : s = ⟨#[]⟩ := by rw [decide_eq_decide] at he; exact he.2 h0
  have h0' : ((s.size : Int) == 0) = true := by simp [h0]
  rw [hn]
  ((refine ggb0 (F := _∧_) ⟨h0', hE⟩ ?_))
  ((repeat refine Y01 ?_); (refine wta ?_); simp (disch := omega) only [retQ, resD, oneD, rsv, rs, rsL, Y02, List.map_map, bb, bt, zDs, zD, Y00, simprocAttr, Tryz.results75])
 have hE : ¬ s = ⟨#[]⟩ := fun h => h0 (by rw [h]; rfl)
 have h0' : ((s.size : Int) == 0) = false := by rw [beq_eq_false_iff_ne]; omega
 by_cases h20 : s.size ≤ 20
 rotate_left 1
 ·have hn : isNm s = false := by simp [isNm, h20]
  have h1 : ¬ (s.size : Int) ≤ 20 := by omega
  have h2 : (20 : Int) < s.size := by omega
  rw [hn]
  ((refine ggb0 (F := _∧_∧_∧_) ⟨h0', hE, h1, h2⟩ ?_))
  ((repeat refine Y01 ?_); (refine wta ?_); simp (disch := omega) only [retQ, resD, oneD, rsv, rs, rsL, Y02, List.map_map, bb, bt, zDs, zD, Y00, simprocAttr, Tryz.results75])
 have h1 : (s.size : Int) ≤ 20 := by omega
 have h2 : ¬ (20 : Int) < s.size := by omega
 obtain ⟨c, hc⟩ : ∃ c, (bytes s)[0]? = some c := ⟨_, List.getElem?_eq_getElem (show 0 < (bytes s).length by rw [Y47]; omega)⟩
 have hb := Y60 s 0
 rw [hc] at hb
 have hl := Y9h c.toNat
 obtain ⟨r, hbs⟩ : ∃ r, bytes s = c :: r := by
  cases hx : bytes s with
  | nil => rw [hx] at hc; simp at hc
  | cons a r => rw [hx] at hc; simp at hc; subst hc; exact ⟨r, rfl⟩
 have hn : isNm s = (isL c.toNat && decide (wordN (bytes s) = s.size)) := by
  simp only [isNm, h0, h20, ne_eq, not_false_eq_true, decide_true, Bool.true_and]
  rw [hbs]
 have ew : ((wordN (bytes s) : Int) == (s.size : Int)) = decide (wordN (bytes s) = s.size) := by
  rw [Bool.eq_iff_iff]; simp; omega
 rw [hn]
 cases hL : isL c.toNat
 ·rw [hL] at hl
  ((refine ggb1 (F := _∧_∧_∧_∧_) ⟨h0', hE, h1, h2, hb⟩ hl ?_))
  ((repeat refine Y01 ?_); (refine wta ?_); simp (disch := omega) only [retQ, resD, oneD, rsv, rs, rsL, Y02, List.map_map, bb, bt, zDs, zD, Y00, simprocAttr, Tryz.results75])
 ·rw [hL] at hl
  ((refine ggb2 (F := _∧_∧_∧_∧_∧_) ⟨h0', hE, h1, h2, hb, ew⟩ hl hw ?_))
  ((repeat refine Y01 ?_); (refine wta ?_); simp (disch := omega) only [retQ, resD, oneD, rsv, rs, rsL, Y02, List.map_map, bb, bt, zDs, zD, Y00, simprocAttr, Tryz.results75])
theorem isName_dec (s : ByteArray) (hs : s.size ≤ 1000000) : PRet Tryz.prog 127 [str s] (bool (isNm s)) := by
 refine PRet.intro 1 fun t => ACall.enter tab_ok Tryz.func127 rfl rfl Tryz.ntmps127 (by simp) ?_
 simp only [Y06]
 have he := Y9t s
 have hw := word_dec s hs
 by_cases h0 : s.size = 0
 ·have hn : isNm s = false := by simp [isNm, h0]
  have hE : s = ⟨#[]⟩ := by rw [decide_eq_decide] at he; exact he.2 h0
  have h0' : ((s.size : Int) == 0) = true := by simp [h0]
  rw [hn]
  ((refine ggb0 (F := _∧_) ⟨h0', hE⟩ ?_))
  ((repeat refine Y01 ?_); (refine wta ?_); simp (disch := omega) only [retQ, resD, oneD, rsv, rs, rsL, Y02, List.map_map, bb, bt, zDs, zD, Y00, simprocAttr, Tryz.results127])
 have hE : ¬ s = ⟨#[]⟩ := fun h => h0 (by rw [h]; rfl)
 have h0' : ((s.size : Int) == 0) = false := by rw [beq_eq_false_iff_ne]; omega
 by_cases h20 : s.size ≤ 20
 rotate_left 1
 ·have hn : isNm s = false := by simp [isNm, h20]
  have h1 : ¬ (s.size : Int) ≤ 20 := by omega
  have h2 : (20 : Int) < s.size := by omega
  rw [hn]
  ((refine ggb0 (F := _∧_∧_∧_) ⟨h0', hE, h1, h2⟩ ?_))
  ((repeat refine Y01 ?_); (refine wta ?_); simp (disch := omega) only [retQ, resD, oneD, rsv, rs, rsL, Y02, List.map_map, bb, bt, zDs, zD, Y00, simprocAttr, Tryz.results127])
 have h1 : (s.size : Int) ≤ 20 := by omega
 have h2 : ¬ (20 : Int) < s.size := by omega
 obtain ⟨c, hc⟩ : ∃ c, (bytes s)[0]? = some c := ⟨_, List.getElem?_eq_getElem (show 0 < (bytes s).length by rw [Y47]; omega)⟩
 have hb := Y60 s 0
 rw [hc] at hb
 have hl := Y9i c.toNat
 obtain ⟨r, hbs⟩ : ∃ r, bytes s = c :: r := by
  cases hx : bytes s with
  | nil => rw [hx] at hc; simp at hc
  | cons a r => rw [hx] at hc; simp at hc; subst hc; exact ⟨r, rfl⟩
 have hn : isNm s = (isL c.toNat && decide (wordN (bytes s) = s.size)) := by
  simp only [isNm, h0, h20, ne_eq, not_false_eq_true, decide_true, Bool.true_and]
  rw [hbs]
 have ew : ((wordN (bytes s) : Int) == (s.size : Int)) = decide (wordN (bytes s) = s.size) := by
  rw [Bool.eq_iff_iff]; simp; omega
 rw [hn]
 cases hL : isL c.toNat
 ·rw [hL] at hl
  ((refine ggb1 (F := _∧_∧_∧_∧_) ⟨h0', hE, h1, h2, hb⟩ hl ?_))
  ((repeat refine Y01 ?_); (refine wta ?_); simp (disch := omega) only [retQ, resD, oneD, rsv, rs, rsL, Y02, List.map_map, bb, bt, zDs, zD, Y00, simprocAttr, Tryz.results127])
 ·rw [hL] at hl
  ((refine ggb2 (F := _∧_∧_∧_∧_∧_) ⟨h0', hE, h1, h2, hb, ew⟩ hl hw ?_))
  ((repeat refine Y01 ?_); (refine wta ?_); simp (disch := omega) only [retQ, resD, oneD, rsv, rs, rsL, Y02, List.map_map, bb, bt, zDs, zD, Y00, simprocAttr, Tryz.results127])
theorem indexFuncBk (l : List Bk) (g : FuncId) (caps : List D) (p : Bk → Bool) (hl : l.length ≤ 1000000) (hp : ∀ x ∈ l, PRet Tryz.prog g ((D.agg (bk1 x) :: caps).map ufa) (bool (p x))) : PRet Tryz.prog 134 [bks l, .fn g caps] (int (idx p l 0)) := by
 refine PRet.intro 1 fun t => ACall.enter tab_ok Tryz.func134 rfl rfl Tryz.ntmps134 (by simp) ?_
 simp only [Y06]
 have hla := Y2w l
 have ha2 := Y2k l
 ((refine ggb0 ha2 ?_))
 ((repeat refine Y01 ?_))
 refine Y04 ?_
 refine Y07 (fun k : Nat => ⟨[(0, bks l), (1, .fn g caps), (7, int l.length), (8, int k)], [], t⟩) (fun k => l.length - k) (fun k => k ≤ l.length ∧ idx p l 0 = idx p (l.drop k) k) 0 ⟨Nat.zero_le _, rfl⟩ (by (simp (disch := omega) only [StLe, tmLe, Y03, hpLe, bl, bb, bt, zDs, zD, Y00, simprocAttr])) fun k ⟨hk, hi⟩ => ?_
 by_cases hlt : k < l.length
 ·obtain ⟨x, hx⟩ : ∃ x, l[k]? = some x := ⟨_, List.getElem?_eq_getElem hlt⟩
  have hm := List.mem_of_getElem? hx
  have hd : l.drop k = x :: l.drop (k + 1) := by
   obtain ⟨h1, h2⟩ := List.getElem?_eq_some_iff.1 hx
   rw [List.drop_eq_getElem_cons h1, h2]
  rw [hd] at hi
  have hra := Y4m l k x hx
  have hc := hp x hm
  ((refine ggb0 (F := _∧_) ⟨@Int.ofNat_lt, hlt⟩ ?_))
  ((repeat refine Y01 ?_))
  refine Y04 ?_
  cases hpx : p x
  ·rw [hpx] at hc
   ((refine ggb0 (F := _∧_∧_) ⟨ha2, hlt, hra⟩ ?_))
   ((refine wka1 hc ?_))
   ((refine gga0 ?_))
   refine ⟨k + 1, ⟨hlt, by rw [hi]; simp [idx, hpx]⟩, by omega, ?_⟩
   (simp (disch := omega) only [StLe, tmLe, Y03, hpLe, bl, bb, bt, zDs, zD, Y00, simprocAttr])
  ·rw [hpx] at hc
   ((refine ggb0 (F := _∧_∧_) ⟨ha2, hlt, hra⟩ ?_))
   ((refine wka1 hc ?_))
   ((refine gga0 ?_))
   ((repeat refine Y01 ?_); (refine wta ?_); simp (disch := omega) only [retQ, resD, oneD, rsv, rs, rsL, Y02, List.map_map, bb, bt, zDs, zD, Y00, simprocAttr, Tryz.results134, hi, idx, hpx])
 ·((refine ggb0 (F := _∧_) ⟨@Int.ofNat_lt, hlt⟩ ?_))
  ((repeat refine Y01 ?_); (refine wta ?_); simp (disch := omega) only [retQ, resD, oneD, rsv, rs, rsL, Y02, List.map_map, bb, bt, zDs, zD, Y00, simprocAttr, Tryz.results134, hi])
  rw [List.drop_eq_nil_of_le (by omega)]; rfl
theorem indexFuncRp (l : List Rp) (g : FuncId) (caps : List D) (p : Rp → Bool) (hl : l.length ≤ 1000000) (hp : ∀ x ∈ l, PRet Tryz.prog g ((D.agg (rp1 x) :: caps).map ufa) (bool (p x))) : PRet Tryz.prog 14 [rps l, .fn g caps] (int (idx p l 0)) := by
 refine PRet.intro 1 fun t => ACall.enter tab_ok Tryz.func14 rfl rfl Tryz.ntmps14 (by simp) ?_
 simp only [Y06]
 have hla := Y23 l
 have ha2 := Y1l l
 ((refine ggb0 ha2 ?_))
 ((repeat refine Y01 ?_))
 refine Y04 ?_
 refine Y07 (fun k : Nat => ⟨[(0, rps l), (1, .fn g caps), (7, int l.length), (8, int k)], [], t⟩) (fun k => l.length - k) (fun k => k ≤ l.length ∧ idx p l 0 = idx p (l.drop k) k) 0 ⟨Nat.zero_le _, rfl⟩ (by (simp (disch := omega) only [StLe, tmLe, Y03, hpLe, bl, bb, bt, zDs, zD, Y00, simprocAttr])) fun k ⟨hk, hi⟩ => ?_
 by_cases hlt : k < l.length
 ·obtain ⟨x, hx⟩ : ∃ x, l[k]? = some x := ⟨_, List.getElem?_eq_getElem hlt⟩
  have hm := List.mem_of_getElem? hx
  have hd : l.drop k = x :: l.drop (k + 1) := by
   obtain ⟨h1, h2⟩ := List.getElem?_eq_some_iff.1 hx
   rw [List.drop_eq_getElem_cons h1, h2]
  rw [hd] at hi
  have hra := Y1s l k x hx
  have hc := hp x hm
  ((refine ggb0 (F := _∧_) ⟨@Int.ofNat_lt, hlt⟩ ?_))
  ((repeat refine Y01 ?_))
  refine Y04 ?_
  cases hpx : p x
  ·rw [hpx] at hc
   ((refine ggb0 (F := _∧_∧_) ⟨ha2, hlt, hra⟩ ?_))
   ((refine wka1 hc ?_))
   ((refine gga0 ?_))
   refine ⟨k + 1, ⟨hlt, by rw [hi]; simp [idx, hpx]⟩, by omega, ?_⟩
   (simp (disch := omega) only [StLe, tmLe, Y03, hpLe, bl, bb, bt, zDs, zD, Y00, simprocAttr])
  ·rw [hpx] at hc
   ((refine ggb0 (F := _∧_∧_) ⟨ha2, hlt, hra⟩ ?_))
   ((refine wka1 hc ?_))
   ((refine gga0 ?_))
   ((repeat refine Y01 ?_); (refine wta ?_); simp (disch := omega) only [retQ, resD, oneD, rsv, rs, rsL, Y02, List.map_map, bb, bt, zDs, zD, Y00, simprocAttr, Tryz.results14, hi, idx, hpx])
 ·((refine ggb0 (F := _∧_) ⟨@Int.ofNat_lt, hlt⟩ ?_))
  ((repeat refine Y01 ?_); (refine wta ?_); simp (disch := omega) only [retQ, resD, oneD, rsv, rs, rsL, Y02, List.map_map, bb, bt, zDs, zD, Y00, simprocAttr, Tryz.results14, hi])
  rw [List.drop_eq_nil_of_le (by omega)]; rfl
theorem indexFuncHd (l : List Hd) (g : FuncId) (caps : List D) (p : Hd → Bool) (hl : l.length ≤ 1000000) (hp : ∀ x ∈ l, PRet Tryz.prog g ((D.agg (hd1 x) :: caps).map ufa) (bool (p x))) : PRet Tryz.prog 86 [hds l, .fn g caps] (int (idx p l 0)) := by
 refine PRet.intro 1 fun t => ACall.enter tab_ok Tryz.func86 rfl rfl Tryz.ntmps86 (by simp) ?_
 simp only [Y06]
 have hla := Y29 l
 have ha2 := Y2a l
 ((refine ggb0 ha2 ?_))
 ((repeat refine Y01 ?_))
 refine Y04 ?_
 refine Y07 (fun k : Nat => ⟨[(0, hds l), (1, .fn g caps), (7, int l.length), (8, int k)], [], t⟩) (fun k => l.length - k) (fun k => k ≤ l.length ∧ idx p l 0 = idx p (l.drop k) k) 0 ⟨Nat.zero_le _, rfl⟩ (by (simp (disch := omega) only [StLe, tmLe, Y03, hpLe, bl, bb, bt, zDs, zD, Y00, simprocAttr])) fun k ⟨hk, hi⟩ => ?_
 by_cases hlt : k < l.length
 ·obtain ⟨x, hx⟩ : ∃ x, l[k]? = some x := ⟨_, List.getElem?_eq_getElem hlt⟩
  have hm := List.mem_of_getElem? hx
  have hd : l.drop k = x :: l.drop (k + 1) := by
   obtain ⟨h1, h2⟩ := List.getElem?_eq_some_iff.1 hx
   rw [List.drop_eq_getElem_cons h1, h2]
  rw [hd] at hi
  have hra := Y28 l k x hx
  have hc := hp x hm
  ((refine ggb0 (F := _∧_) ⟨@Int.ofNat_lt, hlt⟩ ?_))
  ((repeat refine Y01 ?_))
  refine Y04 ?_
  cases hpx : p x
  ·rw [hpx] at hc
   ((refine ggb0 (F := _∧_∧_) ⟨ha2, hlt, hra⟩ ?_))
   ((refine wka1 hc ?_))
   ((refine gga0 ?_))
   refine ⟨k + 1, ⟨hlt, by rw [hi]; simp [idx, hpx]⟩, by omega, ?_⟩
   (simp (disch := omega) only [StLe, tmLe, Y03, hpLe, bl, bb, bt, zDs, zD, Y00, simprocAttr])
  ·rw [hpx] at hc
   ((refine ggb0 (F := _∧_∧_) ⟨ha2, hlt, hra⟩ ?_))
   ((refine wka1 hc ?_))
   ((refine gga0 ?_))
   ((repeat refine Y01 ?_); (refine wta ?_); simp (disch := omega) only [retQ, resD, oneD, rsv, rs, rsL, Y02, List.map_map, bb, bt, zDs, zD, Y00, simprocAttr, Tryz.results86, hi, idx, hpx])
 ·((refine ggb0 (F := _∧_) ⟨@Int.ofNat_lt, hlt⟩ ?_))
  ((repeat refine Y01 ?_); (refine wta ?_); simp (disch := omega) only [retQ, resD, oneD, rsv, rs, rsL, Y02, List.map_map, bb, bt, zDs, zD, Y00, simprocAttr, Tryz.results86, hi])
  rw [List.drop_eq_nil_of_le (by omega)]; rfl
theorem find1 (b : Bk) (nm : ByteArray) : PRet Tryz.prog 135 [.agg (bk1 b), .rp [str nm] 0] (bool (decide (b.nm = nm))) := by
 refine PRet.intro 1 fun t => ACall.enter tab_ok Tryz.func135 rfl rfl Tryz.ntmps135 (by simp) ?_
 simp only [Y06]
 ((refine gga0 ?_))
 ((repeat refine Y01 ?_); (refine wta ?_); simp (disch := omega) only [retQ, resD, oneD, rsv, rs, rsL, Y02, List.map_map, bb, bt, zDs, zD, Y00, simprocAttr, Tryz.results135])
theorem find_ (s : Sy) (nm : ByteArray) (hl : s.bs.length ≤ 1000000) : PRet Tryz.prog 119 [syD s, str nm] (int (findB s.bs nm)) := by
 refine PRet.intro 1 fun t => ACall.enter tab_ok Tryz.func119 rfl rfl Tryz.ntmps119 (by simp) ?_
 simp only [Y06]
 ((refine wqa ?_))
 ((refine AW.freeze (1) (by first | rfl | (simp only [setH, List.getElem?_cons_zero, List.getElem?_cons_succ, fz_bk, fz_rp]; done)) ?_); simp (disch := omega) only [fzT, fz, fzL, Y0d, Y0m, fzH, fzB, eq_self, bb, bt, zDs, zD, Y00, simprocAttr, fz_bk, fz_rp])
 have hI := indexFuncBk s.bs 135 [.rp [str nm] 0] (fun b => decide (b.nm = nm)) hl (fun x _ => find1 x nm)
 ((refine gga1 hI ?_))
 ((repeat refine Y01 ?_); (refine wta ?_); simp (disch := omega) only [retQ, resD, oneD, rsv, rs, rsL, Y02, List.map_map, bb, bt, zDs, zD, Y00, simprocAttr, Tryz.results119, findB])
theorem Y3x (s : Sy) (nm : ByteArray) (hl : s.bs.length ≤ 1000000) : PRet Tryz.prog 76 [syD s, str nm] (int (findB s.bs nm)) := by
 refine PRet.intro 1 fun t => ACall.enter tab_ok Tryz.func76 rfl rfl Tryz.ntmps76 (by simp) ?_
 simp only [Y06]
 have hla := Y2w s.bs
 have ha2 := Y2k s.bs
 ((refine gga0 ?_))
 ((repeat refine Y01 ?_))
 refine Y04 ?_
 refine Y07 (fun k : Nat => ⟨[(1, str nm), (2, .ptr 0 (t + 1) 0), (5, int k)], [some ⟨25, t + 1, [bks s.bs, rps s.rs]⟩], t + 1⟩) (fun k => s.bs.length - k) (fun k => k ≤ s.bs.length ∧ findB s.bs nm = idx (fun x => decide (x.nm = nm)) (s.bs.drop k) k) 0 ⟨Nat.zero_le _, rfl⟩ (by (simp (disch := omega) only [StLe, tmLe, Y03, hpLe, bl, bb, bt, zDs, zD, Y00, simprocAttr])) fun k ⟨hk, hi⟩ => ?_
 by_cases hlt : k < s.bs.length
 ·obtain ⟨x, hx⟩ : ∃ x, s.bs[k]? = some x := ⟨_, List.getElem?_eq_getElem hlt⟩
  have hd : s.bs.drop k = x :: s.bs.drop (k + 1) := by
   obtain ⟨h1, h2⟩ := List.getElem?_eq_some_iff.1 hx
   rw [List.drop_eq_getElem_cons h1, h2]
  rw [hd] at hi
  have hra := Y75 s.bs k x hx
  ((refine ggb0 (F := _∧_∧_) ⟨@Int.ofNat_lt, hlt, ha2⟩ ?_))
  ((repeat refine Y01 ?_))
  refine Y04 ?_
  by_cases hpx : x.nm = nm
  ·((refine ggb0 (F := _∧_∧_∧_) ⟨ha2, hlt, hra, hpx⟩ ?_))
   ((repeat refine Y01 ?_); (refine wta ?_); simp (disch := omega) only [retQ, resD, oneD, rsv, rs, rsL, Y02, List.map_map, bb, bt, zDs, zD, Y00, simprocAttr, Tryz.results76, hi, idx, hpx, decide_true])
  ·((refine ggb0 (F := _∧_∧_∧_) ⟨ha2, hlt, hra, hpx⟩ ?_))
   refine ⟨k + 1, ⟨hlt, by rw [hi]; simp [idx, hpx]⟩, by omega, ?_⟩
   (simp (disch := omega) only [StLe, tmLe, Y03, hpLe, bl, bb, bt, zDs, zD, Y00, simprocAttr])
 ·((refine ggb0 (F := _∧_∧_) ⟨@Int.ofNat_lt, hlt, ha2⟩ ?_))
  ((repeat refine Y01 ?_); (refine wta ?_); simp (disch := omega) only [retQ, resD, oneD, rsv, rs, rsL, Y02, List.map_map, bb, bt, zDs, zD, Y00, simprocAttr, Tryz.results76, hi])
  rw [List.drop_eq_nil_of_le (by omega)]; rfl
theorem refFindRope (s : Sy) (nm : ByteArray) (hl : s.rs.length ≤ 1000000) : PRet Tryz.prog 77 [syD s, str nm] (int (findR s.rs nm)) := by
 refine PRet.intro 1 fun t => ACall.enter tab_ok Tryz.func77 rfl rfl Tryz.ntmps77 (by simp) ?_
 simp only [Y06]
 have hla := Y23 s.rs
 have ha2 := Y1l s.rs
 ((refine gga0 ?_))
 ((repeat refine Y01 ?_))
 refine Y04 ?_
 refine Y07 (fun k : Nat => ⟨[(1, str nm), (2, .ptr 0 (t + 1) 0), (5, int k)], [some ⟨25, t + 1, [bks s.bs, rps s.rs]⟩], t + 1⟩) (fun k => s.rs.length - k) (fun k => k ≤ s.rs.length ∧ findR s.rs nm = idx (fun x => decide (x.nm = nm)) (s.rs.drop k) k) 0 ⟨Nat.zero_le _, rfl⟩ (by (simp (disch := omega) only [StLe, tmLe, Y03, hpLe, bl, bb, bt, zDs, zD, Y00, simprocAttr])) fun k ⟨hk, hi⟩ => ?_
 by_cases hlt : k < s.rs.length
 ·obtain ⟨x, hx⟩ : ∃ x, s.rs[k]? = some x := ⟨_, List.getElem?_eq_getElem hlt⟩
  have hd : s.rs.drop k = x :: s.rs.drop (k + 1) := by
   obtain ⟨h1, h2⟩ := List.getElem?_eq_some_iff.1 hx
   rw [List.drop_eq_getElem_cons h1, h2]
  rw [hd] at hi
  have hra := Ydg s.rs k x hx
  ((refine ggb0 (F := _∧_∧_) ⟨@Int.ofNat_lt, hlt, ha2⟩ ?_))
  ((repeat refine Y01 ?_))
  refine Y04 ?_
  by_cases hpx : x.nm = nm
  ·((refine ggb0 (F := _∧_∧_∧_) ⟨ha2, hlt, hra, hpx⟩ ?_))
   ((repeat refine Y01 ?_); (refine wta ?_); simp (disch := omega) only [retQ, resD, oneD, rsv, rs, rsL, Y02, List.map_map, bb, bt, zDs, zD, Y00, simprocAttr, Tryz.results77, hi, idx, hpx, decide_true])
  ·((refine ggb0 (F := _∧_∧_∧_) ⟨ha2, hlt, hra, hpx⟩ ?_))
   refine ⟨k + 1, ⟨hlt, by rw [hi]; simp [idx, hpx]⟩, by omega, ?_⟩
   (simp (disch := omega) only [StLe, tmLe, Y03, hpLe, bl, bb, bt, zDs, zD, Y00, simprocAttr])
 ·((refine ggb0 (F := _∧_∧_) ⟨@Int.ofNat_lt, hlt, ha2⟩ ?_))
  ((repeat refine Y01 ?_); (refine wta ?_); simp (disch := omega) only [retQ, resD, oneD, rsv, rs, rsL, Y02, List.map_map, bb, bt, zDs, zD, Y00, simprocAttr, Tryz.results77, hi])
  rw [List.drop_eq_nil_of_le (by omega)]; rfl
end Go.Proofs.YtpcakodemleoiaaGreat.T
end

