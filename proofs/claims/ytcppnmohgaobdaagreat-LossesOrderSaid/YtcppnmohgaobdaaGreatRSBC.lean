import Derived.Test.YtcppnmohgaobdaaGreatRSA
import Derived.Test.YtcppnmohgaobdaaGreatRWA
import Derived.Test.YtcppnmohgaobdaaGreatRRatioA
set_option linter.all false
section
namespace Go.Proofs.YtcppnmohgaobdaaGreat.T
open Go Go.RowKit
def bytes (s : ByteArray) : List UInt8 := s.data.toList
theorem bytes_len (s : ByteArray) : (bytes s).length = s.size := rfl
theorem bytes_get (s : ByteArray) (i : Nat) : s[i]? = (bytes s)[i]? := by
  by_cases h : i < s.size
  · rw [getElem?_pos s i h, List.getElem?_eq_getElem (show i < (bytes s).length from h)]
    rfl
  · rw [getElem?_neg s i h, List.getElem?_eq_none (show (bytes s).length ≤ i by rw [bytes_len]; omega)]
theorem empty_size (s : ByteArray) : decide (s = ⟨#[]⟩) = decide (s.size = 0) := by
  rw [Bool.eq_iff_iff]
  simp only [decide_eq_true_eq]
  constructor
  · rintro rfl; rfl
  · intro h
    cases s with
    | mk a => exact congrArg _ (Array.eq_empty_of_size_eq_zero h)
instance instLawfulNames : LawfulBEq ByteArray where
  eq_of_beq {a b} h := by rw [str_beq] at h; simpa using h
  rfl {a} := by rw [str_beq]; simp
def isL (c : Int) : Bool := (decide (97 ≤ c) && decide (c ≤ 122)) || (decide (65 ≤ c) && decide (c ≤ 90))
def isDg (c : Int) : Bool := decide (48 ≤ c) && decide (c ≤ 57)
def wordB (c : UInt8) : Bool := isL c.toNat || isDg c.toNat || ((c.toNat : Int) == 95)
def wordN (l : List UInt8) : Nat := (l.takeWhile wordB).length
def isNm (s : ByteArray) : Bool := decide (s.size ≠ 0) && decide (s.size ≤ 20) && (match bytes s with | c :: _ => isL c.toNat | [] => false) && decide (wordN (bytes s) = s.size)
theorem wordN_step {l : List UInt8} {k : Nat} {c : UInt8} (h : l[k]? = some c) (hk : wordN l = k + wordN (l.drop k)) : wordN (l.drop k) = if wordB c = true then 1 + wordN (l.drop (k + 1)) else 0 := by
  obtain ⟨h1, h2⟩ := List.getElem?_eq_some_iff.1 h
  rw [List.drop_eq_getElem_cons h1, h2]
  unfold wordN
  rw [List.takeWhile_cons]
  split <;> simp
  omega
def findB (bs : List Bk) (nm : ByteArray) : Int := idx (fun b => decide (b.nm = nm)) bs 0
def findR (rs : List Rp) (nm : ByteArray) : Int := idx (fun r => decide (r.nm = nm)) rs 0
def lossy (n d : Int) : Bool := vfrac n d && decide (d ≤ n) && decide (n ≤ 100)
def okHold (bs : List Bk) (h : Hd) (e : Bool) : Bool :=
  (if e = true then (h.n == 1 && h.d == 1) else lossy h.n h.d) &&
  (if h.b = ⟨#[]⟩ then h.p == 0 else decide (0 ≤ findB bs h.b) && (if e = true then (h.p == 1 || h.p == -1) else (h.p == 2 || h.p == 0 || h.p == -2)))
def endH (n i : Nat) : Bool := i == 0 || i + 1 == n
def okHolds (bs : List Bk) (hs : List Hd) : Bool := (List.range hs.length).all fun i => match hs[i]? with | some h => okHold bs h (endH hs.length i) | none => true
def okRope (bs : List Bk) (r : Rp) : Bool := decide (2 ≤ r.hs.length ∧ r.hs.length ≤ 10) && okHolds bs r.hs && (!r.hl || (match r.hs.getLast? with | some h => decide (h.b = ⟨#[]⟩) | none => true))
def bNames (bs : List Bk) : List ByteArray := bs.map (·.nm)
def rNames (rs : List Rp) : List ByteArray := rs.map (·.nm)
def okB (bs : List Bk) (k : Nat) : Bool := match bs[k]? with | some b => isNm b.nm && !(bNames (bs.take k)).contains b.nm && decide (0 ≤ b.w ∧ b.w ≤ 16777216) | none => true
def okR (s : Sy) (k : Nat) : Bool := match s.rs[k]? with | some r => isNm r.nm && !(bNames s.bs ++ rNames (s.rs.take k)).contains r.nm && okRope s.bs r | none => true
def hauls (rs : List Rp) : Nat := (rs.filter (·.hl)).length
def okSize (s : Sy) : Bool := decide (1 ≤ s.bs.length ∧ s.bs.length ≤ 6) && decide (1 ≤ s.rs.length ∧ s.rs.length ≤ 6)
def validS (s : Sy) : Bool := okSize s && (List.range s.bs.length).all (okB s.bs) && (List.range s.rs.length).all (okR s) && decide (hauls s.rs ≤ 1)
theorem upto_all {p : Nat → Bool} {n : Nat} (h : ∀ k, k < n → p k = true) : (List.range n).all p = true := List.all_eq_true.2 fun x hx => h x (List.mem_range.1 hx)
theorem upto_not {p : Nat → Bool} {n k : Nat} (hk : k < n) (h : p k = false) : (List.range n).all p = false := by
  rw [← Bool.not_eq_true, List.all_eq_true]
  intro hh
  rw [hh k (List.mem_range.2 hk)] at h
  cases h
theorem idx_first {α : Type} (p : α → Bool) : ∀ (l : List α) (n k : Nat) (x : α), l[k]? = some x → p x = true → ((l.take k).any p = false ↔ idx p l n = (n + k : Nat))
  | [], n, k, x, h, _ => by simp at h
  | y :: l, n, 0, x, h, hp => by simp at h; subst h; simp [idx, hp]
  | y :: l, n, k + 1, x, h, hp => by
    have ih := idx_first p l (n + 1) k x (by simpa using h) hp
    rw [List.take_succ_cons, List.any_cons]
    cases hy : p y
    · simp only [Bool.false_or, idx, hy, Bool.false_eq_true, if_false]
      rw [ih, show n + 1 + k = n + (k + 1) by omega]
    · simp only [Bool.true_or, idx, hy, if_true]
      constructor
      · intro h; cases h
      · intro h; exfalso; omega
theorem idx_lt {α : Type} (p : α → Bool) : ∀ (l : List α) (n : Nat), (l.any p = true → ∃ k x, idx p l n = (n + k : Nat) ∧ l[k]? = some x ∧ p x = true) ∧ (l.any p = false → idx p l n = -1)
  | [], n => by simp [idx]
  | y :: l, n => by
    obtain ⟨h1, h2⟩ := idx_lt p l (n + 1)
    rw [List.any_cons]
    cases hy : p y
    · simp only [Bool.false_or, idx, hy, Bool.false_eq_true, if_false]
      refine ⟨fun h => ?_, h2⟩
      obtain ⟨k, x, e, hk, hx⟩ := h1 h
      exact ⟨k + 1, x, by rw [e]; congr 1; omega, by simpa using hk, hx⟩
    · simp only [Bool.true_or, idx, hy, if_true]
      exact ⟨fun _ => ⟨0, y, by simp, rfl, hy⟩, fun h => by cases h⟩
end Go.Proofs.YtcppnmohgaobdaaGreat.T
end
section
namespace Go.Proofs.YtcppnmohgaobdaaGreat.T
open Go Go.RowKit
theorem letter_ref (c : Int) : PRet Tryz.prog 46 [.v (.int .u8 c)] (bool (isL c)) := by
  refine PRet.intro 1 fun t => ACall.enter tab_ok Tryz.func46 rfl rfl Tryz.ntmps46 (by simp) ?_
  simp only [enterTM]
  by_cases h1 : 97 ≤ c <;> by_cases h2 : c ≤ 122 <;> by_cases h3 : 65 ≤ c <;> by_cases h4 : c ≤ 90 <;>
  · ((refine ggb0 (F := _∧_∧_∧_) ⟨h1, h2, h3, h4⟩ ?_))
    ((repeat refine AW_seq ?_); (refine wta ?_); simp (disch := omega) only [retQ, resD, oneD, rsv, rs, rsL, rsL_eq_map, List.map_map, bb, bt, zDs, zD, eqCells, simprocAttr, Tryz.results46, isL, h1, h2, h3, h4, Bool.or_true, Bool.or_false, Bool.or_self])
theorem letter_dec (c : Int) : PRet Tryz.prog 87 [.v (.int .u8 c)] (bool (isL c)) := by
  refine PRet.intro 1 fun t => ACall.enter tab_ok Tryz.func87 rfl rfl Tryz.ntmps87 (by simp) ?_
  simp only [enterTM]
  by_cases h1 : 97 ≤ c <;> by_cases h2 : c ≤ 122 <;> by_cases h3 : 65 ≤ c <;> by_cases h4 : c ≤ 90 <;>
  · ((refine ggb0 (F := _∧_∧_∧_) ⟨h1, h2, h3, h4⟩ ?_))
    ((repeat refine AW_seq ?_); (refine wta ?_); simp (disch := omega) only [retQ, resD, oneD, rsv, rs, rsL, rsL_eq_map, List.map_map, bb, bt, zDs, zD, eqCells, simprocAttr, Tryz.results87, isL, h1, h2, h3, h4, Bool.or_true, Bool.or_false, Bool.or_self])
theorem digit_ref (c : Int) : PRet Tryz.prog 62 [.v (.int .u8 c)] (bool (isDg c)) := by
  refine PRet.intro 1 fun t => ACall.enter tab_ok Tryz.func62 rfl rfl Tryz.ntmps62 (by simp) ?_
  simp only [enterTM]
  by_cases h1 : 48 ≤ c <;> by_cases h2 : c ≤ 57 <;>
  · ((refine ggb0 (F := _∧_) ⟨h1, h2⟩ ?_))
    ((repeat refine AW_seq ?_); (refine wta ?_); simp (disch := omega) only [retQ, resD, oneD, rsv, rs, rsL, rsL_eq_map, List.map_map, bb, bt, zDs, zD, eqCells, simprocAttr, Tryz.results62, isDg, h1, h2])
theorem digit_dec (c : Int) : PRet Tryz.prog 102 [.v (.int .u8 c)] (bool (isDg c)) := by
  refine PRet.intro 1 fun t => ACall.enter tab_ok Tryz.func102 rfl rfl Tryz.ntmps102 (by simp) ?_
  simp only [enterTM]
  by_cases h1 : 48 ≤ c <;> by_cases h2 : c ≤ 57 <;>
  · ((refine ggb0 (F := _∧_) ⟨h1, h2⟩ ?_))
    ((repeat refine AW_seq ?_); (refine wta ?_); simp (disch := omega) only [retQ, resD, oneD, rsv, rs, rsL, rsL_eq_map, List.map_map, bb, bt, zDs, zD, eqCells, simprocAttr, Tryz.results102, isDg, h1, h2])
theorem word_ref (s : ByteArray) (hs : s.size ≤ 1000000) : PRet Tryz.prog 47 [str s, int 0] (int (wordN (bytes s))) := by
  refine PRet.intro 1 fun t => ACall.enter tab_ok Tryz.func47 rfl rfl Tryz.ntmps47 (by simp) ?_
  simp only [enterTM]
  ((refine gga0 ?_))
  ((repeat refine AW_seq ?_))
  refine AW_block ?_
  refine AW_loop_w (fun k : Nat => ⟨[(0, str s), (1, int k)], [], t⟩) (fun k => s.size - k) (fun k => k ≤ s.size ∧ wordN (bytes s) = k + wordN ((bytes s).drop k)) 0 ⟨Nat.zero_le _, by simp⟩ (by (simp (disch := omega) only [StLe, tmLe, hpLe_refl, hpLe, bl, bb, bt, zDs, zD, eqCells, simprocAttr])) fun k ⟨hk, hi⟩ => ?_
  by_cases hlt : k < s.size
  · obtain ⟨c, hc⟩ : ∃ c, (bytes s)[k]? = some c := ⟨_, List.getElem?_eq_getElem hlt⟩
    have hb := bytes_get s k
    rw [hc] at hb
    have hst := wordN_step hc hi
    have hl := letter_ref c.toNat
    have hd := digit_ref c.toNat
    cases h1 : isL c.toNat
    · rw [h1] at hl
      cases h2 : isDg c.toNat
      · rw [h2] at hd
        cases h3 : ((c.toNat : Int) == 95)
        · have hw : wordB c = false := by simp only [wordB, h1, h2, h3, Bool.or_self]
          rw [hw] at hst
          ((refine ggb2 (F := _∧_∧_∧_) ⟨@Int.ofNat_lt, hlt, hb, h3⟩ hl hd ?_))
          rw [if_neg (by decide)] at hst
          ((repeat refine AW_seq ?_); (refine wta ?_); simp (disch := omega) only [retQ, resD, oneD, rsv, rs, rsL, rsL_eq_map, List.map_map, bb, bt, zDs, zD, eqCells, simprocAttr, Tryz.results47])
          rw [hi, hst]; simp
        · have hw : wordB c = true := by simp only [wordB, h1, h2, h3, Bool.or_true]
          rw [hw, if_pos rfl] at hst
          ((refine ggb2 (F := _∧_∧_∧_) ⟨@Int.ofNat_lt, hlt, hb, h3⟩ hl hd ?_))
          ((repeat refine AW_seq ?_))
          refine AW_block ?_
          ((refine gga0 ?_))
          refine ⟨k + 1, ⟨hlt, by omega⟩, by omega, ?_⟩
          (simp (disch := omega) only [StLe, tmLe, hpLe_refl, hpLe, bl, bb, bt, zDs, zD, eqCells, simprocAttr])
      · rw [h2] at hd
        have hw : wordB c = true := by simp only [wordB, h1, h2, Bool.or_true, Bool.true_or]
        rw [hw, if_pos rfl] at hst
        ((refine ggb2 (F := _∧_∧_) ⟨@Int.ofNat_lt, hlt, hb⟩ hl hd ?_))
        ((repeat refine AW_seq ?_))
        refine AW_block ?_
        ((refine gga0 ?_))
        refine ⟨k + 1, ⟨hlt, by omega⟩, by omega, ?_⟩
        (simp (disch := omega) only [StLe, tmLe, hpLe_refl, hpLe, bl, bb, bt, zDs, zD, eqCells, simprocAttr])
    · rw [h1] at hl
      have hw : wordB c = true := by simp only [wordB, h1, Bool.true_or]
      rw [hw, if_pos rfl] at hst
      ((refine ggb1 (F := _∧_∧_) ⟨@Int.ofNat_lt, hlt, hb⟩ hl ?_))
      ((repeat refine AW_seq ?_))
      refine AW_block ?_
      ((refine gga0 ?_))
      refine ⟨k + 1, ⟨hlt, by omega⟩, by omega, ?_⟩
      (simp (disch := omega) only [StLe, tmLe, hpLe_refl, hpLe, bl, bb, bt, zDs, zD, eqCells, simprocAttr])
  · have hke : k = s.size := by omega
    subst hke
    rw [List.drop_eq_nil_of_le (by rw [bytes_len]; exact Nat.le_refl _)] at hi
    ((refine ggb0 @Int.lt_irrefl ?_))
    ((repeat refine AW_seq ?_); (refine wta ?_); simp (disch := omega) only [retQ, resD, oneD, rsv, rs, rsL, rsL_eq_map, List.map_map, bb, bt, zDs, zD, eqCells, simprocAttr, Tryz.results47])
    rw [hi]; simp [wordN]
theorem word_dec (s : ByteArray) (hs : s.size ≤ 1000000) : PRet Tryz.prog 88 [str s] (int (wordN (bytes s))) := by
  refine PRet.intro 1 fun t => ACall.enter tab_ok Tryz.func88 rfl rfl Tryz.ntmps88 (by simp) ?_
  simp only [enterTM]
  ((refine gga0 ?_))
  ((repeat refine AW_seq ?_))
  refine AW_block ?_
  refine AW_loop_w (fun k : Nat => ⟨[(0, str s), (3, int k)], [], t⟩) (fun k => s.size - k) (fun k => k ≤ s.size ∧ wordN (bytes s) = k + wordN ((bytes s).drop k)) 0 ⟨Nat.zero_le _, by simp⟩ (by (simp (disch := omega) only [StLe, tmLe, hpLe_refl, hpLe, bl, bb, bt, zDs, zD, eqCells, simprocAttr])) fun k ⟨hk, hi⟩ => ?_
  by_cases hlt : k < s.size
  · obtain ⟨c, hc⟩ : ∃ c, (bytes s)[k]? = some c := ⟨_, List.getElem?_eq_getElem hlt⟩
    have hb := bytes_get s k
    rw [hc] at hb
    have hst := wordN_step hc hi
    have hl := letter_dec c.toNat
    have hd := digit_dec c.toNat
    cases h1 : isL c.toNat
    · rw [h1] at hl
      cases h2 : isDg c.toNat
      · rw [h2] at hd
        cases h3 : ((c.toNat : Int) == 95)
        · have hw : wordB c = false := by simp only [wordB, h1, h2, h3, Bool.or_self]
          rw [hw] at hst
          ((refine ggb2 (F := _∧_∧_∧_) ⟨@Int.ofNat_lt, hlt, hb, h3⟩ hl hd ?_))
          rw [if_neg (by decide)] at hst
          ((repeat refine AW_seq ?_); (refine wta ?_); simp (disch := omega) only [retQ, resD, oneD, rsv, rs, rsL, rsL_eq_map, List.map_map, bb, bt, zDs, zD, eqCells, simprocAttr, Tryz.results88])
          rw [hi, hst]; simp
        · have hw : wordB c = true := by simp only [wordB, h1, h2, h3, Bool.or_true]
          rw [hw, if_pos rfl] at hst
          ((refine ggb2 (F := _∧_∧_∧_) ⟨@Int.ofNat_lt, hlt, hb, h3⟩ hl hd ?_))
          ((repeat refine AW_seq ?_))
          refine AW_block ?_
          ((refine gga0 ?_))
          refine ⟨k + 1, ⟨hlt, by omega⟩, by omega, ?_⟩
          (simp (disch := omega) only [StLe, tmLe, hpLe_refl, hpLe, bl, bb, bt, zDs, zD, eqCells, simprocAttr])
      · rw [h2] at hd
        have hw : wordB c = true := by simp only [wordB, h1, h2, Bool.or_true, Bool.true_or]
        rw [hw, if_pos rfl] at hst
        ((refine ggb2 (F := _∧_∧_) ⟨@Int.ofNat_lt, hlt, hb⟩ hl hd ?_))
        ((repeat refine AW_seq ?_))
        refine AW_block ?_
        ((refine gga0 ?_))
        refine ⟨k + 1, ⟨hlt, by omega⟩, by omega, ?_⟩
        (simp (disch := omega) only [StLe, tmLe, hpLe_refl, hpLe, bl, bb, bt, zDs, zD, eqCells, simprocAttr])
    · rw [h1] at hl
      have hw : wordB c = true := by simp only [wordB, h1, Bool.true_or]
      rw [hw, if_pos rfl] at hst
      ((refine ggb1 (F := _∧_∧_) ⟨@Int.ofNat_lt, hlt, hb⟩ hl ?_))
      ((repeat refine AW_seq ?_))
      refine AW_block ?_
      ((refine gga0 ?_))
      refine ⟨k + 1, ⟨hlt, by omega⟩, by omega, ?_⟩
      (simp (disch := omega) only [StLe, tmLe, hpLe_refl, hpLe, bl, bb, bt, zDs, zD, eqCells, simprocAttr])
  · have hke : k = s.size := by omega
    subst hke
    rw [List.drop_eq_nil_of_le (by rw [bytes_len]; exact Nat.le_refl _)] at hi
    ((refine ggb0 @Int.lt_irrefl ?_))
    ((repeat refine AW_seq ?_); (refine wta ?_); simp (disch := omega) only [retQ, resD, oneD, rsv, rs, rsL, rsL_eq_map, List.map_map, bb, bt, zDs, zD, eqCells, simprocAttr, Tryz.results88])
    rw [hi]; simp [wordN]
theorem isName_ref (s : ByteArray) (hs : s.size ≤ 1000000) : PRet Tryz.prog 32 [str s] (bool (isNm s)) := by
  refine PRet.intro 1 fun t => ACall.enter tab_ok Tryz.func32 rfl rfl Tryz.ntmps32 (by simp) ?_
  simp only [enterTM]
  have he := empty_size s
  have hw := word_ref s hs
  by_cases h0 : s.size = 0
  · have hn : isNm s = false := by simp [isNm, h0]
    have hE : s = ⟨#[]⟩ := by rw [decide_eq_decide] at he; exact he.2 h0
    have h0' : ((s.size : Int) == 0) = true := by simp [h0]
    rw [hn]
    ((refine ggb0 (F := _∧_) ⟨h0', hE⟩ ?_))
    ((repeat refine AW_seq ?_); (refine wta ?_); simp (disch := omega) only [retQ, resD, oneD, rsv, rs, rsL, rsL_eq_map, List.map_map, bb, bt, zDs, zD, eqCells, simprocAttr, Tryz.results32])
  have hE : ¬ s = ⟨#[]⟩ := fun h => h0 (by rw [h]; rfl)
  have h0' : ((s.size : Int) == 0) = false := by rw [beq_eq_false_iff_ne]; omega
  by_cases h20 : s.size ≤ 20
  rotate_left 1
  · have hn : isNm s = false := by simp [isNm, h20]
    have h1 : ¬ (s.size : Int) ≤ 20 := by omega
    have h2 : (20 : Int) < s.size := by omega
    rw [hn]
    ((refine ggb0 (F := _∧_∧_∧_) ⟨h0', hE, h1, h2⟩ ?_))
    ((repeat refine AW_seq ?_); (refine wta ?_); simp (disch := omega) only [retQ, resD, oneD, rsv, rs, rsL, rsL_eq_map, List.map_map, bb, bt, zDs, zD, eqCells, simprocAttr, Tryz.results32])
  have h1 : (s.size : Int) ≤ 20 := by omega
  have h2 : ¬ (20 : Int) < s.size := by omega
  obtain ⟨c, hc⟩ : ∃ c, (bytes s)[0]? = some c := ⟨_, List.getElem?_eq_getElem (show 0 < (bytes s).length by rw [bytes_len]; omega)⟩
  have hb := bytes_get s 0
  rw [hc] at hb
  have hl := letter_ref c.toNat
  obtain ⟨r, hbs⟩ : ∃ r, bytes s = c :: r := by
    cases hx : bytes s with
    | nil => rw [hx] at hc; simp at hc
    | cons a r => rw [hx] at hc; simp at hc; subst hc; exact ⟨r, rfl⟩
  have hn : isNm s = (isL c.toNat && decide (wordN (bytes s) = s.size)) := by
    simp only [isNm, h0, h20, ne_eq, not_false_eq_true, decide_true, Bool.true_and]
    rw [hbs]
  have ew : ((wordN (bytes s) : Int) == (s.size : Int)) = decide (wordN (bytes s) = s.size) := by
    rw [Bool.eq_iff_iff]; simp; omega
  rw [hn]
  cases hL : isL c.toNat
  · rw [hL] at hl
    ((refine ggb1 (F := _∧_∧_∧_∧_) ⟨h0', hE, h1, h2, hb⟩ hl ?_))
    ((repeat refine AW_seq ?_); (refine wta ?_); simp (disch := omega) only [retQ, resD, oneD, rsv, rs, rsL, rsL_eq_map, List.map_map, bb, bt, zDs, zD, eqCells, simprocAttr, Tryz.results32])
  · rw [hL] at hl
    ((refine ggb2 (F := _∧_∧_∧_∧_∧_) ⟨h0', hE, h1, h2, hb, ew⟩ hl hw ?_))
    ((repeat refine AW_seq ?_); (refine wta ?_); simp (disch := omega) only [retQ, resD, oneD, rsv, rs, rsL, rsL_eq_map, List.map_map, bb, bt, zDs, zD, eqCells, simprocAttr, Tryz.results32])
theorem isName_dec (s : ByteArray) (hs : s.size ≤ 1000000) : PRet Tryz.prog 76 [str s] (bool (isNm s)) := by
  refine PRet.intro 1 fun t => ACall.enter tab_ok Tryz.func76 rfl rfl Tryz.ntmps76 (by simp) ?_
  simp only [enterTM]
  have he := empty_size s
  have hw := word_dec s hs
  by_cases h0 : s.size = 0
  · have hn : isNm s = false := by simp [isNm, h0]
    have hE : s = ⟨#[]⟩ := by rw [decide_eq_decide] at he; exact he.2 h0
    have h0' : ((s.size : Int) == 0) = true := by simp [h0]
    rw [hn]
    ((refine ggb0 (F := _∧_) ⟨h0', hE⟩ ?_))
    ((repeat refine AW_seq ?_); (refine wta ?_); simp (disch := omega) only [retQ, resD, oneD, rsv, rs, rsL, rsL_eq_map, List.map_map, bb, bt, zDs, zD, eqCells, simprocAttr, Tryz.results76])
  have hE : ¬ s = ⟨#[]⟩ := fun h => h0 (by rw [h]; rfl)
  have h0' : ((s.size : Int) == 0) = false := by rw [beq_eq_false_iff_ne]; omega
  by_cases h20 : s.size ≤ 20
  rotate_left 1
  · have hn : isNm s = false := by simp [isNm, h20]
    have h1 : ¬ (s.size : Int) ≤ 20 := by omega
    have h2 : (20 : Int) < s.size := by omega
    rw [hn]
    ((refine ggb0 (F := _∧_∧_∧_) ⟨h0', hE, h1, h2⟩ ?_))
    ((repeat refine AW_seq ?_); (refine wta ?_); simp (disch := omega) only [retQ, resD, oneD, rsv, rs, rsL, rsL_eq_map, List.map_map, bb, bt, zDs, zD, eqCells, simprocAttr, Tryz.results76])
  have h1 : (s.size : Int) ≤ 20 := by omega
  have h2 : ¬ (20 : Int) < s.size := by omega
  obtain ⟨c, hc⟩ : ∃ c, (bytes s)[0]? = some c := ⟨_, List.getElem?_eq_getElem (show 0 < (bytes s).length by rw [bytes_len]; omega)⟩
  have hb := bytes_get s 0
  rw [hc] at hb
  have hl := letter_dec c.toNat
  obtain ⟨r, hbs⟩ : ∃ r, bytes s = c :: r := by
    cases hx : bytes s with
    | nil => rw [hx] at hc; simp at hc
    | cons a r => rw [hx] at hc; simp at hc; subst hc; exact ⟨r, rfl⟩
  have hn : isNm s = (isL c.toNat && decide (wordN (bytes s) = s.size)) := by
    simp only [isNm, h0, h20, ne_eq, not_false_eq_true, decide_true, Bool.true_and]
    rw [hbs]
  have ew : ((wordN (bytes s) : Int) == (s.size : Int)) = decide (wordN (bytes s) = s.size) := by
    rw [Bool.eq_iff_iff]; simp; omega
  rw [hn]
  cases hL : isL c.toNat
  · rw [hL] at hl
    ((refine ggb1 (F := _∧_∧_∧_∧_) ⟨h0', hE, h1, h2, hb⟩ hl ?_))
    ((repeat refine AW_seq ?_); (refine wta ?_); simp (disch := omega) only [retQ, resD, oneD, rsv, rs, rsL, rsL_eq_map, List.map_map, bb, bt, zDs, zD, eqCells, simprocAttr, Tryz.results76])
  · rw [hL] at hl
    ((refine ggb2 (F := _∧_∧_∧_∧_∧_) ⟨h0', hE, h1, h2, hb, ew⟩ hl hw ?_))
    ((repeat refine AW_seq ?_); (refine wta ?_); simp (disch := omega) only [retQ, resD, oneD, rsv, rs, rsL, rsL_eq_map, List.map_map, bb, bt, zDs, zD, eqCells, simprocAttr, Tryz.results76])
theorem indexFuncBk (l : List Bk) (g : FuncId) (caps : List D) (p : Bk → Bool) (hl : l.length ≤ 1000000) (hp : ∀ x ∈ l, PRet Tryz.prog g ((D.agg (bk1 x) :: caps).map ufa) (bool (p x))) : PRet Tryz.prog 94 [bks l, .fn g caps] (int (idx p l 0)) := by
  refine PRet.intro 1 fun t => ACall.enter tab_ok Tryz.func94 rfl rfl Tryz.ntmps94 (by simp) ?_
  simp only [enterTM]
  have hla := bkC_len l
  have ha2 := bkC_div l
  ((refine ggb0 ha2 ?_))
  ((repeat refine AW_seq ?_))
  refine AW_block ?_
  refine AW_loop_w (fun k : Nat => ⟨[(0, bks l), (1, .fn g caps), (7, int l.length), (8, int k)], [], t⟩) (fun k => l.length - k) (fun k => k ≤ l.length ∧ idx p l 0 = idx p (l.drop k) k) 0 ⟨Nat.zero_le _, rfl⟩ (by (simp (disch := omega) only [StLe, tmLe, hpLe_refl, hpLe, bl, bb, bt, zDs, zD, eqCells, simprocAttr])) fun k ⟨hk, hi⟩ => ?_
  by_cases hlt : k < l.length
  · obtain ⟨x, hx⟩ : ∃ x, l[k]? = some x := ⟨_, List.getElem?_eq_getElem hlt⟩
    have hm := List.mem_of_getElem? hx
    have hd : l.drop k = x :: l.drop (k + 1) := by
      obtain ⟨h1, h2⟩ := List.getElem?_eq_some_iff.1 hx
      rw [List.drop_eq_getElem_cons h1, h2]
    rw [hd] at hi
    have hra := bkC_read l k x hx
    have hc := hp x hm
    ((refine ggb0 (F := _∧_) ⟨@Int.ofNat_lt, hlt⟩ ?_))
    ((repeat refine AW_seq ?_))
    refine AW_block ?_
    cases hpx : p x
    · rw [hpx] at hc
      ((refine ggb0 (F := _∧_∧_) ⟨ha2, hlt, hra⟩ ?_))
      ((refine wka1 hc ?_))
      ((refine gga0 ?_))
      refine ⟨k + 1, ⟨hlt, by rw [hi]; simp [idx, hpx]⟩, by omega, ?_⟩
      (simp (disch := omega) only [StLe, tmLe, hpLe_refl, hpLe, bl, bb, bt, zDs, zD, eqCells, simprocAttr])
    · rw [hpx] at hc
      ((refine ggb0 (F := _∧_∧_) ⟨ha2, hlt, hra⟩ ?_))
      ((refine wka1 hc ?_))
      ((refine gga0 ?_))
      ((repeat refine AW_seq ?_); (refine wta ?_); simp (disch := omega) only [retQ, resD, oneD, rsv, rs, rsL, rsL_eq_map, List.map_map, bb, bt, zDs, zD, eqCells, simprocAttr, Tryz.results94, hi, idx, hpx])
  · ((refine ggb0 (F := _∧_) ⟨@Int.ofNat_lt, hlt⟩ ?_))
    ((repeat refine AW_seq ?_); (refine wta ?_); simp (disch := omega) only [retQ, resD, oneD, rsv, rs, rsL, rsL_eq_map, List.map_map, bb, bt, zDs, zD, eqCells, simprocAttr, Tryz.results94, hi])
    rw [List.drop_eq_nil_of_le (by omega)]; rfl
theorem indexFuncRp (l : List Rp) (g : FuncId) (caps : List D) (p : Rp → Bool) (hl : l.length ≤ 1000000) (hp : ∀ x ∈ l, PRet Tryz.prog g ((D.agg (rp1 x) :: caps).map ufa) (bool (p x))) : PRet Tryz.prog 36 [rps l, .fn g caps] (int (idx p l 0)) := by
  refine PRet.intro 1 fun t => ACall.enter tab_ok Tryz.func36 rfl rfl Tryz.ntmps36 (by simp) ?_
  simp only [enterTM]
  have hla := rpC_len l
  have ha2 := rpC_div l
  ((refine ggb0 ha2 ?_))
  ((repeat refine AW_seq ?_))
  refine AW_block ?_
  refine AW_loop_w (fun k : Nat => ⟨[(0, rps l), (1, .fn g caps), (7, int l.length), (8, int k)], [], t⟩) (fun k => l.length - k) (fun k => k ≤ l.length ∧ idx p l 0 = idx p (l.drop k) k) 0 ⟨Nat.zero_le _, rfl⟩ (by (simp (disch := omega) only [StLe, tmLe, hpLe_refl, hpLe, bl, bb, bt, zDs, zD, eqCells, simprocAttr])) fun k ⟨hk, hi⟩ => ?_
  by_cases hlt : k < l.length
  · obtain ⟨x, hx⟩ : ∃ x, l[k]? = some x := ⟨_, List.getElem?_eq_getElem hlt⟩
    have hm := List.mem_of_getElem? hx
    have hd : l.drop k = x :: l.drop (k + 1) := by
      obtain ⟨h1, h2⟩ := List.getElem?_eq_some_iff.1 hx
      rw [List.drop_eq_getElem_cons h1, h2]
    rw [hd] at hi
    have hra := rpC_read l k x hx
    have hc := hp x hm
    ((refine ggb0 (F := _∧_) ⟨@Int.ofNat_lt, hlt⟩ ?_))
    ((repeat refine AW_seq ?_))
    refine AW_block ?_
    cases hpx : p x
    · rw [hpx] at hc
      ((refine ggb0 (F := _∧_∧_) ⟨ha2, hlt, hra⟩ ?_))
      ((refine wka1 hc ?_))
      ((refine gga0 ?_))
      refine ⟨k + 1, ⟨hlt, by rw [hi]; simp [idx, hpx]⟩, by omega, ?_⟩
      (simp (disch := omega) only [StLe, tmLe, hpLe_refl, hpLe, bl, bb, bt, zDs, zD, eqCells, simprocAttr])
    · rw [hpx] at hc
      ((refine ggb0 (F := _∧_∧_) ⟨ha2, hlt, hra⟩ ?_))
      ((refine wka1 hc ?_))
      ((refine gga0 ?_))
      ((repeat refine AW_seq ?_); (refine wta ?_); simp (disch := omega) only [retQ, resD, oneD, rsv, rs, rsL, rsL_eq_map, List.map_map, bb, bt, zDs, zD, eqCells, simprocAttr, Tryz.results36, hi, idx, hpx])
  · ((refine ggb0 (F := _∧_) ⟨@Int.ofNat_lt, hlt⟩ ?_))
    ((repeat refine AW_seq ?_); (refine wta ?_); simp (disch := omega) only [retQ, resD, oneD, rsv, rs, rsL, rsL_eq_map, List.map_map, bb, bt, zDs, zD, eqCells, simprocAttr, Tryz.results36, hi])
    rw [List.drop_eq_nil_of_le (by omega)]; rfl
theorem indexFuncHd (l : List Hd) (g : FuncId) (caps : List D) (p : Hd → Bool) (hl : l.length ≤ 1000000) (hp : ∀ x ∈ l, PRet Tryz.prog g ((D.agg (hd1 x) :: caps).map ufa) (bool (p x))) : PRet Tryz.prog 37 [hds l, .fn g caps] (int (idx p l 0)) := by
  refine PRet.intro 1 fun t => ACall.enter tab_ok Tryz.func37 rfl rfl Tryz.ntmps37 (by simp) ?_
  simp only [enterTM]
  have hla := hdC_len l
  have ha2 := hdC_div l
  ((refine ggb0 ha2 ?_))
  ((repeat refine AW_seq ?_))
  refine AW_block ?_
  refine AW_loop_w (fun k : Nat => ⟨[(0, hds l), (1, .fn g caps), (7, int l.length), (8, int k)], [], t⟩) (fun k => l.length - k) (fun k => k ≤ l.length ∧ idx p l 0 = idx p (l.drop k) k) 0 ⟨Nat.zero_le _, rfl⟩ (by (simp (disch := omega) only [StLe, tmLe, hpLe_refl, hpLe, bl, bb, bt, zDs, zD, eqCells, simprocAttr])) fun k ⟨hk, hi⟩ => ?_
  by_cases hlt : k < l.length
  · obtain ⟨x, hx⟩ : ∃ x, l[k]? = some x := ⟨_, List.getElem?_eq_getElem hlt⟩
    have hm := List.mem_of_getElem? hx
    have hd : l.drop k = x :: l.drop (k + 1) := by
      obtain ⟨h1, h2⟩ := List.getElem?_eq_some_iff.1 hx
      rw [List.drop_eq_getElem_cons h1, h2]
    rw [hd] at hi
    have hra := hdC_read l k x hx
    have hc := hp x hm
    ((refine ggb0 (F := _∧_) ⟨@Int.ofNat_lt, hlt⟩ ?_))
    ((repeat refine AW_seq ?_))
    refine AW_block ?_
    cases hpx : p x
    · rw [hpx] at hc
      ((refine ggb0 (F := _∧_∧_) ⟨ha2, hlt, hra⟩ ?_))
      ((refine wka1 hc ?_))
      ((refine gga0 ?_))
      refine ⟨k + 1, ⟨hlt, by rw [hi]; simp [idx, hpx]⟩, by omega, ?_⟩
      (simp (disch := omega) only [StLe, tmLe, hpLe_refl, hpLe, bl, bb, bt, zDs, zD, eqCells, simprocAttr])
    · rw [hpx] at hc
      ((refine ggb0 (F := _∧_∧_) ⟨ha2, hlt, hra⟩ ?_))
      ((refine wka1 hc ?_))
      ((refine gga0 ?_))
      ((repeat refine AW_seq ?_); (refine wta ?_); simp (disch := omega) only [retQ, resD, oneD, rsv, rs, rsL, rsL_eq_map, List.map_map, bb, bt, zDs, zD, eqCells, simprocAttr, Tryz.results37, hi, idx, hpx])
  · ((refine ggb0 (F := _∧_) ⟨@Int.ofNat_lt, hlt⟩ ?_))
    ((repeat refine AW_seq ?_); (refine wta ?_); simp (disch := omega) only [retQ, resD, oneD, rsv, rs, rsL, rsL_eq_map, List.map_map, bb, bt, zDs, zD, eqCells, simprocAttr, Tryz.results37, hi])
    rw [List.drop_eq_nil_of_le (by omega)]; rfl
theorem find1 (b : Bk) (nm : ByteArray) : PRet Tryz.prog 95 [.agg (bk1 b), .rp [str nm] 0] (bool (decide (b.nm = nm))) := by
  refine PRet.intro 1 fun t => ACall.enter tab_ok Tryz.func95 rfl rfl Tryz.ntmps95 (by simp) ?_
  simp only [enterTM]
  ((refine gga0 ?_))
  ((repeat refine AW_seq ?_); (refine wta ?_); simp (disch := omega) only [retQ, resD, oneD, rsv, rs, rsL, rsL_eq_map, List.map_map, bb, bt, zDs, zD, eqCells, simprocAttr, Tryz.results95])
theorem find_ (s : Sy) (nm : ByteArray) (hl : s.bs.length ≤ 1000000) : PRet Tryz.prog 82 [syD s, str nm] (int (findB s.bs nm)) := by
  refine PRet.intro 1 fun t => ACall.enter tab_ok Tryz.func82 rfl rfl Tryz.ntmps82 (by simp) ?_
  simp only [enterTM]
  ((refine wqa ?_))
  ((refine AW.freeze (1) (by first | rfl | (simp only [setH, List.getElem?_cons_zero, List.getElem?_cons_succ, fz_bk, fz_rp]; done)) ?_); simp (disch := omega) only [fzT, fz, fzL, fzL_ints, fzL_mat, fzH, fzB, eq_self, bb, bt, zDs, zD, eqCells, simprocAttr, fz_bk, fz_rp])
  have hI := indexFuncBk s.bs 95 [.rp [str nm] 0] (fun b => decide (b.nm = nm)) hl (fun x _ => find1 x nm)
  ((refine gga1 hI ?_))
  ((repeat refine AW_seq ?_); (refine wta ?_); simp (disch := omega) only [retQ, resD, oneD, rsv, rs, rsL, rsL_eq_map, List.map_map, bb, bt, zDs, zD, eqCells, simprocAttr, Tryz.results82, findB])
theorem refFindBlock (s : Sy) (nm : ByteArray) (hl : s.bs.length ≤ 1000000) : PRet Tryz.prog 33 [syD s, str nm] (int (findB s.bs nm)) := by
  refine PRet.intro 1 fun t => ACall.enter tab_ok Tryz.func33 rfl rfl Tryz.ntmps33 (by simp) ?_
  simp only [enterTM]
  have hla := bkC_len s.bs
  have ha2 := bkC_div s.bs
  ((refine gga0 ?_))
  ((repeat refine AW_seq ?_))
  refine AW_block ?_
  refine AW_loop_w (fun k : Nat => ⟨[(1, str nm), (2, .ptr 0 (t + 1) 0), (5, int k)], [some ⟨25, t + 1, [bks s.bs, rps s.rs]⟩], t + 1⟩) (fun k => s.bs.length - k) (fun k => k ≤ s.bs.length ∧ findB s.bs nm = idx (fun x => decide (x.nm = nm)) (s.bs.drop k) k) 0 ⟨Nat.zero_le _, rfl⟩ (by (simp (disch := omega) only [StLe, tmLe, hpLe_refl, hpLe, bl, bb, bt, zDs, zD, eqCells, simprocAttr])) fun k ⟨hk, hi⟩ => ?_
  by_cases hlt : k < s.bs.length
  · obtain ⟨x, hx⟩ : ∃ x, s.bs[k]? = some x := ⟨_, List.getElem?_eq_getElem hlt⟩
    have hd : s.bs.drop k = x :: s.bs.drop (k + 1) := by
      obtain ⟨h1, h2⟩ := List.getElem?_eq_some_iff.1 hx
      rw [List.drop_eq_getElem_cons h1, h2]
    rw [hd] at hi
    have hra := bkC_name s.bs k x hx
    ((refine ggb0 (F := _∧_∧_) ⟨@Int.ofNat_lt, hlt, ha2⟩ ?_))
    ((repeat refine AW_seq ?_))
    refine AW_block ?_
    by_cases hpx : x.nm = nm
    · ((refine ggb0 (F := _∧_∧_∧_) ⟨ha2, hlt, hra, hpx⟩ ?_))
      ((repeat refine AW_seq ?_); (refine wta ?_); simp (disch := omega) only [retQ, resD, oneD, rsv, rs, rsL, rsL_eq_map, List.map_map, bb, bt, zDs, zD, eqCells, simprocAttr, Tryz.results33, hi, idx, hpx, decide_true])
    · ((refine ggb0 (F := _∧_∧_∧_) ⟨ha2, hlt, hra, hpx⟩ ?_))
      refine ⟨k + 1, ⟨hlt, by rw [hi]; simp [idx, hpx]⟩, by omega, ?_⟩
      (simp (disch := omega) only [StLe, tmLe, hpLe_refl, hpLe, bl, bb, bt, zDs, zD, eqCells, simprocAttr])
  · ((refine ggb0 (F := _∧_∧_) ⟨@Int.ofNat_lt, hlt, ha2⟩ ?_))
    ((repeat refine AW_seq ?_); (refine wta ?_); simp (disch := omega) only [retQ, resD, oneD, rsv, rs, rsL, rsL_eq_map, List.map_map, bb, bt, zDs, zD, eqCells, simprocAttr, Tryz.results33, hi])
    rw [List.drop_eq_nil_of_le (by omega)]; rfl
theorem refFindRope (s : Sy) (nm : ByteArray) (hl : s.rs.length ≤ 1000000) : PRet Tryz.prog 34 [syD s, str nm] (int (findR s.rs nm)) := by
  refine PRet.intro 1 fun t => ACall.enter tab_ok Tryz.func34 rfl rfl Tryz.ntmps34 (by simp) ?_
  simp only [enterTM]
  have hla := rpC_len s.rs
  have ha2 := rpC_div s.rs
  ((refine gga0 ?_))
  ((repeat refine AW_seq ?_))
  refine AW_block ?_
  refine AW_loop_w (fun k : Nat => ⟨[(1, str nm), (2, .ptr 0 (t + 1) 0), (5, int k)], [some ⟨25, t + 1, [bks s.bs, rps s.rs]⟩], t + 1⟩) (fun k => s.rs.length - k) (fun k => k ≤ s.rs.length ∧ findR s.rs nm = idx (fun x => decide (x.nm = nm)) (s.rs.drop k) k) 0 ⟨Nat.zero_le _, rfl⟩ (by (simp (disch := omega) only [StLe, tmLe, hpLe_refl, hpLe, bl, bb, bt, zDs, zD, eqCells, simprocAttr])) fun k ⟨hk, hi⟩ => ?_
  by_cases hlt : k < s.rs.length
  · obtain ⟨x, hx⟩ : ∃ x, s.rs[k]? = some x := ⟨_, List.getElem?_eq_getElem hlt⟩
    have hd : s.rs.drop k = x :: s.rs.drop (k + 1) := by
      obtain ⟨h1, h2⟩ := List.getElem?_eq_some_iff.1 hx
      rw [List.drop_eq_getElem_cons h1, h2]
    rw [hd] at hi
    have hra := rpC_name s.rs k x hx
    ((refine ggb0 (F := _∧_∧_) ⟨@Int.ofNat_lt, hlt, ha2⟩ ?_))
    ((repeat refine AW_seq ?_))
    refine AW_block ?_
    by_cases hpx : x.nm = nm
    · ((refine ggb0 (F := _∧_∧_∧_) ⟨ha2, hlt, hra, hpx⟩ ?_))
      ((repeat refine AW_seq ?_); (refine wta ?_); simp (disch := omega) only [retQ, resD, oneD, rsv, rs, rsL, rsL_eq_map, List.map_map, bb, bt, zDs, zD, eqCells, simprocAttr, Tryz.results34, hi, idx, hpx, decide_true])
    · ((refine ggb0 (F := _∧_∧_∧_) ⟨ha2, hlt, hra, hpx⟩ ?_))
      refine ⟨k + 1, ⟨hlt, by rw [hi]; simp [idx, hpx]⟩, by omega, ?_⟩
      (simp (disch := omega) only [StLe, tmLe, hpLe_refl, hpLe, bl, bb, bt, zDs, zD, eqCells, simprocAttr])
  · ((refine ggb0 (F := _∧_∧_) ⟨@Int.ofNat_lt, hlt, ha2⟩ ?_))
    ((repeat refine AW_seq ?_); (refine wta ?_); simp (disch := omega) only [retQ, resD, oneD, rsv, rs, rsL, rsL_eq_map, List.map_map, bb, bt, zDs, zD, eqCells, simprocAttr, Tryz.results34, hi])
    rw [List.drop_eq_nil_of_le (by omega)]; rfl
end Go.Proofs.YtcppnmohgaobdaaGreat.T
end

