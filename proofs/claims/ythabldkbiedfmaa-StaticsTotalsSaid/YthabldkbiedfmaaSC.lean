import Derived.Test.YthabldkbiedfmaaSB
set_option linter.all false
namespace Go.Proofs.Ythabldkbiedfmaa.T
open Go Go.RowKit
set_option linter.unusedSimpArgs false

/-! Names and places: the walks. -/
theorem letter_ref (c : Int) : PRet Try.prog 210 [.v (.int .u8 c)] (bool (isL c)) := by
  refine PRet.intro 1 fun t => ACall.enter tab_ok Try.func210 rfl rfl Try.ntmps210 (by simp) ?_
  simp only [enterTM]
  by_cases h1 : 97 ≤ c <;> by_cases h2 : c ≤ 122 <;> by_cases h3 : 65 ≤ c <;> by_cases h4 : c ≤ 90 <;>
  · ((refine ggb0 (F := _∧_∧_∧_) ⟨h1, h2, h3, h4⟩ ?_))
    ((repeat refine AW_seq ?_); (refine wta ?_); simp (disch := omega) only [retQ, resD, oneD, rsv, rs, rsL, rsL_eq_map, List.map_map, bb, bt, zDs, zD, eqCells, simprocAttr, Try.results210, isL, h1, h2, h3, h4, Bool.or_true, Bool.or_false, Bool.or_self])
theorem letter_dec (c : Int) : PRet Try.prog 224 [.v (.int .u8 c)] (bool (isL c)) := by
  refine PRet.intro 1 fun t => ACall.enter tab_ok Try.func224 rfl rfl Try.ntmps224 (by simp) ?_
  simp only [enterTM]
  by_cases h1 : 97 ≤ c <;> by_cases h2 : c ≤ 122 <;> by_cases h3 : 65 ≤ c <;> by_cases h4 : c ≤ 90 <;>
  · ((refine ggb0 (F := _∧_∧_∧_) ⟨h1, h2, h3, h4⟩ ?_))
    ((repeat refine AW_seq ?_); (refine wta ?_); simp (disch := omega) only [retQ, resD, oneD, rsv, rs, rsL, rsL_eq_map, List.map_map, bb, bt, zDs, zD, eqCells, simprocAttr, Try.results224, isL, h1, h2, h3, h4, Bool.or_true, Bool.or_false, Bool.or_self])
theorem digit_ref (c : Int) : PRet Try.prog 233 [.v (.int .u8 c)] (bool (isDg c)) := by
  refine PRet.intro 1 fun t => ACall.enter tab_ok Try.func233 rfl rfl Try.ntmps233 (by simp) ?_
  simp only [enterTM]
  by_cases h1 : 48 ≤ c <;> by_cases h2 : c ≤ 57 <;>
  · ((refine ggb0 (F := _∧_) ⟨h1, h2⟩ ?_))
    ((repeat refine AW_seq ?_); (refine wta ?_); simp (disch := omega) only [retQ, resD, oneD, rsv, rs, rsL, rsL_eq_map, List.map_map, bb, bt, zDs, zD, eqCells, simprocAttr, Try.results233, isDg, h1, h2])
theorem digit_dec (c : Int) : PRet Try.prog 238 [.v (.int .u8 c)] (bool (isDg c)) := by
  refine PRet.intro 1 fun t => ACall.enter tab_ok Try.func238 rfl rfl Try.ntmps238 (by simp) ?_
  simp only [enterTM]
  by_cases h1 : 48 ≤ c <;> by_cases h2 : c ≤ 57 <;>
  · ((refine ggb0 (F := _∧_) ⟨h1, h2⟩ ?_))
    ((repeat refine AW_seq ?_); (refine wta ?_); simp (disch := omega) only [retQ, resD, oneD, rsv, rs, rsL, rsL_eq_map, List.map_map, bb, bt, zDs, zD, eqCells, simprocAttr, Try.results238, isDg, h1, h2])
theorem word_ref (s : ByteArray) (hs : s.size ≤ 1000000) : PRet Try.prog 211 [str s, int 0] (int (wordN (bytes s))) := by
  refine PRet.intro 1 fun t => ACall.enter tab_ok Try.func211 rfl rfl Try.ntmps211 (by simp) ?_
  simp only [enterTM]
  ((refine gga0 ?_))
  ((repeat refine AW_seq ?_))
  refine AW_block ?_
  refine AW_loop_w (fun k : Nat => ⟨[(0, str s), (1, int k)], [], t⟩) (fun k => s.size - k) (fun k => k ≤ s.size ∧ wordN (bytes s) = k + wordN ((bytes s).drop k)) 0 ⟨Nat.zero_le _, by simp⟩ (by (simp (disch := omega) only [StLe, tmLe, hpLe_refl, hpLe, bl, bb, bt, zDs, zD, eqCells, simprocAttr])) fun k ⟨hk, hi⟩ => ?_
  by_cases hlt : k < s.size
  · obtain ⟨c, hc⟩ : ∃ c, (bytes s)[k]? = some c := ⟨_, List.getElem?_eq_getElem hlt⟩
    have hb := bytes_get s k
    rw [hc] at hb
    have hst := wordN_step hc hi
    have hl := letter_ref c.toNat
    have hd := digit_ref c.toNat
    cases h1 : isL c.toNat
    · rw [h1] at hl
      cases h2 : isDg c.toNat
      · rw [h2] at hd
        cases h3 : ((c.toNat : Int) == 95)
        · have hw : wordB c = false := by simp only [wordB, h1, h2, h3, Bool.or_self]
          rw [hw] at hst
          ((refine ggb2 (F := _∧_∧_∧_) ⟨@Int.ofNat_lt, hlt, hb, h3⟩ hl hd ?_))
          rw [if_neg (by decide)] at hst
          ((repeat refine AW_seq ?_); (refine wta ?_); simp (disch := omega) only [retQ, resD, oneD, rsv, rs, rsL, rsL_eq_map, List.map_map, bb, bt, zDs, zD, eqCells, simprocAttr, Try.results211])
          rw [hi, hst]; simp
        · have hw : wordB c = true := by simp only [wordB, h1, h2, h3, Bool.or_true]
          rw [hw, if_pos rfl] at hst
          ((refine ggb2 (F := _∧_∧_∧_) ⟨@Int.ofNat_lt, hlt, hb, h3⟩ hl hd ?_))
          ((repeat refine AW_seq ?_))
          refine AW_block ?_
          ((refine gga0 ?_))
          refine ⟨k + 1, ⟨hlt, by omega⟩, by omega, ?_⟩
          (simp (disch := omega) only [StLe, tmLe, hpLe_refl, hpLe, bl, bb, bt, zDs, zD, eqCells, simprocAttr])
      · rw [h2] at hd
        have hw : wordB c = true := by simp only [wordB, h1, h2, Bool.or_true, Bool.true_or]
        rw [hw, if_pos rfl] at hst
        ((refine ggb2 (F := _∧_∧_) ⟨@Int.ofNat_lt, hlt, hb⟩ hl hd ?_))
        ((repeat refine AW_seq ?_))
        refine AW_block ?_
        ((refine gga0 ?_))
        refine ⟨k + 1, ⟨hlt, by omega⟩, by omega, ?_⟩
        (simp (disch := omega) only [StLe, tmLe, hpLe_refl, hpLe, bl, bb, bt, zDs, zD, eqCells, simprocAttr])
    · rw [h1] at hl
      have hw : wordB c = true := by simp only [wordB, h1, Bool.true_or]
      rw [hw, if_pos rfl] at hst
      ((refine ggb1 (F := _∧_∧_) ⟨@Int.ofNat_lt, hlt, hb⟩ hl ?_))
      ((repeat refine AW_seq ?_))
      refine AW_block ?_
      ((refine gga0 ?_))
      refine ⟨k + 1, ⟨hlt, by omega⟩, by omega, ?_⟩
      (simp (disch := omega) only [StLe, tmLe, hpLe_refl, hpLe, bl, bb, bt, zDs, zD, eqCells, simprocAttr])
  · have hke : k = s.size := by omega
    subst hke
    rw [List.drop_eq_nil_of_le (by rw [bytes_len]; exact Nat.le_refl _)] at hi
    ((refine ggb0 @Int.lt_irrefl ?_))
    ((repeat refine AW_seq ?_); (refine wta ?_); simp (disch := omega) only [retQ, resD, oneD, rsv, rs, rsL, rsL_eq_map, List.map_map, bb, bt, zDs, zD, eqCells, simprocAttr, Try.results211])
    rw [hi]; simp [wordN]
theorem word_dec (s : ByteArray) (hs : s.size ≤ 1000000) : PRet Try.prog 225 [str s] (int (wordN (bytes s))) := by
  refine PRet.intro 1 fun t => ACall.enter tab_ok Try.func225 rfl rfl Try.ntmps225 (by simp) ?_
  simp only [enterTM]
  ((refine gga0 ?_))
  ((repeat refine AW_seq ?_))
  refine AW_block ?_
  refine AW_loop_w (fun k : Nat => ⟨[(0, str s), (3, int k)], [], t⟩) (fun k => s.size - k) (fun k => k ≤ s.size ∧ wordN (bytes s) = k + wordN ((bytes s).drop k)) 0 ⟨Nat.zero_le _, by simp⟩ (by (simp (disch := omega) only [StLe, tmLe, hpLe_refl, hpLe, bl, bb, bt, zDs, zD, eqCells, simprocAttr])) fun k ⟨hk, hi⟩ => ?_
  by_cases hlt : k < s.size
  · obtain ⟨c, hc⟩ : ∃ c, (bytes s)[k]? = some c := ⟨_, List.getElem?_eq_getElem hlt⟩
    have hb := bytes_get s k
    rw [hc] at hb
    have hst := wordN_step hc hi
    have hl := letter_dec c.toNat
    have hd := digit_dec c.toNat
    cases h1 : isL c.toNat
    · rw [h1] at hl
      cases h2 : isDg c.toNat
      · rw [h2] at hd
        cases h3 : ((c.toNat : Int) == 95)
        · have hw : wordB c = false := by simp only [wordB, h1, h2, h3, Bool.or_self]
          rw [hw] at hst
          ((refine ggb2 (F := _∧_∧_∧_) ⟨@Int.ofNat_lt, hlt, hb, h3⟩ hl hd ?_))
          rw [if_neg (by decide)] at hst
          ((repeat refine AW_seq ?_); (refine wta ?_); simp (disch := omega) only [retQ, resD, oneD, rsv, rs, rsL, rsL_eq_map, List.map_map, bb, bt, zDs, zD, eqCells, simprocAttr, Try.results225])
          rw [hi, hst]; simp
        · have hw : wordB c = true := by simp only [wordB, h1, h2, h3, Bool.or_true]
          rw [hw, if_pos rfl] at hst
          ((refine ggb2 (F := _∧_∧_∧_) ⟨@Int.ofNat_lt, hlt, hb, h3⟩ hl hd ?_))
          ((repeat refine AW_seq ?_))
          refine AW_block ?_
          ((refine gga0 ?_))
          refine ⟨k + 1, ⟨hlt, by omega⟩, by omega, ?_⟩
          (simp (disch := omega) only [StLe, tmLe, hpLe_refl, hpLe, bl, bb, bt, zDs, zD, eqCells, simprocAttr])
      · rw [h2] at hd
        have hw : wordB c = true := by simp only [wordB, h1, h2, Bool.or_true, Bool.true_or]
        rw [hw, if_pos rfl] at hst
        ((refine ggb2 (F := _∧_∧_) ⟨@Int.ofNat_lt, hlt, hb⟩ hl hd ?_))
        ((repeat refine AW_seq ?_))
        refine AW_block ?_
        ((refine gga0 ?_))
        refine ⟨k + 1, ⟨hlt, by omega⟩, by omega, ?_⟩
        (simp (disch := omega) only [StLe, tmLe, hpLe_refl, hpLe, bl, bb, bt, zDs, zD, eqCells, simprocAttr])
    · rw [h1] at hl
      have hw : wordB c = true := by simp only [wordB, h1, Bool.true_or]
      rw [hw, if_pos rfl] at hst
      ((refine ggb1 (F := _∧_∧_) ⟨@Int.ofNat_lt, hlt, hb⟩ hl ?_))
      ((repeat refine AW_seq ?_))
      refine AW_block ?_
      ((refine gga0 ?_))
      refine ⟨k + 1, ⟨hlt, by omega⟩, by omega, ?_⟩
      (simp (disch := omega) only [StLe, tmLe, hpLe_refl, hpLe, bl, bb, bt, zDs, zD, eqCells, simprocAttr])
  · have hke : k = s.size := by omega
    subst hke
    rw [List.drop_eq_nil_of_le (by rw [bytes_len]; exact Nat.le_refl _)] at hi
    ((refine ggb0 @Int.lt_irrefl ?_))
    ((repeat refine AW_seq ?_); (refine wta ?_); simp (disch := omega) only [retQ, resD, oneD, rsv, rs, rsL, rsL_eq_map, List.map_map, bb, bt, zDs, zD, eqCells, simprocAttr, Try.results225])
    rw [hi]; simp [wordN]
theorem isName_ref (s : ByteArray) (hs : s.size ≤ 1000000) : PRet Try.prog 144 [str s] (bool (isNm s)) := by
  refine PRet.intro 1 fun t => ACall.enter tab_ok Try.func144 rfl rfl Try.ntmps144 (by simp) ?_
  simp only [enterTM]
  have he := empty_size s
  have hw := word_ref s hs
  by_cases h0 : s.size = 0
  · have hn : isNm s = false := by simp [isNm, h0]
    have hE : s = ⟨#[]⟩ := by rw [decide_eq_decide] at he; exact he.2 h0
    have h0' : ((s.size : Int) == 0) = true := by simp [h0]
    rw [hn]
    ((refine ggb0 (F := _∧_) ⟨h0', hE⟩ ?_))
    ((repeat refine AW_seq ?_); (refine wta ?_); simp (disch := omega) only [retQ, resD, oneD, rsv, rs, rsL, rsL_eq_map, List.map_map, bb, bt, zDs, zD, eqCells, simprocAttr, Try.results144])
  have hE : ¬ s = ⟨#[]⟩ := fun h => h0 (by rw [h]; rfl)
  have h0' : ((s.size : Int) == 0) = false := by rw [beq_eq_false_iff_ne]; omega
  by_cases h20 : s.size ≤ 20
  rotate_left 1
  · have hn : isNm s = false := by simp [isNm, h20]
    have h1 : ¬ (s.size : Int) ≤ 20 := by omega
    have h2 : (20 : Int) < s.size := by omega
    rw [hn]
    ((refine ggb0 (F := _∧_∧_∧_) ⟨h0', hE, h1, h2⟩ ?_))
    ((repeat refine AW_seq ?_); (refine wta ?_); simp (disch := omega) only [retQ, resD, oneD, rsv, rs, rsL, rsL_eq_map, List.map_map, bb, bt, zDs, zD, eqCells, simprocAttr, Try.results144])
  have h1 : (s.size : Int) ≤ 20 := by omega
  have h2 : ¬ (20 : Int) < s.size := by omega
  obtain ⟨c, hc⟩ : ∃ c, (bytes s)[0]? = some c := ⟨_, List.getElem?_eq_getElem (show 0 < (bytes s).length by rw [bytes_len]; omega)⟩
  have hb := bytes_get s 0
  rw [hc] at hb
  have hl := letter_ref c.toNat
  obtain ⟨r, hbs⟩ : ∃ r, bytes s = c :: r := by
    cases hx : bytes s with
    | nil => rw [hx] at hc; simp at hc
    | cons a r => rw [hx] at hc; simp at hc; subst hc; exact ⟨r, rfl⟩
  have hn : isNm s = (isL c.toNat && decide (wordN (bytes s) = s.size)) := by
    simp only [isNm, h0, h20, ne_eq, not_false_eq_true, decide_true, Bool.true_and]
    rw [hbs]
  have ew : ((wordN (bytes s) : Int) == (s.size : Int)) = decide (wordN (bytes s) = s.size) := by
    rw [Bool.eq_iff_iff]; simp; omega
  rw [hn]
  cases hL : isL c.toNat
  · rw [hL] at hl
    ((refine ggb1 (F := _∧_∧_∧_∧_) ⟨h0', hE, h1, h2, hb⟩ hl ?_))
    ((repeat refine AW_seq ?_); (refine wta ?_); simp (disch := omega) only [retQ, resD, oneD, rsv, rs, rsL, rsL_eq_map, List.map_map, bb, bt, zDs, zD, eqCells, simprocAttr, Try.results144])
  · rw [hL] at hl
    ((refine ggb2 (F := _∧_∧_∧_∧_∧_) ⟨h0', hE, h1, h2, hb, ew⟩ hl hw ?_))
    ((repeat refine AW_seq ?_); (refine wta ?_); simp (disch := omega) only [retQ, resD, oneD, rsv, rs, rsL, rsL_eq_map, List.map_map, bb, bt, zDs, zD, eqCells, simprocAttr, Try.results144])
theorem isName_dec (s : ByteArray) (hs : s.size ≤ 1000000) : PRet Try.prog 174 [str s] (bool (isNm s)) := by
  refine PRet.intro 1 fun t => ACall.enter tab_ok Try.func174 rfl rfl Try.ntmps174 (by simp) ?_
  simp only [enterTM]
  have he := empty_size s
  have hw := word_dec s hs
  by_cases h0 : s.size = 0
  · have hn : isNm s = false := by simp [isNm, h0]
    have hE : s = ⟨#[]⟩ := by rw [decide_eq_decide] at he; exact he.2 h0
    have h0' : ((s.size : Int) == 0) = true := by simp [h0]
    rw [hn]
    ((refine ggb0 (F := _∧_) ⟨h0', hE⟩ ?_))
    ((repeat refine AW_seq ?_); (refine wta ?_); simp (disch := omega) only [retQ, resD, oneD, rsv, rs, rsL, rsL_eq_map, List.map_map, bb, bt, zDs, zD, eqCells, simprocAttr, Try.results174])
  have hE : ¬ s = ⟨#[]⟩ := fun h => h0 (by rw [h]; rfl)
  have h0' : ((s.size : Int) == 0) = false := by rw [beq_eq_false_iff_ne]; omega
  by_cases h20 : s.size ≤ 20
  rotate_left 1
  · have hn : isNm s = false := by simp [isNm, h20]
    have h1 : ¬ (s.size : Int) ≤ 20 := by omega
    have h2 : (20 : Int) < s.size := by omega
    rw [hn]
    ((refine ggb0 (F := _∧_∧_∧_) ⟨h0', hE, h1, h2⟩ ?_))
    ((repeat refine AW_seq ?_); (refine wta ?_); simp (disch := omega) only [retQ, resD, oneD, rsv, rs, rsL, rsL_eq_map, List.map_map, bb, bt, zDs, zD, eqCells, simprocAttr, Try.results174])
  have h1 : (s.size : Int) ≤ 20 := by omega
  have h2 : ¬ (20 : Int) < s.size := by omega
  obtain ⟨c, hc⟩ : ∃ c, (bytes s)[0]? = some c := ⟨_, List.getElem?_eq_getElem (show 0 < (bytes s).length by rw [bytes_len]; omega)⟩
  have hb := bytes_get s 0
  rw [hc] at hb
  have hl := letter_dec c.toNat
  obtain ⟨r, hbs⟩ : ∃ r, bytes s = c :: r := by
    cases hx : bytes s with
    | nil => rw [hx] at hc; simp at hc
    | cons a r => rw [hx] at hc; simp at hc; subst hc; exact ⟨r, rfl⟩
  have hn : isNm s = (isL c.toNat && decide (wordN (bytes s) = s.size)) := by
    simp only [isNm, h0, h20, ne_eq, not_false_eq_true, decide_true, Bool.true_and]
    rw [hbs]
  have ew : ((wordN (bytes s) : Int) == (s.size : Int)) = decide (wordN (bytes s) = s.size) := by
    rw [Bool.eq_iff_iff]; simp; omega
  rw [hn]
  cases hL : isL c.toNat
  · rw [hL] at hl
    ((refine ggb1 (F := _∧_∧_∧_∧_) ⟨h0', hE, h1, h2, hb⟩ hl ?_))
    ((repeat refine AW_seq ?_); (refine wta ?_); simp (disch := omega) only [retQ, resD, oneD, rsv, rs, rsL, rsL_eq_map, List.map_map, bb, bt, zDs, zD, eqCells, simprocAttr, Try.results174])
  · rw [hL] at hl
    ((refine ggb2 (F := _∧_∧_∧_∧_∧_) ⟨h0', hE, h1, h2, hb, ew⟩ hl hw ?_))
    ((repeat refine AW_seq ?_); (refine wta ?_); simp (disch := omega) only [retQ, resD, oneD, rsv, rs, rsL, rsL_eq_map, List.map_map, bb, bt, zDs, zD, eqCells, simprocAttr, Try.results174])
theorem indexFuncBk (l : List Bk) (g : FuncId) (caps : List D) (p : Bk → Bool) (hl : l.length ≤ 1000000) (hp : ∀ x ∈ l, PRet Try.prog g ((D.agg (bk1 x) :: caps).map ufa) (bool (p x))) : PRet Try.prog 149 [bks l, .fn g caps] (int (idx p l 0)) := by
  refine PRet.intro 1 fun t => ACall.enter tab_ok Try.func149 rfl rfl Try.ntmps149 (by simp) ?_
  simp only [enterTM]
  have hla := bkC_len l
  have ha2 := bkC_div l
  ((refine ggb0 ha2 ?_))
  ((repeat refine AW_seq ?_))
  refine AW_block ?_
  refine AW_loop_w (fun k : Nat => ⟨[(0, bks l), (1, .fn g caps), (7, int l.length), (8, int k)], [], t⟩) (fun k => l.length - k) (fun k => k ≤ l.length ∧ idx p l 0 = idx p (l.drop k) k) 0 ⟨Nat.zero_le _, rfl⟩ (by (simp (disch := omega) only [StLe, tmLe, hpLe_refl, hpLe, bl, bb, bt, zDs, zD, eqCells, simprocAttr])) fun k ⟨hk, hi⟩ => ?_
  by_cases hlt : k < l.length
  · obtain ⟨x, hx⟩ : ∃ x, l[k]? = some x := ⟨_, List.getElem?_eq_getElem hlt⟩
    have hm := List.mem_of_getElem? hx
    have hd : l.drop k = x :: l.drop (k + 1) := by
      obtain ⟨h1, h2⟩ := List.getElem?_eq_some_iff.1 hx
      rw [List.drop_eq_getElem_cons h1, h2]
    rw [hd] at hi
    have hra := bkC_read l k x hx
    have hc := hp x hm
    ((refine ggb0 (F := _∧_) ⟨@Int.ofNat_lt, hlt⟩ ?_))
    ((repeat refine AW_seq ?_))
    refine AW_block ?_
    cases hpx : p x
    · rw [hpx] at hc
      ((refine ggb0 (F := _∧_∧_) ⟨ha2, hlt, hra⟩ ?_))
      ((refine wka1 hc ?_))
      ((refine gga0 ?_))
      refine ⟨k + 1, ⟨hlt, by rw [hi]; simp [idx, hpx]⟩, by omega, ?_⟩
      (simp (disch := omega) only [StLe, tmLe, hpLe_refl, hpLe, bl, bb, bt, zDs, zD, eqCells, simprocAttr])
    · rw [hpx] at hc
      ((refine ggb0 (F := _∧_∧_) ⟨ha2, hlt, hra⟩ ?_))
      ((refine wka1 hc ?_))
      ((refine gga0 ?_))
      ((repeat refine AW_seq ?_); (refine wta ?_); simp (disch := omega) only [retQ, resD, oneD, rsv, rs, rsL, rsL_eq_map, List.map_map, bb, bt, zDs, zD, eqCells, simprocAttr, Try.results149, hi, idx, hpx])
  · ((refine ggb0 (F := _∧_) ⟨@Int.ofNat_lt, hlt⟩ ?_))
    ((repeat refine AW_seq ?_); (refine wta ?_); simp (disch := omega) only [retQ, resD, oneD, rsv, rs, rsL, rsL_eq_map, List.map_map, bb, bt, zDs, zD, eqCells, simprocAttr, Try.results149, hi])
    rw [List.drop_eq_nil_of_le (by omega)]; rfl
theorem indexFuncRp (l : List Rp) (g : FuncId) (caps : List D) (p : Rp → Bool) (hl : l.length ≤ 1000000) (hp : ∀ x ∈ l, PRet Try.prog g ((D.agg (rp1 x) :: caps).map ufa) (bool (p x))) : PRet Try.prog 62 [rps l, .fn g caps] (int (idx p l 0)) := by
  refine PRet.intro 1 fun t => ACall.enter tab_ok Try.func62 rfl rfl Try.ntmps62 (by simp) ?_
  simp only [enterTM]
  have hla := rpC_len l
  have ha2 := rpC_div l
  ((refine ggb0 ha2 ?_))
  ((repeat refine AW_seq ?_))
  refine AW_block ?_
  refine AW_loop_w (fun k : Nat => ⟨[(0, rps l), (1, .fn g caps), (7, int l.length), (8, int k)], [], t⟩) (fun k => l.length - k) (fun k => k ≤ l.length ∧ idx p l 0 = idx p (l.drop k) k) 0 ⟨Nat.zero_le _, rfl⟩ (by (simp (disch := omega) only [StLe, tmLe, hpLe_refl, hpLe, bl, bb, bt, zDs, zD, eqCells, simprocAttr])) fun k ⟨hk, hi⟩ => ?_
  by_cases hlt : k < l.length
  · obtain ⟨x, hx⟩ : ∃ x, l[k]? = some x := ⟨_, List.getElem?_eq_getElem hlt⟩
    have hm := List.mem_of_getElem? hx
    have hd : l.drop k = x :: l.drop (k + 1) := by
      obtain ⟨h1, h2⟩ := List.getElem?_eq_some_iff.1 hx
      rw [List.drop_eq_getElem_cons h1, h2]
    rw [hd] at hi
    have hra := rpC_read l k x hx
    have hc := hp x hm
    ((refine ggb0 (F := _∧_) ⟨@Int.ofNat_lt, hlt⟩ ?_))
    ((repeat refine AW_seq ?_))
    refine AW_block ?_
    cases hpx : p x
    · rw [hpx] at hc
      ((refine ggb0 (F := _∧_∧_) ⟨ha2, hlt, hra⟩ ?_))
      ((refine wka1 hc ?_))
      ((refine gga0 ?_))
      refine ⟨k + 1, ⟨hlt, by rw [hi]; simp [idx, hpx]⟩, by omega, ?_⟩
      (simp (disch := omega) only [StLe, tmLe, hpLe_refl, hpLe, bl, bb, bt, zDs, zD, eqCells, simprocAttr])
    · rw [hpx] at hc
      ((refine ggb0 (F := _∧_∧_) ⟨ha2, hlt, hra⟩ ?_))
      ((refine wka1 hc ?_))
      ((refine gga0 ?_))
      ((repeat refine AW_seq ?_); (refine wta ?_); simp (disch := omega) only [retQ, resD, oneD, rsv, rs, rsL, rsL_eq_map, List.map_map, bb, bt, zDs, zD, eqCells, simprocAttr, Try.results62, hi, idx, hpx])
  · ((refine ggb0 (F := _∧_) ⟨@Int.ofNat_lt, hlt⟩ ?_))
    ((repeat refine AW_seq ?_); (refine wta ?_); simp (disch := omega) only [retQ, resD, oneD, rsv, rs, rsL, rsL_eq_map, List.map_map, bb, bt, zDs, zD, eqCells, simprocAttr, Try.results62, hi])
    rw [List.drop_eq_nil_of_le (by omega)]; rfl
theorem indexFuncHd (l : List Hd) (g : FuncId) (caps : List D) (p : Hd → Bool) (hl : l.length ≤ 1000000) (hp : ∀ x ∈ l, PRet Try.prog g ((D.agg (hd1 x) :: caps).map ufa) (bool (p x))) : PRet Try.prog 252 [hds l, .fn g caps] (int (idx p l 0)) := by
  refine PRet.intro 1 fun t => ACall.enter tab_ok Try.func252 rfl rfl Try.ntmps252 (by simp) ?_
  simp only [enterTM]
  have hla := hdC_len l
  have ha2 := hdC_div l
  ((refine ggb0 ha2 ?_))
  ((repeat refine AW_seq ?_))
  refine AW_block ?_
  refine AW_loop_w (fun k : Nat => ⟨[(0, hds l), (1, .fn g caps), (7, int l.length), (8, int k)], [], t⟩) (fun k => l.length - k) (fun k => k ≤ l.length ∧ idx p l 0 = idx p (l.drop k) k) 0 ⟨Nat.zero_le _, rfl⟩ (by (simp (disch := omega) only [StLe, tmLe, hpLe_refl, hpLe, bl, bb, bt, zDs, zD, eqCells, simprocAttr])) fun k ⟨hk, hi⟩ => ?_
  by_cases hlt : k < l.length
  · obtain ⟨x, hx⟩ : ∃ x, l[k]? = some x := ⟨_, List.getElem?_eq_getElem hlt⟩
    have hm := List.mem_of_getElem? hx
    have hd : l.drop k = x :: l.drop (k + 1) := by
      obtain ⟨h1, h2⟩ := List.getElem?_eq_some_iff.1 hx
      rw [List.drop_eq_getElem_cons h1, h2]
    rw [hd] at hi
    have hra := hdC_read l k x hx
    have hc := hp x hm
    ((refine ggb0 (F := _∧_) ⟨@Int.ofNat_lt, hlt⟩ ?_))
    ((repeat refine AW_seq ?_))
    refine AW_block ?_
    cases hpx : p x
    · rw [hpx] at hc
      ((refine ggb0 (F := _∧_∧_) ⟨ha2, hlt, hra⟩ ?_))
      ((refine wka1 hc ?_))
      ((refine gga0 ?_))
      refine ⟨k + 1, ⟨hlt, by rw [hi]; simp [idx, hpx]⟩, by omega, ?_⟩
      (simp (disch := omega) only [StLe, tmLe, hpLe_refl, hpLe, bl, bb, bt, zDs, zD, eqCells, simprocAttr])
    · rw [hpx] at hc
      ((refine ggb0 (F := _∧_∧_) ⟨ha2, hlt, hra⟩ ?_))
      ((refine wka1 hc ?_))
      ((refine gga0 ?_))
      ((repeat refine AW_seq ?_); (refine wta ?_); simp (disch := omega) only [retQ, resD, oneD, rsv, rs, rsL, rsL_eq_map, List.map_map, bb, bt, zDs, zD, eqCells, simprocAttr, Try.results252, hi, idx, hpx])
  · ((refine ggb0 (F := _∧_) ⟨@Int.ofNat_lt, hlt⟩ ?_))
    ((repeat refine AW_seq ?_); (refine wta ?_); simp (disch := omega) only [retQ, resD, oneD, rsv, rs, rsL, rsL_eq_map, List.map_map, bb, bt, zDs, zD, eqCells, simprocAttr, Try.results252, hi])
    rw [List.drop_eq_nil_of_le (by omega)]; rfl
theorem find1 (b : Bk) (nm : ByteArray) : PRet Try.prog 217 [.agg (bk1 b), .rp [str nm] 0] (bool (decide (b.nm = nm))) := by
  refine PRet.intro 1 fun t => ACall.enter tab_ok Try.func217 rfl rfl Try.ntmps217 (by simp) ?_
  simp only [enterTM]
  ((refine gga0 ?_))
  ((repeat refine AW_seq ?_); (refine wta ?_); simp (disch := omega) only [retQ, resD, oneD, rsv, rs, rsL, rsL_eq_map, List.map_map, bb, bt, zDs, zD, eqCells, simprocAttr, Try.results217])
theorem find_ (s : Sy) (nm : ByteArray) (hl : s.bs.length ≤ 1000000) : PRet Try.prog 155 [syD s, str nm] (int (findB s.bs nm)) := by
  refine PRet.intro 1 fun t => ACall.enter tab_ok Try.func155 rfl rfl Try.ntmps155 (by simp) ?_
  simp only [enterTM]
  ((refine wqa ?_))
  ((refine AW.freeze (1) (by first | rfl | (simp only [setH, List.getElem?_cons_zero, List.getElem?_cons_succ, fz_bk, fz_rp]; done)) ?_); simp (disch := omega) only [fzT, fz, fzL, fzL_ints, fzL_mat, fzH, fzB, eq_self, bb, bt, zDs, zD, eqCells, simprocAttr, fz_bk, fz_rp])
  have hI := indexFuncBk s.bs 217 [.rp [str nm] 0] (fun b => decide (b.nm = nm)) hl (fun x _ => find1 x nm)
  ((refine gga1 hI ?_))
  ((repeat refine AW_seq ?_); (refine wta ?_); simp (disch := omega) only [retQ, resD, oneD, rsv, rs, rsL, rsL_eq_map, List.map_map, bb, bt, zDs, zD, eqCells, simprocAttr, Try.results155, findB])
theorem refFindBlock (s : Sy) (nm : ByteArray) (hl : s.bs.length ≤ 1000000) : PRet Try.prog 145 [syD s, str nm] (int (findB s.bs nm)) := by
  refine PRet.intro 1 fun t => ACall.enter tab_ok Try.func145 rfl rfl Try.ntmps145 (by simp) ?_
  simp only [enterTM]
  have hla := bkC_len s.bs
  have ha2 := bkC_div s.bs
  ((refine gga0 ?_))
  ((repeat refine AW_seq ?_))
  refine AW_block ?_
  refine AW_loop_w (fun k : Nat => ⟨[(1, str nm), (2, .ptr 0 (t + 1) 0), (5, int k)], [some ⟨25, t + 1, [bks s.bs, rps s.rs]⟩], t + 1⟩) (fun k => s.bs.length - k) (fun k => k ≤ s.bs.length ∧ findB s.bs nm = idx (fun x => decide (x.nm = nm)) (s.bs.drop k) k) 0 ⟨Nat.zero_le _, rfl⟩ (by (simp (disch := omega) only [StLe, tmLe, hpLe_refl, hpLe, bl, bb, bt, zDs, zD, eqCells, simprocAttr])) fun k ⟨hk, hi⟩ => ?_
  by_cases hlt : k < s.bs.length
  · obtain ⟨x, hx⟩ : ∃ x, s.bs[k]? = some x := ⟨_, List.getElem?_eq_getElem hlt⟩
    have hd : s.bs.drop k = x :: s.bs.drop (k + 1) := by
      obtain ⟨h1, h2⟩ := List.getElem?_eq_some_iff.1 hx
      rw [List.drop_eq_getElem_cons h1, h2]
    rw [hd] at hi
    have hra := bkC_name s.bs k x hx
    ((refine ggb0 (F := _∧_∧_) ⟨@Int.ofNat_lt, hlt, ha2⟩ ?_))
    ((repeat refine AW_seq ?_))
    refine AW_block ?_
    by_cases hpx : x.nm = nm
    · ((refine ggb0 (F := _∧_∧_∧_) ⟨ha2, hlt, hra, hpx⟩ ?_))
      ((repeat refine AW_seq ?_); (refine wta ?_); simp (disch := omega) only [retQ, resD, oneD, rsv, rs, rsL, rsL_eq_map, List.map_map, bb, bt, zDs, zD, eqCells, simprocAttr, Try.results145, hi, idx, hpx, decide_true])
    · ((refine ggb0 (F := _∧_∧_∧_) ⟨ha2, hlt, hra, hpx⟩ ?_))
      refine ⟨k + 1, ⟨hlt, by rw [hi]; simp [idx, hpx]⟩, by omega, ?_⟩
      (simp (disch := omega) only [StLe, tmLe, hpLe_refl, hpLe, bl, bb, bt, zDs, zD, eqCells, simprocAttr])
  · ((refine ggb0 (F := _∧_∧_) ⟨@Int.ofNat_lt, hlt, ha2⟩ ?_))
    ((repeat refine AW_seq ?_); (refine wta ?_); simp (disch := omega) only [retQ, resD, oneD, rsv, rs, rsL, rsL_eq_map, List.map_map, bb, bt, zDs, zD, eqCells, simprocAttr, Try.results145, hi])
    rw [List.drop_eq_nil_of_le (by omega)]; rfl
theorem refFindRope (s : Sy) (nm : ByteArray) (hl : s.rs.length ≤ 1000000) : PRet Try.prog 146 [syD s, str nm] (int (findR s.rs nm)) := by
  refine PRet.intro 1 fun t => ACall.enter tab_ok Try.func146 rfl rfl Try.ntmps146 (by simp) ?_
  simp only [enterTM]
  have hla := rpC_len s.rs
  have ha2 := rpC_div s.rs
  ((refine gga0 ?_))
  ((repeat refine AW_seq ?_))
  refine AW_block ?_
  refine AW_loop_w (fun k : Nat => ⟨[(1, str nm), (2, .ptr 0 (t + 1) 0), (5, int k)], [some ⟨25, t + 1, [bks s.bs, rps s.rs]⟩], t + 1⟩) (fun k => s.rs.length - k) (fun k => k ≤ s.rs.length ∧ findR s.rs nm = idx (fun x => decide (x.nm = nm)) (s.rs.drop k) k) 0 ⟨Nat.zero_le _, rfl⟩ (by (simp (disch := omega) only [StLe, tmLe, hpLe_refl, hpLe, bl, bb, bt, zDs, zD, eqCells, simprocAttr])) fun k ⟨hk, hi⟩ => ?_
  by_cases hlt : k < s.rs.length
  · obtain ⟨x, hx⟩ : ∃ x, s.rs[k]? = some x := ⟨_, List.getElem?_eq_getElem hlt⟩
    have hd : s.rs.drop k = x :: s.rs.drop (k + 1) := by
      obtain ⟨h1, h2⟩ := List.getElem?_eq_some_iff.1 hx
      rw [List.drop_eq_getElem_cons h1, h2]
    rw [hd] at hi
    have hra := rpC_name s.rs k x hx
    ((refine ggb0 (F := _∧_∧_) ⟨@Int.ofNat_lt, hlt, ha2⟩ ?_))
    ((repeat refine AW_seq ?_))
    refine AW_block ?_
    by_cases hpx : x.nm = nm
    · ((refine ggb0 (F := _∧_∧_∧_) ⟨ha2, hlt, hra, hpx⟩ ?_))
      ((repeat refine AW_seq ?_); (refine wta ?_); simp (disch := omega) only [retQ, resD, oneD, rsv, rs, rsL, rsL_eq_map, List.map_map, bb, bt, zDs, zD, eqCells, simprocAttr, Try.results146, hi, idx, hpx, decide_true])
    · ((refine ggb0 (F := _∧_∧_∧_) ⟨ha2, hlt, hra, hpx⟩ ?_))
      refine ⟨k + 1, ⟨hlt, by rw [hi]; simp [idx, hpx]⟩, by omega, ?_⟩
      (simp (disch := omega) only [StLe, tmLe, hpLe_refl, hpLe, bl, bb, bt, zDs, zD, eqCells, simprocAttr])
  · ((refine ggb0 (F := _∧_∧_) ⟨@Int.ofNat_lt, hlt, ha2⟩ ?_))
    ((repeat refine AW_seq ?_); (refine wta ?_); simp (disch := omega) only [retQ, resD, oneD, rsv, rs, rsL, rsL_eq_map, List.map_map, bb, bt, zDs, zD, eqCells, simprocAttr, Try.results146, hi])
    rw [List.drop_eq_nil_of_le (by omega)]; rfl
end Go.Proofs.Ythabldkbiedfmaa.T
