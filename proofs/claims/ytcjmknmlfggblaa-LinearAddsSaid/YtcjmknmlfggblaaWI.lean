import Derived.Test.YtcjmknmlfggblaaTB
import Derived.Test.YtcjmknmlfggblaaWH
set_option linter.all false
namespace Go.Proofs.Ytcjmknmlfggblaa.T
open Go Go.RowKit Lin
set_option linter.unusedSimpArgs false

/-- The rows that do not depend on those before them, by growing ranks; and the rank. -/
def indS (rk : Nat → Nat) : Nat → List Nat × Nat
  | 0 => ([], 0)
  | k + 1 => let p := indS rk k; if p.2 < rk (k + 1) then (p.1 ++ [k], rk (k + 1)) else p
def indP (m : List (List Int)) : List Nat := (indS (fun k => rankP (m.take k) (wid m)) m.length).1
abbrev natI (l : List Nat) : List D := l.map fun x : Nat => int (x : Int)
structure IS where
  k : Nat
  g : Nat
  t : Nat
def IS.st (m : List (List Int)) (rk : Nat → Nat) (x : IS) : St := ⟨[(0, mat m), (4, .own 1 0 x.g 0 (indS rk x.k).1.length), (5, int (indS rk x.k).2), (12, int m.length), (13, int x.k)], [some ⟨3, x.g, natI (indS rk x.k).1⟩], x.t⟩
theorem IS.st_mk (m : List (List Int)) (rk : Nat → Nat) (k g t : Nat) : IS.st m rk ⟨k, g, t⟩ = ⟨[(0, mat m), (4, .own 1 0 g 0 (indS rk k).1.length), (5, int (indS rk k).2), (12, int m.length), (13, int k)], [some ⟨3, g, natI (indS rk k).1⟩], t⟩ := rfl
theorem indS_len (rk : Nat → Nat) : ∀ k, (indS rk k).1.length ≤ k
  | 0 => Nat.le_refl _
  | k + 1 => by
    have := indS_len rk k
    simp only [indS]
    split
    · simp; exact this
    · omega
set_option maxHeartbeats 1000000 in
theorem independent (m : List (List Int)) (hm : m.length ≤ 1000000) (hl : ∀ r ∈ m, r.length ≤ 1000000) : PRet Try.prog 27 [mat m] (if validP m = true then .tup [.sl 1 (natI (indP m)) false, int 0] else .tup [.sl 1 [] false, int 1]) := by
  refine PRet.intro 2 fun t => ACall.enter tab_ok Try.func27 rfl rfl Try.ntmps27 (by simp) ?_
  simp only [enterTM]
  ((refine wqa ?_))
  ((repeat refine AW_seq ?_); (refine AW_region_k tab_ok fun KR hKR => ?_)); ((refine wra ?_))
  ((refine wka1 (valid m hm hl) ?_))
  ((refine wra ?_)); ((refine wea ?_); (try clear hKR KR))
  cases hv : validP m
  · ((refine wib hv ?_))
    ((refine wqa ?_))
    ((repeat refine AW_seq ?_); (refine wta ?_); simp (disch := omega) only [retQ, resD, oneD, rsv, rs, rsL, rsL_eq_map, List.map_map, bb, bt, zDs, zD, eqCells, simprocAttr, Try.results27])
  · ((refine wib hv ?_))
    ((refine wsa ?_))
    obtain ⟨h1, h2, h3⟩ := validP_iff.1 hv
    obtain ⟨r0, m', hm0⟩ : ∃ r0 m', m = r0 :: m' := by
      cases m with
      | nil => simp at h1
      | cons a b => exact ⟨a, b, rfl⟩
    have hwd : wid m = r0.length := by rw [hm0]; rfl
    have hat0 : m[0]? = some r0 := by rw [hm0]; rfl
    have hpos : 0 < m.length := by omega
    ((refine wqa ?_))
    refine AW.begin 4 1 3 rfl (by omega) ?_
    (simp (disch := omega) only [bb, bt, zDs, zD, eqCells, simprocAttr])
    ((refine wqa ?_))
    ((refine wqa ?_))
    refine AW_mid (IS.st m fun k => rankP (m.take k) (wid m)) (fun x => x.k = m.length) ?_ ?_
    · refine AW_block ?_
      refine AW_loop_w (IS.st m fun k => rankP (m.take k) (wid m)) (fun x => m.length - x.k) (fun x => x.k ≤ m.length) ⟨0, t + 1, t + 1⟩ (Nat.zero_le _) (by (simp (disch := omega) only [StLe, tmLe, hpLe_refl, hpLe, bl, bb, bt, zDs, zD, eqCells, simprocAttr, IS.st_mk, indS])) ?_
      rintro ⟨k, g, tt⟩ hk
      simp only at hk
      rw [IS.st_mk]
      by_cases hlt : k < m.length
      · ((refine wqb (F := _∧_) ⟨@Int.ofNat_lt, hlt⟩ ?_))
        ((refine wia ?_))
        ((refine wsa ?_))
        ((repeat refine AW_seq ?_))
        refine AW_block ?_
        ((refine wqa ?_))
        have hc := elimC (m.take (k + 1)) (Small.take (valid_small hv) (k + 1)) (by omega)
        rw [hwd] at hc
        have hk1 : k + 1 ≤ m.length := hlt
        ((repeat refine AW_seq ?_); (refine AW_drawn_k tab_ok follows_mixed 0 fun KR hKR => ?_); simp only [List.replicate_succ, List.replicate_zero, List.append_nil, List.nil_append, List.cons_append, List.length_cons, List.length_nil, Nat.reduceAdd])
        ((repeat ((first | refine awD_n rfl fun KK hKK => ?_ | refine awD_g rfl rfl fun KK hKK => ?_); simp (disch := omega) only [bb, bt, zDs, zD, eqCells, simprocAttr, hat0, hpos, List.length_map, Int.toNat_natCast_add_one, ← List.map_take, hk1, Nat.sub_zero]; refine hKK _ _ _ ?_; clear hKK KK)))
        ((first | refine awD_nc fun KK hKK => ?_ | refine awD_gc rfl fun KK hKK => ?_); simp (disch := omega) only [bb, bt, zDs, zD, eqCells, simprocAttr, goCDS, callDS_fn, argsZ, argsD, ufa, uf]; refine PGive.ret (hc) ?_; simp (disch := omega) only [bb, bt, zDs, zD, eqCells, simprocAttr, afterDS]; refine hKK _ _ _ ?_; clear hKK KK)
        ((repeat ((first | refine awD_n rfl fun KK hKK => ?_ | refine awD_g rfl rfl fun KK hKK => ?_); simp (disch := omega) only [bb, bt, zDs, zD, eqCells, simprocAttr, formD]; refine hKK _ _ _ ?_; clear hKK KK)))
        ((refine awD_nil ?_); simp only [List.reverse_cons, List.reverse_nil, List.nil_append, List.cons_append]; (refine hKR _ _ (by first | rfl | kernel_rfl) ?_); (try clear hKR KR); (repeat (with_reducible first | refine q1 ?_ | refine q2 ?_ | refine q3 ?_ | refine q4 ?_ | refine q5 ?_ | refine q6 ?_ | (refine q7 ?_ ?_; (focus (with_unfolding_all rfl))))))
        have hrk : (elim (m.take (k + 1)) r0.length).pivots.length = rankP (m.take (k + 1)) (wid m) := by rw [hwd]; rfl
        rw [hrk]
        have hil := indS_len (fun k => rankP (m.take k) (wid m)) k
        by_cases hgt : (indS (fun k => rankP (m.take k) (wid m)) k).2 < rankP (m.take (k + 1)) (wid m)
        · have hgt' : (((indS (fun k => rankP (m.take k) (wid m)) k).2 : Nat) : Int) < ((rankP (m.take (k + 1)) (wid m) : Nat) : Int) := by omega
          have e1 : indS (fun k => rankP (m.take k) (wid m)) (k + 1) = ((indS (fun k => rankP (m.take k) (wid m)) k).1 ++ [k], rankP (m.take (k + 1)) (wid m)) := by simp only [indS]; rw [if_pos hgt]
          generalize indS (fun k => rankP (m.take k) (wid m)) k = p at *
          ((refine wqb hgt' ?_))
          ((refine wia ?_))
          ((refine wqa ?_))
          ((refine wqa ?_))
          ((refine wqa ?_))
          refine ⟨⟨k + 1, tt + 1 + 1, tt + 1 + 1⟩, hlt, by show m.length - (k + 1) < m.length - k; omega, ?_⟩
          rw [IS.st_mk, e1]
          (simp (disch := omega) only [StLe, tmLe, hpLe_refl, hpLe, bl, bb, bt, zDs, zD, eqCells, simprocAttr, natI, List.map_append, List.length_append])
        · have hgt' : ¬ (((indS (fun k => rankP (m.take k) (wid m)) k).2 : Nat) : Int) < ((rankP (m.take (k + 1)) (wid m) : Nat) : Int) := by omega
          have e1 : indS (fun k => rankP (m.take k) (wid m)) (k + 1) = indS (fun k => rankP (m.take k) (wid m)) k := by simp only [indS]; rw [if_neg hgt]
          generalize indS (fun k => rankP (m.take k) (wid m)) k = p at *
          ((refine wqb hgt' ?_))
          ((refine wia ?_))
          ((refine wsa ?_))
          ((refine wqa ?_))
          refine ⟨⟨k + 1, g, tt + 1⟩, hlt, by show m.length - (k + 1) < m.length - k; omega, ?_⟩
          rw [IS.st_mk, e1]
          (simp (disch := omega) only [StLe, tmLe, hpLe_refl, hpLe, bl, bb, bt, zDs, zD, eqCells, simprocAttr])
      · have hke : k = m.length := by omega
        subst hke
        ((refine wqb @Int.lt_irrefl ?_))
        ((refine wia ?_))
        ((refine wxa ?_))
        refine ⟨⟨m.length, g, tt⟩, rfl, ?_⟩
        rw [IS.st_mk]; (simp (disch := omega) only [StLe, tmLe, hpLe_refl, hpLe, bl, bb, bt, zDs, zD, eqCells, simprocAttr])
    · rintro ⟨k, g, tt⟩ hk
      simp only at hk
      subst hk
      rw [IS.st_mk]
      ((refine wqa ?_))
      have hnat : ∀ (l : List Nat), (natI l).map (fun x => rs (fun x => D.any) [some ⟨3, g, natI l⟩] x) = natI l := fun l => by
        rw [List.map_map]
        exact List.map_congr_left fun x _ => by simp only [Function.comp_apply, rs]
      ((repeat refine AW_seq ?_); (refine wta ?_); simp (disch := omega) only [retQ, resD, oneD, rsv, rs, rsL, rsL_eq_map, List.map_map, bb, bt, zDs, zD, eqCells, simprocAttr, Try.results27, List.length_map, List.take_length])
      rw [List.take_of_length_le (by simp), hnat]
      rfl
end Go.Proofs.Ytcjmknmlfggblaa.T
