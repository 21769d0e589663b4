import Derived.Test.YtjjpjgnoanfaoaaGreatTB
import Derived.Test.YtjjpjgnoanfaoaaGreatMinJ
set_option linter.all false
namespace Go.Proofs.YtjjpjgnoanfaoaaGreat.T
open Go Go.RowKit Lin
set_option linter.unusedSimpArgs false

theorem zzL_intsX (R : D → D) (m : Nat) (H2 : Hp) (l : List Int) : zzL R m H2 (l.map int) = l.map int := by
  induction l with
  | nil => simp [zzL]
  | cons x l ih => simp only [List.map_cons, zzL, zz, ih]
theorem zv_intsX (m : Nat) (H2 : Hp) (k : Nat) (l : List Int) : zv m H2 k (ints l) = ints l := by cases k <;> simp only [zv, zz, zzL_intsX]
theorem zzL_matX (R : D → D) (m : Nat) (H2 : Hp) (l : List (List Int)) : zzL R m H2 (l.map ints) = l.map ints := by
  induction l with
  | nil => simp [zzL]
  | cons x l ih => simp only [List.map_cons, zzL, zz, zzL_intsX, ih]
theorem zv_matX (m : Nat) (H2 : Hp) (k : Nat) (l : List (List Int)) : zv m H2 k (mat l) = mat l := by cases k <;> simp only [zv, zz, zzL_matX]
theorem zv_vX (m : Nat) (H2 : Hp) (k : Nat) (x : Value) : zv m H2 k (.v x) = .v x := by cases k <;> simp only [zv, zz]
/-- A column, and the matrix whose rows are the columns. -/
def colP (m : List (List Int)) (j : Nat) : List Int := m.map fun r => at_ r j
def turnP (m : List (List Int)) (n : Nat) : List (List Int) := (List.range n).map (colP m)
theorem turnP_succ (m : List (List Int)) (n : Nat) : turnP m (n + 1) = turnP m n ++ [colP m n] := by simp [turnP, List.range_succ]
theorem turnP_len (m : List (List Int)) (n : Nat) : (turnP m n).length = n := by simp [turnP]
theorem colP_take {m : List (List Int)} {k j : Nat} {r : List Int} {v : Int} (hr : m[k]? = some r) (hv : r[j]? = some v) : colP (m.take (k + 1)) j = colP (m.take k) j ++ [v] := by
  unfold colP
  rw [List.take_add_one, hr, List.map_append]
  simp [at_, hv]
set_option maxHeartbeats 1000000 in
theorem refTurned (m : List (List Int)) (n : Nat) (h0 : 0 < m.length) (hm : m.length ≤ 1000) (hn : n ≤ 1000) (hl : ∀ r ∈ m, r.length = n) : PRet Tryz.prog 92 [mat m] (mat (turnP m n)) := by
  refine PRet.intro 3 fun t => ACall.enter tab_ok Tryz.func92 rfl rfl Tryz.ntmps92 (by simp) ?_
  simp only [enterTM]
  obtain ⟨r0, hr0⟩ : ∃ y, m[0]? = some y := ⟨_, List.getElem?_eq_getElem h0⟩
  have hrl0 := hl r0 (List.mem_of_getElem? hr0)
  ((refine wqa ?_))
  ((refine wqa ?_))
  refine AW.begin 3 1 50 rfl (by omega) ?_
  (simp (disch := omega) only [bb, bt, zDs, zD, eqCells, simprocAttr])
  ((refine wqa ?_))
  ((repeat refine AW_seq ?_))
  refine AW_mid (fun x : Nat × Nat => ⟨[(3, .own 1 0 x.1 0 n)], [some ⟨50, x.1, (turnP m n).map ints⟩], x.2⟩) (fun _ => True) ?_ ?_
  · refine AW_block ?_
    refine AW_loop_w (fun x : Nat × Nat × Nat => ⟨[(0, mat m), (3, .own 1 0 x.2.1 0 x.1), (4, int x.1)], [some ⟨50, x.2.1, (turnP m x.1).map ints⟩], x.2.2⟩) (fun x => n - x.1) (fun x => x.1 ≤ n) (0, t + 1, t + 1) (Nat.zero_le _) (by (simp (disch := omega) only [StLe, tmLe, hpLe_refl, hpLe, bl, bb, bt, zDs, zD, eqCells, simprocAttr, turnP, List.range_zero])) ?_
    rintro ⟨j, g, tt⟩ hj
    simp only at hj
    by_cases hlt : j < n
    · ((refine wqb (F := _∧_∧_∧_∧_) ⟨hr0, h0, hrl0, @Int.ofNat_lt, hlt⟩ ?_))
      ((refine wia ?_))
      ((refine wsa ?_))
      ((repeat refine AW_seq ?_))
      refine AW_block ?_
      ((refine wqa ?_))
      refine AW.begin 5 1 3 rfl (by omega) ?_
      (simp (disch := omega) only [bb, bt, zDs, zD, eqCells, simprocAttr])
      ((refine wqa ?_))
      ((repeat refine AW_seq ?_))
      refine AW_mid (fun x : Nat × Nat => ⟨[(0, mat m), (3, .own 1 0 g 0 j), (4, int j), (5, .own 1 1 x.1 0 m.length)], [some ⟨50, g, (turnP m j).map ints⟩, some ⟨3, x.1, (colP m j).map int⟩], x.2⟩) (fun _ => True) ?_ ?_
      · refine AW_block ?_
        refine AW_loop_w (fun x : Nat × Nat × Nat => ⟨[(0, mat m), (3, .own 1 0 g 0 j), (4, int j), (5, .own 1 1 x.2.1 0 x.1), (6, int x.1)], [some ⟨50, g, (turnP m j).map ints⟩, some ⟨3, x.2.1, (colP (m.take x.1) j).map int⟩], x.2.2⟩) (fun x => m.length - x.1) (fun x => x.1 ≤ m.length) (0, tt + 1, tt + 1) (Nat.zero_le _) (by (simp (disch := omega) only [StLe, tmLe, hpLe_refl, hpLe, bl, bb, bt, zDs, zD, eqCells, simprocAttr, colP])) ?_
        rintro ⟨i, h, t3⟩ hi
        simp only at hi
        by_cases hli : i < m.length
        · obtain ⟨r, hr⟩ : ∃ y, m[i]? = some y := ⟨_, List.getElem?_eq_getElem hli⟩
          have hrl := hl r (List.mem_of_getElem? hr)
          obtain ⟨v, hv⟩ : ∃ y, r[j]? = some y := ⟨_, List.getElem?_eq_getElem (by omega)⟩
          have hjr : j < r.length := by omega
          have hct := colP_take hr hv
          have hcl : (colP (m.take i) j).length = i := by simp [colP]; omega
          ((refine wqb (F := _∧_) ⟨@Int.ofNat_lt, hli⟩ ?_))
          ((refine wia ?_))
          ((refine wsa ?_))
          ((repeat refine AW_seq ?_))
          refine AW_block ?_
          ((refine wqb (F := _∧_∧_∧_∧_) ⟨hr, hli, hjr, hv, hcl⟩ ?_))
          ((refine wqa ?_))
          refine ⟨(i + 1, t3 + 1, t3 + 1), hli, by show m.length - (i + 1) < m.length - i; omega, ?_⟩
          simp only [hct, List.map_append, List.map_cons, List.map_nil]
          (simp (disch := omega) only [StLe, tmLe, hpLe_refl, hpLe, bl, bb, bt, zDs, zD, eqCells, simprocAttr])
        · have hie : i = m.length := by omega
          subst hie
          ((refine wqb @Int.lt_irrefl ?_))
          ((refine wia ?_))
          ((refine wxa ?_))
          refine ⟨(h, t3), trivial, ?_⟩
          simp only [List.take_length]
          (simp (disch := omega) only [StLe, tmLe, hpLe_refl, hpLe, bl, bb, bt, zDs, zD, eqCells, simprocAttr])
      · rintro ⟨h, t3⟩ -
        refine AW.tail 1 [some ⟨50, g, (turnP m j).map ints⟩] [some ⟨3, h, (colP m j).map int⟩] rfl ?_
        simp only [zT, zH, List.map_cons, List.map_nil, Option.map_some, zv_matX, zv_intsX, zv_vX, List.length_nil, List.length_cons, List.map_map]
        have hmm : (zv 1 [some ⟨3, h, (colP m j).map int⟩] 1 ∘ ints) = ints := funext fun l => zv_intsX _ _ _ _
        have hcl : (colP m j).length = m.length := by simp [colP]
        have hz : zv 1 [some ⟨3, h, (colP m j).map int⟩] 1 (.own 1 1 h 0 m.length) = ints (colP m j) := by
          simp only [zv, zz, Nat.lt_irrefl, if_false, Nat.sub_self, List.getElem?_cons_zero, Nat.zero_add, Nat.mul_one, List.length_map, hcl, Nat.le_refl, and_self, if_true, List.drop_zero]
          rw [List.take_of_length_le (by simp [hcl])]
          simp
        have hz2 : zv 1 [some ⟨3, h, (colP m j).map int⟩] 1 (.own 1 0 g 0 j) = .own 1 0 g 0 j := by simp [zv, zz]
        simp only [Nat.zero_add, hmm, hz, hz2]
        have htl := turnP_len m j
        ((refine wqb htl ?_))
        ((refine wqa ?_))
        refine ⟨(j + 1, t3 + 1, t3 + 1), hlt, by show n - (j + 1) < n - j; omega, ?_⟩
        simp only [turnP_succ, List.map_append, List.map_cons, List.map_nil]
        (simp (disch := omega) only [StLe, tmLe, hpLe_refl, hpLe, bl, bb, bt, zDs, zD, eqCells, simprocAttr])
    · have hje : j = n := by omega
      subst hje
      ((refine wqb (F := _∧_∧_∧_) ⟨hr0, h0, hrl0, @Int.lt_irrefl⟩ ?_))
      ((refine wia ?_))
      ((refine wxa ?_))
      exact ⟨(g, tt), trivial, by (simp (disch := omega) only [StLe, tmLe, hpLe_refl, hpLe, bl, bb, bt, zDs, zD, eqCells, simprocAttr])⟩
  · rintro ⟨g, tt⟩ -
    have htl := turnP_len m n
    ((refine wqa ?_))
    ((repeat refine AW_seq ?_); (refine wta ?_); simp (disch := omega) only [retQ, resD, oneD, bb, bt, zDs, zD, eqCells, simprocAttr, Tryz.results92])
    have hrd : ∀ (R : D → D) (H : Hp) (l : List Int), rsL R H (l.map int) = l.map int := fun R H l => by
      induction l with
      | nil => simp [rsL]
      | cons x l ih => simp only [List.map_cons, rsL, rs, ih]
    have hmap : ∀ (R : D → D) (H : Hp), ((turnP m n).map ints).map (rs R H) = (turnP m n).map ints := fun R H => by
      rw [List.map_map]
      exact List.map_congr_left fun l _ => by simp only [Function.comp_apply, rs, hrd]
    show rs (rsv _ 2) _ _ = _
    simp only [rs, List.getElem?_cons_zero, List.drop_zero, Nat.zero_add, Nat.mul_one, List.length_map, htl, Nat.le_refl, and_self, if_true]
    rw [List.take_of_length_le (by simp [htl])]
    exact congrArg (fun l => D.sl 1 l false) (hmap _ _)
end Go.Proofs.YtjjpjgnoanfaoaaGreat.T
