import Derived.Test.YtcjmknmlfggblaaTB
import Derived.Test.YtcjmknmlfggblaaLHD
import Derived.Test.YtcjmknmlfggblaaWPB
import Derived.Test.YtcjmknmlfggblaaWO
import Derived.Test.YtcjmknmlfggblaaWS
set_option linter.all false
namespace Go.Proofs.Ytcjmknmlfggblaa.T
open Go Go.RowKit Lin
set_option linter.unusedSimpArgs false

theorem beq_pair (x y : Int × Int) : (x == y) = ((x.1 == y.1) && (x.2 == y.2)) := rfl
theorem indexFr (l : List (Int × Int)) (x : Int × Int) (hl : l.length ≤ 1000000) : PRet Try.prog 68 [frs l, frD x] (int (idx (fun y => x == y) l 0)) := by
  refine PRet.intro 1 fun t => ACall.enter tab_ok Try.func68 rfl rfl Try.ntmps68 (by simp) ?_
  simp only [enterTM]
  have hla := frC_len l
  have ha2 : (frC l).length / 2 = l.length := by omega
  ((refine ggb0 ha2 ?_))
  ((repeat refine AW_seq ?_))
  refine AW_block ?_
  refine AW_loop_w (fun k : Nat × Nat => ⟨[(0, frs l), (3, .ptr 0 (t + 1) 0), (7, int l.length), (8, int k.1)], [some ⟨32, t + 1, [int x.1, int x.2]⟩], k.2⟩) (fun k => l.length - k.1) (fun k => k.1 ≤ l.length ∧ idx (fun y => x == y) l 0 = idx (fun y => x == y) (l.drop k.1) k.1) (0, t + 1) ⟨Nat.zero_le _, rfl⟩ (by (simp (disch := omega) only [StLe, tmLe, hpLe_refl, hpLe, bl, bb, bt, zDs, zD, eqCells, simprocAttr])) ?_
  rintro ⟨k, tt⟩ ⟨hk, hi⟩
  simp only at hk hi
  by_cases hlt : k < l.length
  · obtain ⟨y, hy⟩ : ∃ x, l[k]? = some x := ⟨_, List.getElem?_eq_getElem hlt⟩
    have hd : l.drop k = y :: l.drop (k + 1) := by
      obtain ⟨h1, h2⟩ := List.getElem?_eq_some_iff.1 hy
      rw [List.drop_eq_getElem_cons h1, h2]
    rw [hd] at hi
    have hra := frC_read l k y hy
    ((refine ggb0 (F := _∧_) ⟨@Int.ofNat_lt, hlt⟩ ?_))
    ((repeat refine AW_seq ?_))
    refine AW_block ?_
    ((refine gga0 ?_))
    cases hpx : x == y
    · have hb := hpx
      rw [beq_pair] at hb
      ((repeat refine AW_seq ?_); (refine gdzb (F := _∧_∧_∧_) ⟨ha2, hlt, hra, hb⟩ ?_))
      ((refine gga0 ?_))
      refine ⟨(k + 1, tt + 1), ⟨hlt, by rw [hi]; simp [idx, hpx]⟩, by show l.length - (k + 1) < l.length - k; omega, ?_⟩
      (simp (disch := omega) only [StLe, tmLe, hpLe_refl, hpLe, bl, bb, bt, zDs, zD, eqCells, simprocAttr])
    · have hb := hpx
      rw [beq_pair] at hb
      ((repeat refine AW_seq ?_); (refine gdzb (F := _∧_∧_∧_) ⟨ha2, hlt, hra, hb⟩ ?_))
      ((refine gga0 ?_))
      ((repeat refine AW_seq ?_); (refine wta ?_); simp (disch := omega) only [retQ, resD, oneD, rsv, rs, rsL, rsL_eq_map, List.map_map, bb, bt, zDs, zD, eqCells, simprocAttr, Try.results68, hi, idx, hpx])
  · ((refine ggb0 (F := _∧_) ⟨@Int.ofNat_lt, hlt⟩ ?_))
    ((repeat refine AW_seq ?_); (refine wta ?_); simp (disch := omega) only [retQ, resD, oneD, rsv, rs, rsL, rsL_eq_map, List.map_map, bb, bt, zDs, zD, eqCells, simprocAttr, Try.results68, hi])
    rw [List.drop_eq_nil_of_le (by omega)]; rfl
theorem containsFr (l : List (Int × Int)) (x : Int × Int) (hl : l.length ≤ 1000000) : PRet Try.prog 41 [frs l, frD x] (bool (l.any fun y => x == y)) := by
  refine PRet.intro 1 fun t => ACall.enter tab_ok Try.func41 rfl rfl Try.ntmps41 (by simp) ?_
  simp only [enterTM]
  ((refine gga1 (indexFr l x hl) ?_))
  ((repeat refine AW_seq ?_); (refine wta ?_); simp (disch := omega) only [retQ, resD, oneD, rsv, rs, rsL, rsL_eq_map, List.map_map, bb, bt, zDs, zD, eqCells, simprocAttr, Try.results41])
  rw [← idx_any _ l 0]
theorem holds1 (x : Int × Int) : PRet Try.prog 40 [frD x] (bool (!((x.1 == 0) && (x.2 == 1)))) := by
  refine PRet.intro 1 fun t => ACall.enter tab_ok Try.func40 rfl rfl Try.ntmps40 (by simp) ?_
  simp only [enterTM]
  have hc := lawF 0
  ((refine gga0 ?_))
  ((repeat refine AW_seq ?_); (refine gdza1 hc ?_))
  ((repeat refine AW_seq ?_); (refine wta ?_); simp (disch := omega) only [retQ, resD, oneD, rsv, rs, rsL, rsL_eq_map, List.map_map, bb, bt, zDs, zD, eqCells, simprocAttr, Try.results40, Bool.and_true])
/-- What the law says of a solution: plain facts. -/
theorem solve_facts {m : List (List Int)} {right : List Int} (hv : validP m = true) :
    ((solveP m right).2 = 0 ∧ rankP m (wid m) = wid m ∧ (prodP m (solveP m right).1 = (right.map (fun b => (b, 1)), 0) ∨ prodP m (solveP m right).1 = ([], 5))) ∨ ((solveP m right).2 ≠ 0 ∧ (solveP m right).1 = [] ∧ ((solveP m right).2 = 21 → rankP m (wid m) < wid m)) := by
  unfold solveP
  rw [if_pos hv]
  by_cases hr : right.length = m.length
  rotate_left 1
  · rw [if_neg hr]; right; simp
  rw [if_pos hr]
  cases hw : withinP right 67108864
  · right; simp
  rw [if_pos rfl]
  have hb := both_rank hv hr hw
  by_cases hok : (solF (elim (copyP m right) (wid m)) (wid m)).2 = 0
  · left
    rcases sol_prod hv hr hw hok with ⟨h1, h2⟩ | ⟨h1, h2⟩
    · exact ⟨hok, by rw [← hb, h1], .inl h2⟩
    · exact ⟨hok, by rw [← hb, h1], .inr h2⟩
  · right
    refine ⟨hok, ?_⟩
    rw [← hb]
    unfold solF at hok ⊢
    split
    · simp
    · rename_i h1
      rw [if_neg h1] at hok
      split
      · rename_i h2; exact ⟨rfl, fun _ => h2⟩
      · rename_i h2
        rw [if_neg h2] at hok
        simp at hok
theorem solveP_len (m : List (List Int)) (right : List Int) (hv : validP m = true) : (solveP m right).1.length ≤ 1000 := by
  have h2 := (validP_iff.1 hv).2.1
  unfold solveP
  rw [if_pos hv]
  split
  · split
    · unfold solF
      split
      · simp
      · split
        · simp
        · simp; omega
    · simp
  · simp
set_option maxHeartbeats 2000000 in
theorem holds (m : List (List Int)) (right : List Int) : PRet Try.prog 9 [mat m, ints right] (bool true) := by
  refine PRet.intro 1 fun t => ACall.enter tab_ok Try.func9 rfl rfl Try.ntmps9 (by simp) ?_
  simp only [enterTM]
  have f0 : frC [] = [] := rfl
  cases hlg : longP m
  rotate_left 1
  · ((refine ggb2 hlg awake (long m) ?_))
    ((repeat refine AW_seq ?_); (refine wta ?_); simp (disch := omega) only [retQ, resD, oneD, rsv, rs, rsL, rsL_eq_map, List.map_map, bb, bt, zDs, zD, eqCells, simprocAttr, Try.results9])
  by_cases hr20 : (20 : Int) < right.length
  · ((refine ggb2 (F := _∧_) ⟨hlg, hr20⟩ awake (long m) ?_))
    ((repeat refine AW_seq ?_); (refine wta ?_); simp (disch := omega) only [retQ, resD, oneD, rsv, rs, rsL, rsL_eq_map, List.map_map, bb, bt, zDs, zD, eqCells, simprocAttr, Try.results9])
  obtain ⟨hm, hl⟩ := longP_false hlg
  have hm' : m.length ≤ 1000000 := by omega
  have hl' : ∀ r ∈ m, r.length ≤ 1000000 := fun r hr => by have := hl r hr; omega
  have hS := solve m right hm' hl' (by omega)
  have hN := null m hm' hl'
  have hR := rank m hm' hl'
  cases hv : validP m
  · have e1 : solveP m right = ([], 1) := by simp [solveP, hv]
    have e2 : nullP m = ([], 1) := by simp [nullP, hv]
    rw [e1] at hS
    rw [e2] at hN
    rw [hv] at hR
    simp only [Bool.false_eq_true, if_false] at hR
    ((refine ggb5 (F := _∧_∧_) ⟨hlg, hr20, f0⟩ awake (long m) hS hN hR ?_))
    ((repeat refine AW_seq ?_); (refine wta ?_); simp (disch := omega) only [retQ, resD, oneD, rsv, rs, rsL, rsL_eq_map, List.map_map, bb, bt, zDs, zD, eqCells, simprocAttr, Try.results9])
  obtain ⟨h1, h2, h3⟩ := validP_iff.1 hv
  have hsm := valid_small hv
  rw [hv] at hR
  simp only [if_true] at hR
  have en : nullP m = (nulls (elim m (wid m)) (wid m) (wid m), 0) := by unfold nullP; rw [if_pos hv]
  rw [en] at hN
  have iv := elim_inv (ups_mover m (wid m)) hsm.lens (wid m) (Nat.le_refl _)
  rw [← elim_by] at iv
  have hcount := nulls_rank iv
  have hnp := fun v hmem => null_prod hv (v := v) hmem
  have hrk : rankP m (wid m) = (elim m (wid m)).pivots.length := rfl
  rw [← hrk] at hcount
  generalize nulls (elim m (wid m)) (wid m) (wid m) = NN at *
  have hsf := solve_facts (right := right) hv
  have hXl := solveP_len m right hv
  generalize solveP m right = X at *
  generalize hK : rankP m (wid m) = K at *
  obtain ⟨r0, m', hm0⟩ : ∃ r0 m', m = r0 :: m' := by
    cases m with
    | nil => simp at h1
    | cons a b => exact ⟨a, b, rfl⟩
  have hwd : wid m = r0.length := by rw [hm0]; rfl
  have hat0 : m[0]? = some r0 := by rw [hm0]; rfl
  have hpos : 0 < m.length := by omega
  ((refine ggb3 (F := _∧_) ⟨hlg, hr20⟩ awake (long m) hS ?_))
  ((repeat refine AW_seq ?_))
  refine AW_mid (fun t : Nat => ⟨[(0, mat m), (6, int X.2)], [], t⟩) (fun _ => True) ?_ ?_
  · rcases hsf with ⟨z, hKn, hprod⟩ | ⟨z, hx, _⟩
    · have z' : (X.2 == 0) = true := by simpa using z
      have hP := rProduct m X.1 hm' hl' (by omega)
      rcases hprod with hprod | hprod
      · rw [hprod] at hP
        have hyl := frC_len (right.map fun b => (b, (1 : Int)))
        rw [List.length_map] at hyl
        have hy2 : (frC (right.map fun b => (b, (1 : Int)))).length / 2 = right.length := by omega
        have hyr := frC_read (right.map fun b => (b, (1 : Int)))
        ((refine ggb1 (F := _∧_) ⟨z', hy2⟩ hP ?_))
        ((repeat refine AW_seq ?_))
        refine AW_block ?_
        refine AW_loop_w (fun x : Nat × Nat => ⟨[(0, mat m), (6, int X.2), (7, frs (right.map fun b => (b, (1 : Int)))), (56, ints right), (57, int right.length), (58, int x.1)], [], x.2⟩) (fun x => right.length - x.1) (fun x => x.1 ≤ right.length) (0, t) (Nat.zero_le _) (by (simp (disch := omega) only [StLe, tmLe, hpLe_refl, hpLe, bl, bb, bt, zDs, zD, eqCells, simprocAttr])) ?_
        rintro ⟨k, tt⟩ hk
        simp only at hk
        by_cases hlt : k < right.length
        · obtain ⟨b, hb⟩ : ∃ y, right[k]? = some y := ⟨_, List.getElem?_eq_getElem hlt⟩
          have hra := hyr k (b, 1) (by simp [hb])
          have hc := lawF b
          ((refine ggb0 (F := _∧_) ⟨@Int.ofNat_lt, hlt⟩ ?_))
          ((repeat refine AW_seq ?_))
          refine AW_block ?_
          ((refine ggb0 (F := _∧_) ⟨hlt, hb⟩ ?_))
          ((repeat refine AW_seq ?_); (refine gdzb1 (F := _∧_∧_) ⟨hy2, hlt, hra⟩ hc ?_))
          ((refine gga0 ?_))
          refine ⟨(k + 1, tt + 1), hlt, by show right.length - (k + 1) < right.length - k; omega, ?_⟩
          (simp (disch := omega) only [StLe, tmLe, hpLe_refl, hpLe, bl, bb, bt, zDs, zD, eqCells, simprocAttr])
        · have hke : k = right.length := by omega
          subst hke
          ((refine ggb0 @Int.lt_irrefl ?_))
          exact ⟨tt, trivial, by (simp (disch := omega) only [StLe, tmLe, hpLe_refl, hpLe, bl, bb, bt, zDs, zD, eqCells, simprocAttr])⟩
      · rw [hprod] at hP
        ((refine ggb1 (F := _∧_) ⟨z', f0⟩ hP ?_))
        ((repeat refine AW_seq ?_); (refine wta ?_); simp (disch := omega) only [retQ, resD, oneD, rsv, rs, rsL, rsL_eq_map, List.map_map, bb, bt, zDs, zD, eqCells, simprocAttr, Try.results9])
    · have z' : (X.2 == 0) = false := by simpa using z
      rw [hx]
      ((refine ggb0 (F := _∧_) ⟨z', f0⟩ ?_))
      exact ⟨t, trivial, by (simp (disch := omega) only [StLe, tmLe, hpLe_refl, hpLe, bl, bb, bt, zDs, zD, eqCells, simprocAttr])⟩
  rintro t2 -
  have e1 : (((NN.length : Int) + (K : Int)) != (wid m : Int)) = false := by simp; omega
  have hr' : (X.2 == 0) = true → decide ((0 : Int) < NN.length) = false := fun hp => by
    have hp' : X.2 = 0 := by simpa using hp
    rcases hsf with ⟨z, hKn, _⟩ | ⟨z, _⟩
    · exact decide_eq_false (by omega)
    · exact absurd hp' z
  have hq' : (X.2 == 0) = true → (X.2 == 21) = false := fun hp => by
    have hp' : X.2 = 0 := by simpa using hp
    rw [hp']; rfl
  have hs' : (X.2 == 21) = true → ((NN.length : Int) == 0) = false := fun hq => by
    have hq2 : X.2 = 21 := by simpa using hq
    rcases hsf with ⟨z, _⟩ | ⟨_, _, hlt⟩
    · omega
    · have := hlt hq2
      exact beq_eq_false_iff_ne.2 (by omega)
  have hNl : NN.length ≤ 12 := by omega
  have hKl : K ≤ 12 := by omega
  have g2 := h2
  generalize hw : wid m = wd at *
  clear hsf hcount hrk iv hsm hS en
  generalize hp : (X.2 == 0) = p at *
  generalize hq : (X.2 == 21) = q at *
  cases p <;> cases q
  rotate_left 3
  · exact absurd (hq' rfl) (by decide)
  · skip
    clear hr' hq' hs'
    ((refine ggb2 (F := _∧_∧_∧_∧_∧_) ⟨hp, hq, e1, hat0, hpos, (hwd).symm⟩ hN hR ?_))
    refine AW.less ⟨[(0, mat m), (129, frss NN), (130, int NN.length), (131, int 0)], [], t2⟩ (by (simp (disch := omega) only [StLe, tmLe, hpLe_refl, hpLe, bl, bb, bt, zDs, zD, eqCells, simprocAttr])) ?_
    clear hp hq hN hR
    refine AW_mid (fun t : Nat => ⟨[], [], t⟩) (fun _ => True) ?_ ?_
    · refine AW_block ?_
      refine AW_loop_w (fun x : Nat × Nat => ⟨[(0, mat m), (129, frss NN), (130, int NN.length), (131, int x.1)], [], x.2⟩) (fun x => NN.length - x.1) (fun x => x.1 ≤ NN.length) (0, t2) (Nat.zero_le _) (by (simp (disch := omega) only [StLe, tmLe, hpLe_refl, hpLe, bl, bb, bt, zDs, zD, eqCells, simprocAttr])) ?_
      rintro ⟨k, tt⟩ hk
      simp only at hk
      by_cases hlt : k < NN.length
      · obtain ⟨v, hvk⟩ : ∃ y, NN[k]? = some y := ⟨_, List.getElem?_eq_getElem hlt⟩
        obtain ⟨v1, v2, v3, v4⟩ := hnp v (List.mem_of_getElem? hvk)
        have hP := rProduct m v hm' hl' (by omega)
        have hC := containsFr v (1, 1) (by omega)
        have hCv : (v.any fun y => ((1 : Int), (1 : Int)) == y) = true := by
          rw [List.any_eq_true]
          exact ⟨(1, 1), List.contains_iff_mem.1 v3, rfl⟩
        rw [hCv] at hC
        have hf := lawF 1
        ((refine ggb0 (F := _∧_) ⟨@Int.ofNat_lt, hlt⟩ ?_))
        ((repeat refine AW_seq ?_))
        refine AW_block ?_
        rcases v4 with v4 | v4
        · rw [v4] at hP
          have hF := containsFuncFr (m.map fun _ => ((0 : Int), (1 : Int))) 40 [] (fun x => !((x.1 == 0) && (x.2 == 1))) (by simp; omega) (fun x _ => holds1 x)
          have hFv : ((m.map fun _ => ((0 : Int), (1 : Int))).any fun x => !((x.1 == 0) && (x.2 == 1))) = false := by simp
          rw [hFv] at hF
          ((refine ggb4 (F := _∧_) ⟨hlt, hvk⟩ hP hF hC hf ?_))
          refine ⟨(k + 1, tt + 1), hlt, by show NN.length - (k + 1) < NN.length - k; omega, ?_⟩
          (simp (disch := omega) only [StLe, tmLe, hpLe_refl, hpLe, bl, bb, bt, zDs, zD, eqCells, simprocAttr])
        · rw [v4] at hP
          ((refine ggb3 (F := _∧_) ⟨hlt, hvk⟩ hP hC hf ?_))
          refine ⟨(k + 1, tt + 1), hlt, by show NN.length - (k + 1) < NN.length - k; omega, ?_⟩
          (simp (disch := omega) only [StLe, tmLe, hpLe_refl, hpLe, bl, bb, bt, zDs, zD, eqCells, simprocAttr])
      · have hke : k = NN.length := by omega
        subst hke
        ((refine ggb0 @Int.lt_irrefl ?_))
        exact ⟨tt, trivial, by (simp (disch := omega) only [StLe, tmLe, hpLe_refl, hpLe, bl, bb, bt, zDs, zD, eqCells, simprocAttr])⟩
    · rintro t3 -
      ((refine gga0 ?_))
      ((repeat refine AW_seq ?_); (refine wta ?_); simp (disch := omega) only [retQ, resD, oneD, rsv, rs, rsL, rsL_eq_map, List.map_map, bb, bt, zDs, zD, eqCells, simprocAttr, Try.results9])
  · have hs2 := hs' rfl
    clear hr' hq' hs'
    ((refine ggb2 (F := _∧_∧_∧_∧_∧_∧_) ⟨hp, hq, hs2, e1, hat0, hpos, (hwd).symm⟩ hN hR ?_))
    refine AW.less ⟨[(0, mat m), (129, frss NN), (130, int NN.length), (131, int 0)], [], t2⟩ (by (simp (disch := omega) only [StLe, tmLe, hpLe_refl, hpLe, bl, bb, bt, zDs, zD, eqCells, simprocAttr])) ?_
    clear hp hq hN hR
    refine AW_mid (fun t : Nat => ⟨[], [], t⟩) (fun _ => True) ?_ ?_
    · refine AW_block ?_
      refine AW_loop_w (fun x : Nat × Nat => ⟨[(0, mat m), (129, frss NN), (130, int NN.length), (131, int x.1)], [], x.2⟩) (fun x => NN.length - x.1) (fun x => x.1 ≤ NN.length) (0, t2) (Nat.zero_le _) (by (simp (disch := omega) only [StLe, tmLe, hpLe_refl, hpLe, bl, bb, bt, zDs, zD, eqCells, simprocAttr])) ?_
      rintro ⟨k, tt⟩ hk
      simp only at hk
      by_cases hlt : k < NN.length
      · obtain ⟨v, hvk⟩ : ∃ y, NN[k]? = some y := ⟨_, List.getElem?_eq_getElem hlt⟩
        obtain ⟨v1, v2, v3, v4⟩ := hnp v (List.mem_of_getElem? hvk)
        have hP := rProduct m v hm' hl' (by omega)
        have hC := containsFr v (1, 1) (by omega)
        have hCv : (v.any fun y => ((1 : Int), (1 : Int)) == y) = true := by
          rw [List.any_eq_true]
          exact ⟨(1, 1), List.contains_iff_mem.1 v3, rfl⟩
        rw [hCv] at hC
        have hf := lawF 1
        ((refine ggb0 (F := _∧_) ⟨@Int.ofNat_lt, hlt⟩ ?_))
        ((repeat refine AW_seq ?_))
        refine AW_block ?_
        rcases v4 with v4 | v4
        · rw [v4] at hP
          have hF := containsFuncFr (m.map fun _ => ((0 : Int), (1 : Int))) 40 [] (fun x => !((x.1 == 0) && (x.2 == 1))) (by simp; omega) (fun x _ => holds1 x)
          have hFv : ((m.map fun _ => ((0 : Int), (1 : Int))).any fun x => !((x.1 == 0) && (x.2 == 1))) = false := by simp
          rw [hFv] at hF
          ((refine ggb4 (F := _∧_) ⟨hlt, hvk⟩ hP hF hC hf ?_))
          refine ⟨(k + 1, tt + 1), hlt, by show NN.length - (k + 1) < NN.length - k; omega, ?_⟩
          (simp (disch := omega) only [StLe, tmLe, hpLe_refl, hpLe, bl, bb, bt, zDs, zD, eqCells, simprocAttr])
        · rw [v4] at hP
          ((refine ggb3 (F := _∧_) ⟨hlt, hvk⟩ hP hC hf ?_))
          refine ⟨(k + 1, tt + 1), hlt, by show NN.length - (k + 1) < NN.length - k; omega, ?_⟩
          (simp (disch := omega) only [StLe, tmLe, hpLe_refl, hpLe, bl, bb, bt, zDs, zD, eqCells, simprocAttr])
      · have hke : k = NN.length := by omega
        subst hke
        ((refine ggb0 @Int.lt_irrefl ?_))
        exact ⟨tt, trivial, by (simp (disch := omega) only [StLe, tmLe, hpLe_refl, hpLe, bl, bb, bt, zDs, zD, eqCells, simprocAttr])⟩
    · rintro t3 -
      ((refine gga0 ?_))
      ((repeat refine AW_seq ?_); (refine wta ?_); simp (disch := omega) only [retQ, resD, oneD, rsv, rs, rsL, rsL_eq_map, List.map_map, bb, bt, zDs, zD, eqCells, simprocAttr, Try.results9])
  · have hr2 := hr' rfl
    clear hr' hq' hs'
    ((refine ggb2 (F := _∧_∧_∧_∧_∧_∧_) ⟨hp, hq, hr2, e1, hat0, hpos, (hwd).symm⟩ hN hR ?_))
    refine AW.less ⟨[(0, mat m), (129, frss NN), (130, int NN.length), (131, int 0)], [], t2⟩ (by (simp (disch := omega) only [StLe, tmLe, hpLe_refl, hpLe, bl, bb, bt, zDs, zD, eqCells, simprocAttr])) ?_
    clear hp hq hN hR
    refine AW_mid (fun t : Nat => ⟨[], [], t⟩) (fun _ => True) ?_ ?_
    · refine AW_block ?_
      refine AW_loop_w (fun x : Nat × Nat => ⟨[(0, mat m), (129, frss NN), (130, int NN.length), (131, int x.1)], [], x.2⟩) (fun x => NN.length - x.1) (fun x => x.1 ≤ NN.length) (0, t2) (Nat.zero_le _) (by (simp (disch := omega) only [StLe, tmLe, hpLe_refl, hpLe, bl, bb, bt, zDs, zD, eqCells, simprocAttr])) ?_
      rintro ⟨k, tt⟩ hk
      simp only at hk
      by_cases hlt : k < NN.length
      · obtain ⟨v, hvk⟩ : ∃ y, NN[k]? = some y := ⟨_, List.getElem?_eq_getElem hlt⟩
        obtain ⟨v1, v2, v3, v4⟩ := hnp v (List.mem_of_getElem? hvk)
        have hP := rProduct m v hm' hl' (by omega)
        have hC := containsFr v (1, 1) (by omega)
        have hCv : (v.any fun y => ((1 : Int), (1 : Int)) == y) = true := by
          rw [List.any_eq_true]
          exact ⟨(1, 1), List.contains_iff_mem.1 v3, rfl⟩
        rw [hCv] at hC
        have hf := lawF 1
        ((refine ggb0 (F := _∧_) ⟨@Int.ofNat_lt, hlt⟩ ?_))
        ((repeat refine AW_seq ?_))
        refine AW_block ?_
        rcases v4 with v4 | v4
        · rw [v4] at hP
          have hF := containsFuncFr (m.map fun _ => ((0 : Int), (1 : Int))) 40 [] (fun x => !((x.1 == 0) && (x.2 == 1))) (by simp; omega) (fun x _ => holds1 x)
          have hFv : ((m.map fun _ => ((0 : Int), (1 : Int))).any fun x => !((x.1 == 0) && (x.2 == 1))) = false := by simp
          rw [hFv] at hF
          ((refine ggb4 (F := _∧_) ⟨hlt, hvk⟩ hP hF hC hf ?_))
          refine ⟨(k + 1, tt + 1), hlt, by show NN.length - (k + 1) < NN.length - k; omega, ?_⟩
          (simp (disch := omega) only [StLe, tmLe, hpLe_refl, hpLe, bl, bb, bt, zDs, zD, eqCells, simprocAttr])
        · rw [v4] at hP
          ((refine ggb3 (F := _∧_) ⟨hlt, hvk⟩ hP hC hf ?_))
          refine ⟨(k + 1, tt + 1), hlt, by show NN.length - (k + 1) < NN.length - k; omega, ?_⟩
          (simp (disch := omega) only [StLe, tmLe, hpLe_refl, hpLe, bl, bb, bt, zDs, zD, eqCells, simprocAttr])
      · have hke : k = NN.length := by omega
        subst hke
        ((refine ggb0 @Int.lt_irrefl ?_))
        exact ⟨tt, trivial, by (simp (disch := omega) only [StLe, tmLe, hpLe_refl, hpLe, bl, bb, bt, zDs, zD, eqCells, simprocAttr])⟩
    · rintro t3 -
      ((refine gga0 ?_))
      ((repeat refine AW_seq ?_); (refine wta ?_); simp (disch := omega) only [retQ, resD, oneD, rsv, rs, rsL, rsL_eq_map, List.map_map, bb, bt, zDs, zD, eqCells, simprocAttr, Try.results9])
end Go.Proofs.Ytcjmknmlfggblaa.T
