import Derived.Test.YtpcakodemleoiaaGreatFACRVU
import Derived.Test.YtpcakodemleoiaaGreatFALNARD
import Derived.Test.YtpcakodemleoiaaGreatFALMALR
import Derived.Test.YtpcakodemleoiaaGreatFFWALT
import Derived.Test.YtpcakodemleoiaaGreatFTJ
import Derived.Test.YtpcakodemleoiaaGreatFWA
import Derived.Test.YtpcakodemleoiaaGreatFWJK
import Derived.Test.YtpcakodemleoiaaGreatFSG
import Derived.Test.YtpcakodemleoiaaGreatRows
import Derived.Lib.SmallJoins
import Derived.ProofKit
set_option linter.all false
namespace Go.Proofs.YtpcakodemleoiaaGreat.T
open Go Go.RowKit Lin
end Go.Proofs.YtpcakodemleoiaaGreat.T

namespace Go.Proofs.YtpcakodemleoiaaGreat.T
open Go Go.RowKit Lin
set_option maxHeartbeats 8000000 in
theorem force_ref (s : Sy) (hf : Fits s) (up : Bool) : PRet Tryz.prog 20 [syD s, bool up] (fe (forceP s up)) := by
  refine PRet.intro 1 fun t => ACall.enter tab_ok Tryz.func20 rfl rfl Tryz.ntmps20 (by simp) ?_
  simp only [enterTM]
  have hF := first_ref s hf up
  have hfv := @firstP_v s up
  unfold forceP
  by_cases h0 : (firstP s up).2.2 = 0
  rotate_left 1
  · have e1 : ((firstP s up).2.2 != 0) = true := by simpa using h0
    rw [if_neg h0]
    generalize firstP s up = X at *
    ((refine ggb1 e1 hF ?_))
    ((repeat refine AW_seq ?_); (refine wta ?_); simp (disch := omega) only [retQ, resD, oneD, rsv, rs, rsL, rsL_eq_map, List.map_map, bb, bt, zDs, zD, eqCells, simprocAttr, Tryz.results20])
  obtain ⟨vt, el, hr, hv, hx0, hall⟩ := hfv h0
  have ok := validS_ok hv
  have hr6 := ok.r6
  obtain ⟨i, r, hi, hrr, _⟩ := hix_hit hx0
  have ehr : hauR s = r := by unfold hauR; rw [hi, Int.toNat_natCast, List.getD_eq_getElem?_getD, hrr]; rfl
  rw [ehr] at hr el
  have hA := along_ref r up hr
  have hH := refHaul s (by omega)
  rw [hi] at hH
  have hir := (List.getElem?_eq_some_iff.1 hrr).1
  have hdr := rpC_div s.rs
  have hra := rpC_read s.rs i r hrr
  obtain ⟨n2, n10⟩ := rightR_len hr
  have hll := facL_len r up (r.hs.length - 1)
  rw [← el] at hA hll
  rw [if_pos h0]
  generalize firstP s up = X at *
  obtain ⟨f, l, e⟩ := X
  simp only at *
  subst h0
  obtain ⟨x, hx⟩ : ∃ y, l[l.length - 1]? = some y := ⟨_, List.getElem?_eq_getElem (by omega)⟩
  have hrx := frC_read l (l.length - 1) x hx
  have hd := frC_div l
  have hs : (l.length : Int) - 1 = ((l.length - 1 : Nat) : Int) := by omega
  have hlt : l.length - 1 < l.length := by omega
  rw [List.getD_eq_getElem?_getD, hx, Option.getD_some]
  have vx := hall x (List.mem_of_getElem? hx)
  have hM := refTimes f x vt vx
  have hMn := @mulR_nil f x
  rw [mulP_ok vt vx]
  generalize mulR f x = M at *
  ((refine gga1 hF ?_))
  ((repeat refine AW_seq ?_); (refine gdzb2 (F := _∧_∧_) ⟨hir, hdr, hra⟩ hH hA ?_))
  ((refine gga0 ?_))
  ((repeat refine AW_seq ?_); (refine gdob1 (F := _∧_∧_∧_) ⟨hd, hs, hlt, hrx⟩ hM ?_))
  by_cases h1 : M.2 = 0
  · have e1 : (M.2 != 0) = false := by simpa using h1
    obtain ⟨⟨m1, m2⟩, me⟩ := M
    simp only at h1
    subst h1
    ((refine gga0 ?_))
    ((repeat refine AW_seq ?_); (refine wta ?_); simp (disch := omega) only [retQ, resD, oneD, rsv, rs, rsL, rsL_eq_map, List.map_map, bb, bt, zDs, zD, eqCells, simprocAttr, Tryz.results20])
  · have e1 : (M.2 != 0) = true := by simpa using h1
    rw [fr00 (hMn h1)]
    ((refine ggb0 e1 ?_))
    ((repeat refine AW_seq ?_); (refine wta ?_); simp (disch := omega) only [retQ, resD, oneD, rsv, rs, rsL, rsL_eq_map, List.map_map, bb, bt, zDs, zD, eqCells, simprocAttr, Tryz.results20])
set_option maxHeartbeats 8000000 in
theorem segs_ref (s : Sy) (hf : Fits s) (up : Bool) : PRet Tryz.prog 21 [syD s, bool up] (fse (segP s up)) := by
  refine PRet.intro 1 fun t => ACall.enter tab_ok Tryz.func21 rfl rfl Tryz.ntmps21 (by simp) ?_
  simp only [enterTM]
  have hF := first_ref s hf up
  have hfv := @firstP_v s up
  unfold segP
  by_cases h0 : (firstP s up).2.2 = 0
  rotate_left 1
  · have e1 : ((firstP s up).2.2 != 0) = true := by simpa using h0
    rw [if_neg h0]
    generalize firstP s up = X at *
    ((refine ggb1 e1 hF ?_))
    ((repeat refine AW_seq ?_); (refine wta ?_); simp (disch := omega) only [retQ, resD, oneD, rsv, rs, rsL, rsL_eq_map, List.map_map, bb, bt, zDs, zD, eqCells, simprocAttr, Tryz.results21])
    rfl
  obtain ⟨vt, el, hr, hv, hx0, hall⟩ := hfv h0
  have ok := validS_ok hv
  have hr6 := ok.r6
  obtain ⟨i, r, hi, hrr, _⟩ := hix_hit hx0
  have ehr : hauR s = r := by unfold hauR; rw [hi, Int.toNat_natCast, List.getD_eq_getElem?_getD, hrr]; rfl
  rw [ehr] at hr el
  have hA := along_ref r up hr
  have hH := refHaul s (by omega)
  rw [hi] at hH
  have hir := (List.getElem?_eq_some_iff.1 hrr).1
  have hdr := rpC_div s.rs
  have hra := rpC_read s.rs i r hrr
  obtain ⟨n2, n10⟩ := rightR_len hr
  have hll := facL_len r up (r.hs.length - 1)
  rw [← el] at hA hll
  rw [if_pos h0]
  generalize firstP s up = X at *
  obtain ⟨f, l, e⟩ := X
  simp only at *
  subst h0
  have hd := frC_div l
  have hz : frC [] = [] := rfl
  generalize hR : segA f l [] = R
  ((refine gga1 hF ?_))
  ((repeat refine AW_seq ?_); (refine gdzb2 (F := _∧_∧_) ⟨hir, hdr, hra⟩ hH hA ?_))
  ((refine ggb0 hd ?_))
  refine AW.begin 9 2 33 rfl (by decide) ?_
  simp only [putTM, List.length_cons, List.length_nil, Nat.reduceEqDiff, ↓reduceIte, List.cons_append, List.nil_append]
  ((repeat refine AW_seq ?_))
  refine AW_mid (fun x : Nat × Nat => ⟨[(9, .own 2 2 x.1 0 l.length)], [none, none, some ⟨33, x.1, frC R.1⟩], x.2⟩) (fun _ => R.2 = 0 ∧ R.1.length = l.length) ?_ ?_
  · refine AW_block ?_
    refine AW_loop_w (fun x : List (Int × Int) × Nat × Nat × Nat => ⟨[(6, .ptr 1 (t + 1 + 1) 0), (8, frs l), (9, .own 2 2 x.2.2.1 0 x.2.1), (10, int x.2.1)], [none, some ⟨33, t + 1 + 1, [int f.1, int f.2]⟩, some ⟨33, x.2.2.1, frC x.1⟩], x.2.2.2⟩) (fun x => l.length - x.2.1) (fun x => x.2.1 ≤ l.length ∧ x.1.length = x.2.1 ∧ segA f (l.drop x.2.1) x.1 = R) ([], 0, t + 1 + 1 + 1 + 1, t + 1 + 1 + 1 + 1) ⟨Nat.zero_le _, rfl, hR⟩ (by (simp (disch := omega) only [StLe, tmLe, hpLe_refl, hpLe, bl, bb, bt, zDs, zD, eqCells, simprocAttr, hz])) ?_
    rintro ⟨acc, k, g, tt⟩ ⟨hk, hak, hs⟩
    simp only at hk hak hs
    by_cases hlt : k < l.length
    · obtain ⟨x, hx⟩ : ∃ y, l[k]? = some y := ⟨_, List.getElem?_eq_getElem hlt⟩
      have hrx := frC_read l k x hx
      have vx := hall x (List.mem_of_getElem? hx)
      have hM := refTimes f x vt vx
      rw [segA_step hx, mulP_ok vt vx] at hs
      generalize mulR f x = M at *
      have hal := frC_len acc
      rw [hak] at hal
      have hap : frC acc ++ [int M.1.1, int M.1.2] = frC (acc ++ [M.1]) := by simp [frC]
      ((refine ggb0 (F := _∧_∧_) ⟨@Int.ofNat_lt, hlt, hd⟩ ?_))
      ((repeat refine AW_seq ?_))
      refine AW_block ?_
      ((repeat refine AW_seq ?_); (refine gdob1 (F := _∧_∧_) ⟨hlt, hd, hrx⟩ hM ?_))
      by_cases h1 : M.2 = 0
      rotate_left 1
      · have e1 : (M.2 != 0) = true := by simpa using h1
        rw [if_neg h1] at hs
        subst hs
        ((refine ggb0 e1 ?_))
        ((repeat refine AW_seq ?_); (refine wta ?_); simp (disch := omega) only [retQ, resD, oneD, rsv, rs, rsL, rsL_eq_map, List.map_map, bb, bt, zDs, zD, eqCells, simprocAttr, Tryz.results21])
        rfl
      have e1 : (M.2 != 0) = false := by simpa using h1
      rw [if_pos h1] at hs
      ((refine ggb0 (F := _∧_∧_) ⟨e1, hal, hap⟩ ?_))
      refine ⟨(acc ++ [M.1], k + 1, tt + 1 + 1, tt + 1 + 1 + 1), ⟨hlt, by simp [hak], hs⟩, by show l.length - (k + 1) < l.length - k; omega, ?_⟩
      (simp (disch := omega) only [StLe, tmLe, hpLe_refl, hpLe, bl, bb, bt, zDs, zD, eqCells, simprocAttr])
    · have hke : k = l.length := by omega
      subst hke
      have hde : segA f (l.drop l.length) acc = (acc, 0) := by rw [List.drop_eq_nil_of_le (Nat.le_refl _)]; rfl
      rw [hde] at hs
      subst hs
      ((refine wqb (F := _∧_) ⟨@Int.lt_irrefl, hd⟩ ?_))
      ((refine wia ?_))
      ((refine wxa ?_))
      exact ⟨(g, tt), ⟨rfl, hak⟩, by (simp (disch := omega) only [StLe, tmLe, hpLe_refl, hpLe, bl, bb, bt, zDs, zD, eqCells, simprocAttr])⟩
  rintro ⟨g, tt⟩ ⟨hR0, hRl⟩
  obtain ⟨a, e⟩ := R
  simp only at hR0 hRl ⊢
  subst hR0
  have hal := frC_len a
  rw [hRl] at hal
  have hfin : List.take (l.length * 2) (frC a) = frC a := List.take_of_length_le (by omega)
  ((refine AW.freeze (2) (by first | rfl | (simp only [setH, List.getElem?_cons_zero, List.getElem?_cons_succ, hfin, hal, Nat.le_refl]; done)) ?_); simp (disch := omega) only [fzT, fz, fzL, fzL_ints, fzL_mat, fzH, fzB, eq_self, bb, bt, zDs, zD, eqCells, simprocAttr, hfin, hal, Nat.le_refl])
  ((refine gga0 ?_))
  ((repeat refine AW_seq ?_); (refine wta ?_); simp (disch := omega) only [retQ, resD, oneD, bb, bt, zDs, zD, eqCells, simprocAttr, Tryz.results21])
  exact rsv_tidy _ _ (by simp only [tidyD, tidyL, tidy_fr, Bool.not_false, Bool.and_self])
end Go.Proofs.YtpcakodemleoiaaGreat.T

namespace Go.Proofs.YtpcakodemleoiaaGreat.T
open Go Go.RowKit Lin
end Go.Proofs.YtpcakodemleoiaaGreat.T

namespace Go.Proofs.YtpcakodemleoiaaGreat.T
open Go Go.RowKit Lin
theorem gga9_ALZ {C1 C2 C3 C4 C5 C6 C7 C8 C9 P Q : Prop} (c1 : C1) (c2 : C2) (c3 : C3) (c4 : C4) (c5 : C5) (c6 : C6) (c7 : C7) (c8 : C8) (c9 : C9) (q : Q) (h : C1 → C2 → C3 → C4 → C5 → C6 → C7 → C8 → C9 → Q → P := by
  intro cc1 cc2 cc3 cc4 cc5 cc6 cc7 cc8 cc9 hq
  (try with_reducible intro KR hKR)
  (repeat' (first | (with_reducible refine AW_seq ?_) | (with_reducible refine AW_region_k tab_ok fun KR hKR => ?_) | ((first | with_reducible refine AW_skip ?_ | with_reducible refine AW_exit ?_ | ((with_reducible refine awOps_nil ?_); refine hKR _ ?_; (try clear hKR KR))); (repeat (with_reducible first | refine q1 ?_ | refine q2 ?_ | refine q3 ?_ | refine q4 ?_ | refine q5 ?_ | refine q6 ?_ | (refine q7 ?_ ?_; (focus (with_unfolding_all rfl)))))) | ((first | ((with_reducible refine at_ops ?_); (first | refine awOps_n rfl fun KK hKK => ?_ | refine awOps_g rfl rfl fun KK hKK => ?_ | refine awOps_gc rfl fun KK hKK => ?_ | refine awOps_nc fun KK hKK => ?_)) | with_reducible refine AW_cond_k (tab := tab) fun KK hKK => ?_); simp (disch := omega) only [bb, bt, zDs, zD, eqCells, simprocAttr, bne_self_eq_false, Int.reduceBNe, Int.reduceBEq, Bool.bne_false, Bool.bne_true, Bool.false_bne, Bool.true_bne, goC, callO_fn, argsD, and_self]; (try ((first | (with_reducible refine ACall.of_pret (cc1) ?_ ?_; (focus (first | (simp only [um]; done) | rfl))) | (with_reducible refine ACall.of_pret (cc2) ?_ ?_; (focus (first | (simp only [um]; done) | rfl))) | (with_reducible refine ACall.of_pret (cc3) ?_ ?_; (focus (first | (simp only [um]; done) | rfl))) | (with_reducible refine ACall.of_pret (cc4) ?_ ?_; (focus (first | (simp only [um]; done) | rfl))) | (with_reducible refine ACall.of_pret (cc5) ?_ ?_; (focus (first | (simp only [um]; done) | rfl))) | (with_reducible refine ACall.of_pret (cc6) ?_ ?_; (focus (first | (simp only [um]; done) | rfl))) | (with_reducible refine ACall.of_pret (cc7) ?_ ?_; (focus (first | (simp only [um]; done) | rfl))) | (with_reducible refine ACall.of_pret (cc8) ?_ ?_; (focus (first | (simp only [um]; done) | rfl))) | (with_reducible refine ACall.of_pret (cc9) ?_ ?_; (focus (first | (simp only [um]; done) | rfl)))); simp only [afterC, St.put, putTM, ↓reduceIte, Nat.reduceEqDiff])); refine hKK _ ?_; clear hKK KK; (first | with_reducible refine at_ops ?_ | with_reducible refine i1 ?_ | with_reducible refine i0 ?_))))
  (first | exact hq | (revert hKR; revert KR; exact hq))) : P := h c1 c2 c3 c4 c5 c6 c7 c8 c9 q
theorem segP_len {s : Sy} {up : Bool} : (segP s up).1.length ≤ 1000 := by
  have h1 := @segsP_len s up
  unfold segP
  split
  · by_cases h : (segA (firstP s up).1 (firstP s up).2.1 []).2 = 0
    · rw [((segA_inv _ _).1 h).1]
      simpa using h1
    · rw [(segA_inv _ _).2 h]
      simp
  · simp
set_option maxHeartbeats 8000000 in
theorem law_forces14 (s : Sy) (up : Bool) : PRet Tryz.prog 4 [syD s, bool up] (bool true) := by
  refine PRet.intro 1 fun t => ACall.enter tab_ok Tryz.func4 rfl rfl Tryz.ntmps4 (by simp) ?_
  simp only [enterTM]
  have hS := small_ref s
  cases hs : smallS s
  · rw [hs] at hS
    ((refine gga2 awake14 hS ?_))
    ((repeat refine AW_seq ?_); (refine wta ?_); simp (disch := omega) only [retQ, resD, oneD, rsv, rs, rsL, rsL_eq_map, List.map_map, bb, bt, zDs, zD, eqCells, simprocAttr, Tryz.results4])
  rw [hs] at hS
  have hf := small_fits hs
  have a1 := raise14 s hf
  have a2 := lower14 s hf
  have a3 := segs14 s hf up
  have b1 := force_ref s hf true
  have b2 := force_ref s hf false
  have b3 := segs_ref s hf up
  have hl := @segP_len s up
  have hE := equalFr (segP s up).1 (segP s up).1 (by omega) (by omega)
  rw [beq_self_eq_true] at hE
  generalize forceP s true = A at *
  generalize forceP s false = B at *
  generalize segP s up = C at *
  ((refine gga9_ALZ awake14 hS a1 a2 a3 b1 b2 b3 hE ?_))
  ((repeat refine AW_seq ?_); (refine wta ?_); simp (disch := omega) only [retQ, resD, oneD, rsv, rs, rsL, rsL_eq_map, List.map_map, bb, bt, zDs, zD, eqCells, simprocAttr, Tryz.results4])
end Go.Proofs.YtpcakodemleoiaaGreat.T

section
namespace Go.Proofs.YtpcakodemleoiaaGreat.T
open Go Go.RowKit Go.ChangeShapes
theorem slice_one {P : Program} {w : World} {r : Reach} {base : Nat} {t e : TypeId} {v : Value} (ht : P.underlying t = some (.slice e)) (h : Value.okWide P w r base t v) : v.cells = #[v] := by
  simp only [Value.okWide, ht, Cell.okWide] at h
  cases v <;> simp_all [Value.cells, Cell.ok]
theorem ints_of : ∀ {rows : List (List D)}, (∀ r ∈ rows, (∃ n, r = [int n] ∧ (Lit.int .i64 n).wf = true) ∧ r.length = 1) → ∃ l : List Int, rows.flatten = l.map int ∧ ∀ x ∈ l, (Lit.int .i64 x).wf = true
  | [], _ => ⟨[], rfl, by simp⟩
  | r :: rows, h => by
    obtain ⟨⟨n, rfl, hw⟩, _⟩ := h r (by simp)
    obtain ⟨l, e, hl⟩ := ints_of fun x hx => h x (List.mem_cons_of_mem _ hx)
    exact ⟨n :: l, by simp [e], fun x hx => by
      rcases List.mem_cons.1 hx with rfl | hx
      · exact hw
      · exact hl x hx⟩
theorem rows_of : ∀ {rows : List (List D)}, (∀ r ∈ rows, (∃ l : List Int, r = [ints l] ∧ ∀ x ∈ l, (Lit.int .i64 x).wf = true) ∧ r.length = 1) → ∃ m : List (List Int), rows.flatten = m.map ints ∧ ∀ l ∈ m, ∀ x ∈ l, (Lit.int .i64 x).wf = true
  | [], _ => ⟨[], rfl, by simp⟩
  | r :: rows, h => by
    obtain ⟨⟨n, rfl, hw⟩, _⟩ := h r (by simp)
    obtain ⟨l, e, hl⟩ := rows_of fun x hx => h x (List.mem_cons_of_mem _ hx)
    exact ⟨n :: l, by simp [e], fun x hx => by
      rcases List.mem_cons.1 hx with rfl | hx
      · exact hw
      · exact hl x hx⟩
theorem u8_of {x : Int} (h : (Lit.int .u8 x).wf = true) : 0 ≤ x ∧ x < 256 := by
  rw [Lit.wf, Bool.and_eq_true] at h
  have h1 := of_decide_eq_true h.1
  have h2 := of_decide_eq_true h.2
  have e1 : IntKind.u8.min = 0 := rfl
  have e2 : IntKind.u8.max = 255 := rfl
  rw [e1] at h1
  rw [e2] at h2
  exact ⟨h1, by omega⟩
theorem cellsInt : Tryz.prog.cellsOf 3 = 1 := by kernel_rfl
theorem cellsInts : Tryz.prog.cellsOf 126 = 1 := by kernel_rfl
section
variable {H : Type} {enc : TypeId × Value → H} {W : World}
theorem opn_ints : Opn enc Tryz.prog W 126 fun ds => ∃ l : List Int, ds = [ints l] ∧ ∀ x ∈ l, (Lit.int .i64 x).wf = true :=
  (Opn.slice Tryz.underlying126 cellsInt (by decide) (Opn.int Tryz.underlying3)).mono fun ds ⟨rows, e, h, _⟩ => by
    obtain ⟨l, e2, hl⟩ := ints_of h
    exact ⟨l, by rw [e, e2], hl⟩
theorem opn_mat : Opn enc Tryz.prog W 123 fun ds => ∃ m : List (List Int), ds = [mat m] ∧ ∀ l ∈ m, ∀ x ∈ l, (Lit.int .i64 x).wf = true :=
  (Opn.slice Tryz.underlying123 cellsInts (by decide) opn_ints).mono fun ds ⟨rows, e, h, _⟩ => by
    obtain ⟨l, e2, hl⟩ := rows_of h
    exact ⟨l, by rw [e, e2], hl⟩
end
end Go.Proofs.YtpcakodemleoiaaGreat.T
end
section
namespace Go.Proofs.YtpcakodemleoiaaGreat.T
open Go Go.RowKit Go.ChangeShapes
theorem fracs_of : ∀ {rows : List (List D)}, (∀ r ∈ rows, (∃ a b, r = [int a, int b]) ∧ r.length = 2) → ∃ l : List (Int × Int), rows.flatten = frC l
  | [], _ => ⟨[], rfl⟩
  | r :: rows, h => by
    obtain ⟨⟨a, b, rfl⟩, _⟩ := h r (by simp)
    obtain ⟨l, e⟩ := fracs_of fun x hx => h x (List.mem_cons_of_mem _ hx)
    exact ⟨(a, b) :: l, by simp [e, frC]⟩
theorem cellsFrac : Tryz.prog.cellsOf 33 = 2 := by kernel_rfl
section
variable {H : Type} {enc : TypeId × Value → H} {W : World}
theorem opn_frac : Opn enc Tryz.prog W 33 fun ds => ∃ a b, ds = [int a, int b] :=
  (Opn.struct Tryz.underlying33 ⟨_, _, rfl, rfl, Opn.int Tryz.underlying3, _, _, rfl, by simp only [cellsInt], Opn.int Tryz.underlying3, rfl⟩ (by kernel_rfl)).mono fun ds h => by
    obtain ⟨d1, r1, rfl, ⟨a, rfl, _⟩, d2, r2, rfl, ⟨b, rfl, _⟩, rfl⟩ := h
    exact ⟨a, b, rfl⟩
theorem opn_fracs : Opn enc Tryz.prog W 28 fun ds => ∃ l : List (Int × Int), ds = [frs l] ∧ True :=
  (Opn.slice Tryz.underlying28 cellsFrac (by decide) opn_frac).mono fun ds ⟨rows, e, h, _⟩ => by
    obtain ⟨l, e2⟩ := fracs_of h
    exact ⟨l, by rw [e, e2], trivial⟩
end
end Go.Proofs.YtpcakodemleoiaaGreat.T
end
section
namespace Go.Proofs.YtpcakodemleoiaaGreat.T
open Go Go.RowKit Go.ChangeShapes
theorem flats_of {α : Type} {f : α → List D} {n : Nat} : ∀ {rows : List (List D)}, (∀ r ∈ rows, (∃ x, r = f x) ∧ r.length = n) → ∃ l : List α, rows.flatten = l.flatMap f
  | [], _ => ⟨[], rfl⟩
  | r :: rows, h => by
    obtain ⟨⟨x, rfl⟩, _⟩ := h r (by simp)
    obtain ⟨l, e⟩ := flats_of fun x hx => h x (List.mem_cons_of_mem _ hx)
    exact ⟨x :: l, by simp [e]⟩
theorem cellsHold : Tryz.prog.cellsOf 43 = 4 := by kernel_rfl
theorem cellsRope : Tryz.prog.cellsOf 39 = 3 := by kernel_rfl
theorem cellsBlock : Tryz.prog.cellsOf 45 = 2 := by kernel_rfl
theorem agg_of {P : Program} {w : World} {r : Reach} {base : Nat} {t : TypeId} {fs : Array Field} {v : Value} (ht : P.underlying t = some (.struct fs)) (h : Value.okWide P w r base t v) : ∃ cs, v = .agg cs := by
  simp only [Value.okWide, ht] at h
  obtain ⟨cs, e, _⟩ := h
  exact ⟨cs, e⟩
section
variable {H : Type} {enc : TypeId × Value → H} {W : World}
theorem opn_hold : Opn enc Tryz.prog W 43 fun ds => ∃ h : Hd, ds = hd1 h :=
  (Opn.struct Tryz.underlying43 ⟨_, _, rfl, (by kernel_rfl), Opn.str Tryz.underlying9, _, _, rfl, (by kernel_rfl), Opn.int Tryz.underlying3, _, _, rfl, (by kernel_rfl), opn_frac, rfl⟩ (by kernel_rfl)).mono fun ds h => by
    obtain ⟨d1, r1, rfl, ⟨s, rfl, _⟩, d2, r2, rfl, ⟨p, rfl, _⟩, d3, r3, rfl, ⟨a, b, rfl⟩, rfl⟩ := h
    exact ⟨⟨s, p, a, b⟩, rfl⟩
theorem opn_holds : Opn enc Tryz.prog W 37 fun ds => ∃ l : List Hd, ds = [hds l] :=
  (Opn.slice Tryz.underlying37 cellsHold (by decide) opn_hold).mono fun ds ⟨rows, e, h, _⟩ => by
    obtain ⟨l, e2⟩ := flats_of h
    exact ⟨l, by rw [e, e2]; rfl⟩
theorem opn_rope : Opn enc Tryz.prog W 39 fun ds => ∃ r : Rp, ds = rp1 r :=
  (Opn.struct Tryz.underlying39 ⟨_, _, rfl, (by kernel_rfl), Opn.str Tryz.underlying9, _, _, rfl, (by kernel_rfl), opn_holds, _, _, rfl, (by kernel_rfl), Opn.bool Tryz.underlying4, rfl⟩ (by kernel_rfl)).mono fun ds h => by
    obtain ⟨d1, r1, rfl, ⟨s, rfl, _⟩, d2, r2, rfl, ⟨l, rfl⟩, d3, r3, rfl, ⟨b, rfl⟩, rfl⟩ := h
    exact ⟨⟨s, l, b⟩, rfl⟩
theorem opn_ropes : Opn enc Tryz.prog W 23 fun ds => ∃ l : List Rp, ds = [rps l] :=
  (Opn.slice Tryz.underlying23 cellsRope (by decide) opn_rope).mono fun ds ⟨rows, e, h, _⟩ => by
    obtain ⟨l, e2⟩ := flats_of h
    exact ⟨l, by rw [e, e2]; rfl⟩
theorem opn_block : Opn enc Tryz.prog W 45 fun ds => ∃ b : Bk, ds = bk1 b :=
  (Opn.struct Tryz.underlying45 ⟨_, _, rfl, (by kernel_rfl), Opn.str Tryz.underlying9, _, _, rfl, (by kernel_rfl), Opn.int Tryz.underlying3, rfl⟩ (by kernel_rfl)).mono fun ds h => by
    obtain ⟨d1, r1, rfl, ⟨s, rfl, _⟩, d2, r2, rfl, ⟨p, rfl, _⟩, rfl⟩ := h
    exact ⟨⟨s, p⟩, rfl⟩
theorem opn_blocks : Opn enc Tryz.prog W 22 fun ds => ∃ l : List Bk, ds = [bks l] :=
  (Opn.slice Tryz.underlying22 cellsBlock (by decide) opn_block).mono fun ds ⟨rows, e, h, _⟩ => by
    obtain ⟨l, e2⟩ := flats_of h
    exact ⟨l, by rw [e, e2]; rfl⟩
theorem opn_sys : Opn enc Tryz.prog W 25 fun ds => ∃ s : Sy, ds = [bks s.bs, rps s.rs] :=
  (Opn.struct Tryz.underlying25 ⟨_, _, rfl, (by kernel_rfl), opn_blocks, _, _, rfl, (by kernel_rfl), opn_ropes, rfl⟩ (by kernel_rfl)).mono fun ds h => by
    obtain ⟨d1, r1, rfl, ⟨a, rfl⟩, d2, r2, rfl, ⟨b, rfl⟩, rfl⟩ := h
    exact ⟨⟨a, b⟩, rfl⟩
theorem arg_sys {v : Value} {base : Nat} {r : Reach} {d : DataW H} {p : List MemPlace} (h : DataW.Trod enc Tryz.prog W 0 (fun _ => true) true 25 v d p) (hv : Value.okWide Tryz.prog W r base 25 v) : ∃ s : Sy, Rep (memOf W) [] (syD s) v := by
  obtain ⟨cs, rfl⟩ : ∃ cs, v = .agg cs := by
    simp only [Value.okWide, Tryz.underlying25] at hv
    obtain ⟨cs, e, _⟩ := hv
    exact ⟨cs, e⟩
  obtain ⟨ds, hr, s, rfl⟩ := arg_agg opn_sys h
  exact ⟨s, hr⟩
theorem cellsSys : Tryz.prog.cellsOf 25 = 2 := by kernel_rfl
theorem arg_rope {v : Value} {base : Nat} {r : Reach} {d : DataW H} {p : List MemPlace} (h : DataW.Trod enc Tryz.prog W 0 (fun _ => true) true 39 v d p) (hv : Value.okWide Tryz.prog W r base 39 v) : ∃ s : Rp, Rep (memOf W) [] (.agg (rp1 s)) v := by
  obtain ⟨cs, rfl⟩ : ∃ cs, v = .agg cs := by
    simp only [Value.okWide, Tryz.underlying39] at hv
    obtain ⟨cs, e, _⟩ := hv
    exact ⟨cs, e⟩
  obtain ⟨ds, hr, s, rfl⟩ := arg_agg opn_rope h
  exact ⟨s, hr⟩
theorem arg_frac {v : Value} {base : Nat} {r : Reach} {d : DataW H} {p : List MemPlace} (h : DataW.Trod enc Tryz.prog W 0 (fun _ => true) true 33 v d p) (hv : Value.okWide Tryz.prog W r base 33 v) : ∃ s : Int × Int, Rep (memOf W) [] (frD s) v := by
  obtain ⟨cs, rfl⟩ : ∃ cs, v = .agg cs := by
    simp only [Value.okWide, Tryz.underlying33] at hv
    obtain ⟨cs, e, _⟩ := hv
    exact ⟨cs, e⟩
  obtain ⟨ds, hr, a, b, rfl⟩ := arg_agg opn_frac h
  exact ⟨(a, b), hr⟩
abbrev u16s (l : List Int) : D := .sl 1 (l.map fun n => .v (.int .u16 n)) false
theorem u16_of {x : Int} (h : (Lit.int .u16 x).wf = true) : 0 ≤ x ∧ x < 65536 := by
  rw [Lit.wf, Bool.and_eq_true] at h
  have h1 := of_decide_eq_true h.1
  have h2 := of_decide_eq_true h.2
  have e1 : IntKind.u16.min = 0 := rfl
  have e2 : IntKind.u16.max = 65535 := rfl
  rw [e1] at h1
  rw [e2] at h2
  exact ⟨h1, by omega⟩
theorem u16_rows : ∀ {rows : List (List D)}, (∀ r ∈ rows, (∃ n, r = [.v (.int .u16 n)] ∧ (Lit.int .u16 n).wf = true) ∧ r.length = 1) → ∃ l : List Int, rows.flatten = l.map (fun n => .v (.int .u16 n)) ∧ ∀ x ∈ l, (Lit.int .u16 x).wf = true
  | [], _ => ⟨[], rfl, by simp⟩
  | r :: rows, h => by
    obtain ⟨⟨n, rfl, hw⟩, _⟩ := h r (by simp)
    obtain ⟨l, e, hl⟩ := u16_rows fun x hx => h x (List.mem_cons_of_mem _ hx)
    exact ⟨n :: l, by simp [e], fun x hx => by
      rcases List.mem_cons.1 hx with rfl | hx
      · exact hw
      · exact hl x hx⟩
theorem u64_of {x : Int} (h : (Lit.int .u64 x).wf = true) : 0 ≤ x ∧ x ≤ 18446744073709551615 := by
  rw [Lit.wf, Bool.and_eq_true] at h
  have h1 := of_decide_eq_true h.1
  have h2 := of_decide_eq_true h.2
  have e1 : IntKind.u64.min = 0 := rfl
  have e2 : IntKind.u64.max = 18446744073709551615 := rfl
  rw [e1] at h1
  rw [e2] at h2
  exact ⟨h1, h2⟩
end
end Go.Proofs.YtpcakodemleoiaaGreat.T
end

/- The signs of the head's word (printed by mkmake.py): the kernel need not take a long string apart. -/
namespace Go.Proofs.YtpcakodemleoiaaGreat.T
open Go Go.RowKit Go.Joins
def wordSigns0 : List Char := [104,97,114,110,101,115,115,32,51,53,55,101,48,99,48,48,56,97,57,102,97,57,51,52,50,51,56,53,102,97,97,48,101,49,52,101,55,55,97,98,99,99,101,98,100,99,54,56,101,101,53,48,49,100,97,49,54,50,51,101,50,50,98,54].map Char.ofNat
def wordSigns1 : List Char := [55,54,48,100,102,100,99,97,32,99,117,116,32,97,116,32,108,111,102,116,98,108,111,99,107,47,108,111,102,116,98,108,111,99,107,108,97,119,49,52,46,76,111,115,115,101,115,67,97,114,114,121,32,108,111,102,116,98,108,111,99,107,47,108].map Char.ofNat
def wordSigns2 : List Char := [111,102,116,98,108,111,99,107,108,97,119,49,52,46,76,111,115,115,101,115,70,111,114,99,101,115,32,108,111,102,116,98,108,111,99,107,47,108,111,102,116,98,108,111,99,107,108,97,119,49,52,46,76,111,115,115,101,115,79,114,100,101,114,32].map Char.ofNat
def wordSigns3 : List Char := [108,111,102,116,98,108,111,99,107,47,108,111,102,116,98,108,111,99,107,108,97,119,49,52,46,76,111,115,115,101,115,72,111,108,100,115,32,108,111,102,116,98,108,111,99,107,47,108,111,102,116,98,108,111,99,107,108,97,119,49,52,46,76,111].map Char.ofNat
def wordSigns4 : List Char := [115,115,101,115,69,120,97,99,116,32,108,111,102,116,98,108,111,99,107,47,108,111,102,116,98,108,111,99,107,108,97,119,49,52,46,76,111,115,115,101,115,78,111,110,101].map Char.ofNat
def wordSigns : List Char := wordSigns0 ++ wordSigns1 ++ wordSigns2 ++ wordSigns3 ++ wordSigns4
theorem word_is : Tryz.prog.initOrder.toList = wordSigns := by
  have h : Tryz.prog.initOrder = String.ofList wordSigns := by kernel_rfl
  rw [h, String.toList_ofList]
theorem word_cut : behindMainWord (wordsSigns wordSigns) = "cut".toList :: (behindMainWord (wordsSigns wordSigns)).tail := by kernel_rfl
theorem make_of (P : Program) (l : List Char) (h : P.initOrder.toList = l) (r : List (List Char)) (hr : behindMainWord (wordsSigns l) = "cut".toList :: r) : P.make = some .cut := by
  unfold Program.make
  rw [h, hr]
  rfl
theorem enter_of (P : Program) (l : List Char) (h : P.initOrder.toList = l) (r : List (List Char)) (hr : behindMainWord (wordsSigns l) = "cut".toList :: r) (h1 : P.laysLater = false) (h2 : P.bearsReflect = false) (h3 : P.doorFits [] = true) (hs : stripLifts liftWords ("cut".toList :: r) = ([], "cut".toList :: r)) : P.mayEnter = true := by
  unfold Program.mayEnter
  rw [h, hr]
  simp only [hs, h1, h2, h3]
  rfl
theorem word_make : Tryz.prog.make = some .cut := make_of _ wordSigns word_is _ word_cut
theorem word_enter : Tryz.prog.mayEnter = true := enter_of _ wordSigns word_is _ word_cut (by kernel_rfl) (by kernel_rfl) (by kernel_rfl) (by kernel_rfl)
theorem word_lifts : Tryz.prog.liftsFinal = false := by
  unfold Program.liftsFinal Program.headLifts
  rw [word_is]
  kernel_rfl
theorem word_enterP : Tryz.pinned.checked.prog.mayEnter = true := word_enter
theorem word_liftsP : Tryz.pinned.checked.prog.liftsFinal = false := word_lifts
theorem word_makeP : Tryz.pinned.checked.prog.make = some .cut := word_make
end Go.Proofs.YtpcakodemleoiaaGreat.T

