import Derived.Test.YtifmgjieplmbnaaTB
import Derived.Test.YtifmgjieplmbnaaWRJ
import Derived.Test.YtifmgjieplmbnaaWRS
import Derived.Test.YtifmgjieplmbnaaWH
import Derived.Test.YtifmgjieplmbnaaWN
set_option linter.all false
section
namespace Go.Proofs.Ytifmgjieplmbnaa.T
open Go Go.RowKit Lin
set_option linter.unusedSimpArgs false

/-! Lists of fractions. -/
theorem indexFuncFr (l : List (Int × Int)) (g : FuncId) (caps : List D) (p : Int × Int → Bool) (hl : l.length ≤ 1000000) (hp : ∀ x ∈ l, PRet Try.prog g ((frD x :: caps).map ufa) (bool (p x))) : PRet Try.prog 120 [frs l, .fn g caps] (int (idx p l 0)) := by
  refine PRet.intro 1 fun t => ACall.enter tab_ok Try.func120 rfl rfl Try.ntmps120 (by simp) ?_
  simp only [enterTM]
  have hla := frC_len l
  have ha2 : (frC l).length / 2 = l.length := by omega
  ((refine ggb0 ha2 ?_))
  ((repeat refine AW_seq ?_))
  refine AW_block ?_
  refine AW_loop_w (fun k : Nat => ⟨[(0, frs l), (1, .fn g caps), (7, int l.length), (8, int k)], [], t⟩) (fun k => l.length - k) (fun k => k ≤ l.length ∧ idx p l 0 = idx p (l.drop k) k) 0 ⟨Nat.zero_le _, rfl⟩ (by (simp (disch := omega) only [StLe, tmLe, hpLe_refl, hpLe, bl, bb, bt, zDs, zD, eqCells, simprocAttr])) fun k ⟨hk, hi⟩ => ?_
  by_cases hlt : k < l.length
  · obtain ⟨x, hx⟩ : ∃ x, l[k]? = some x := ⟨_, List.getElem?_eq_getElem hlt⟩
    have hm := List.mem_of_getElem? hx
    have hd : l.drop k = x :: l.drop (k + 1) := by
      obtain ⟨h1, h2⟩ := List.getElem?_eq_some_iff.1 hx
      rw [List.drop_eq_getElem_cons h1, h2]
    rw [hd] at hi
    have hra := frC_read l k x hx
    have hc := hp x hm
    ((refine ggb0 (F := _∧_) ⟨@Int.ofNat_lt, hlt⟩ ?_))
    ((repeat refine AW_seq ?_))
    refine AW_block ?_
    cases hpx : p x
    · rw [hpx] at hc
      ((refine ggb0 (F := _∧_∧_) ⟨ha2, hlt, hra⟩ ?_))
      ((refine wka1 hc ?_))
      ((refine gga0 ?_))
      refine ⟨k + 1, ⟨hlt, by rw [hi]; simp [idx, hpx]⟩, by omega, ?_⟩
      (simp (disch := omega) only [StLe, tmLe, hpLe_refl, hpLe, bl, bb, bt, zDs, zD, eqCells, simprocAttr])
    · rw [hpx] at hc
      ((refine ggb0 (F := _∧_∧_) ⟨ha2, hlt, hra⟩ ?_))
      ((refine wka1 hc ?_))
      ((refine gga0 ?_))
      ((repeat refine AW_seq ?_); (refine wta ?_); simp (disch := omega) only [retQ, resD, oneD, rsv, rs, rsL, rsL_eq_map, List.map_map, bb, bt, zDs, zD, eqCells, simprocAttr, Try.results120, hi, idx, hpx])
  · ((refine ggb0 (F := _∧_) ⟨@Int.ofNat_lt, hlt⟩ ?_))
    ((repeat refine AW_seq ?_); (refine wta ?_); simp (disch := omega) only [retQ, resD, oneD, rsv, rs, rsL, rsL_eq_map, List.map_map, bb, bt, zDs, zD, eqCells, simprocAttr, Try.results120, hi])
    rw [List.drop_eq_nil_of_le (by omega)]; rfl
theorem containsFuncFr (l : List (Int × Int)) (g : FuncId) (caps : List D) (p : Int × Int → Bool) (hl : l.length ≤ 1000000) (hp : ∀ x ∈ l, PRet Try.prog g ((frD x :: caps).map ufa) (bool (p x))) : PRet Try.prog 54 [frs l, .fn g caps] (bool (l.any p)) := by
  refine PRet.intro 1 fun t => ACall.enter tab_ok Try.func54 rfl rfl Try.ntmps54 (by simp) ?_
  simp only [enterTM]
  ((refine gga1 (indexFuncFr l g caps p hl hp) ?_))
  ((repeat refine AW_seq ?_); (refine wta ?_); simp (disch := omega) only [retQ, resD, oneD, rsv, rs, rsL, rsL_eq_map, List.map_map, bb, bt, zDs, zD, eqCells, simprocAttr, Try.results54])
  rw [← idx_any p l 0]
def allV (l : List (Int × Int)) : Bool := l.all fun x => vfrac x.1 x.2
theorem product1 (x : Int × Int) : PRet Try.prog 181 [frD x] (bool (!vfrac x.1 x.2)) := by
  refine PRet.intro 1 fun t => ACall.enter tab_ok Try.func181 rfl rfl Try.ntmps181 (by simp) ?_
  simp only [enterTM]
  have hc := rValid x.1 x.2
  ((refine gga1 hc ?_))
  ((repeat refine AW_seq ?_); (refine wta ?_); simp (disch := omega) only [retQ, resD, oneD, rsv, rs, rsL, rsL_eq_map, List.map_map, bb, bt, zDs, zD, eqCells, simprocAttr, Try.results181])
theorem refAll (l : List (Int × Int)) (hl : l.length ≤ 1000000) : PRet Try.prog 77 [frs l] (bool (allV l)) := by
  refine PRet.intro 1 fun t => ACall.enter tab_ok Try.func77 rfl rfl Try.ntmps77 (by simp) ?_
  simp only [enterTM]
  have hla := frC_len l
  have ha2 : (frC l).length / 2 = l.length := by omega
  ((refine gga0 ?_))
  ((repeat refine AW_seq ?_))
  refine AW_mid (fun x : Nat => ⟨[], [], x⟩) (fun _ => allV l = true) ?_ ?_
  · refine AW_block ?_
    refine AW_loop_w (fun x : Nat × Nat => ⟨[(0, frs l), (3, int x.1)], [], x.2⟩) (fun x => l.length - x.1) (fun x => x.1 ≤ l.length ∧ allV l = allV (l.drop x.1)) (0, t) ⟨Nat.zero_le _, rfl⟩ (by (simp (disch := omega) only [StLe, tmLe, hpLe_refl, hpLe, bl, bb, bt, zDs, zD, eqCells, simprocAttr])) ?_
    rintro ⟨k, tt⟩ ⟨hk, hi⟩
    simp only at hk hi
    by_cases hlt : k < l.length
    · obtain ⟨x, hx⟩ : ∃ x, l[k]? = some x := ⟨_, List.getElem?_eq_getElem hlt⟩
      have hd : l.drop k = x :: l.drop (k + 1) := by
        obtain ⟨h1, h2⟩ := List.getElem?_eq_some_iff.1 hx
        rw [List.drop_eq_getElem_cons h1, h2]
      have hstep : allV (x :: l.drop (k + 1)) = (vfrac x.1 x.2 && allV (l.drop (k + 1))) := rfl
      rw [hd, hstep] at hi
      have hra := frC_read l k x hx
      have hc := refFValid x.1 x.2
      ((refine ggb0 (F := _∧_∧_) ⟨ha2, @Int.ofNat_lt, hlt⟩ ?_))
      ((repeat refine AW_seq ?_))
      refine AW_block ?_
      cases hpx : vfrac x.1 x.2
      · rw [hpx] at hc hi
        ((refine ggb1 (F := _∧_∧_) ⟨ha2, hlt, hra⟩ hc ?_))
        ((repeat refine AW_seq ?_); (refine wta ?_); simp (disch := omega) only [retQ, resD, oneD, rsv, rs, rsL, rsL_eq_map, List.map_map, bb, bt, zDs, zD, eqCells, simprocAttr, Try.results77])
        rw [hi]; rfl
      · rw [hpx] at hc hi
        ((refine ggb1 (F := _∧_∧_) ⟨ha2, hlt, hra⟩ hc ?_))
        refine ⟨(k + 1, tt), ⟨hlt, by rw [hi, Bool.true_and]⟩, by show l.length - (k + 1) < l.length - k; omega, ?_⟩
        (simp (disch := omega) only [StLe, tmLe, hpLe_refl, hpLe, bl, bb, bt, zDs, zD, eqCells, simprocAttr])
    · ((refine ggb0 (F := _∧_∧_) ⟨ha2, @Int.ofNat_lt, hlt⟩ ?_))
      refine ⟨tt, ?_, by (simp (disch := omega) only [StLe, tmLe, hpLe_refl, hpLe, bl, bb, bt, zDs, zD, eqCells, simprocAttr])⟩
      rw [hi, List.drop_eq_nil_of_le (by omega)]; rfl
  · rintro t2 he
    ((refine gga0 ?_))
    ((repeat refine AW_seq ?_); (refine wta ?_); simp (disch := omega) only [retQ, resD, oneD, rsv, rs, rsL, rsL_eq_map, List.map_map, bb, bt, zDs, zD, eqCells, simprocAttr, Try.results77])
    rw [he]

/-! Sums of products. -/
def dotF : List Int → List (Int × Int) → Int × Int → (Int × Int) × Int
  | n :: r, f :: x, s => if (mulP (n, 1) f).2 = 0 then (if (addP s (mulP (n, 1) f).1).2 = 0 then dotF r x (addP s (mulP (n, 1) f).1).1 else ((0, 0), (addP s (mulP (n, 1) f).1).2)) else ((0, 0), (mulP (n, 1) f).2)
  | _, _, s => (s, 0)
def prodA (x : List (Int × Int)) (acc : List (Int × Int)) : List (List Int) → List (Int × Int) × Int
  | [] => (acc, 0)
  | r :: m => if (dotF r x (0, 1)).2 = 0 then prodA x (acc ++ [(dotF r x (0, 1)).1]) m else ([], (dotF r x (0, 1)).2)
def prodP (m : List (List Int)) (x : List (Int × Int)) : List (Int × Int) × Int := if validP m = true ∧ allV x = true then (if x.length = wid m then prodA x [] m else ([], 3)) else ([], 1)
theorem madeP_valid {a d : Nat} {s : Bool} (hd : 0 < d) (h : (madeP a s d).2 = 0) : vfrac (madeP a s d).1.1 (madeP a s d).1.2 = true := by
  have hg : 0 < Nat.gcd a d := Nat.gcd_pos_of_pos_right _ hd
  have hc := Nat.coprime_div_gcd_div_gcd hg
  have hp : 0 < d / Nat.gcd a d := Nat.div_pos (Nat.le_of_dvd hd (Nat.gcd_dvd_right _ _)) hg
  have e : madeP a s d = signP s (a / Nat.gcd a d) (d / Nat.gcd a d) := by unfold madeP; rw [if_neg (by omega)]
  rw [e] at h ⊢
  generalize a / Nat.gcd a d = n at *
  generalize d / Nat.gcd a d = k at *
  unfold signP at h ⊢
  split at h
  · simp at h
  · rename_i hs
    rw [if_neg hs]
    have hc' : Nat.gcd n k = 1 := hc
    unfold vfrac
    cases s
    · simp [hc']; omega
    · simp [hc']; omega
theorem mulR_valid {a b : Int × Int} (ha : vfrac a.1 a.2 = true) (hb : vfrac b.1 b.2 = true) (h : (mulR a b).2 = 0) : vfrac (mulR a b).1.1 (mulR a b).1.2 = true := by
  obtain ⟨a1, _⟩ := fr_bounds ha
  obtain ⟨b1, _⟩ := fr_bounds hb
  exact madeP_valid (Nat.mul_pos (by omega) (by omega)) h
theorem addR_valid {a b : Int × Int} (ha : vfrac a.1 a.2 = true) (hb : vfrac b.1 b.2 = true) (h : (addR a b).2 = 0) : vfrac (addR a b).1.1 (addR a b).1.2 = true := by
  obtain ⟨a1, _⟩ := fr_bounds ha
  obtain ⟨b1, _⟩ := fr_bounds hb
  have hp : 0 < a.2.natAbs * b.2.natAbs := Nat.mul_pos (by omega) (by omega)
  unfold addR at h ⊢
  split at h
  · rename_i h1; rw [if_pos h1]; exact madeP_valid hp h
  · rename_i h1
    rw [if_neg h1]
    split at h
    · rename_i h2; rw [if_pos h2]; exact madeP_valid hp h
    · rename_i h2; rw [if_neg h2]; exact madeP_valid hp h
theorem mulP_ok {a b : Int × Int} (ha : vfrac a.1 a.2 = true) (hb : vfrac b.1 b.2 = true) : mulP a b = mulR a b := by unfold mulP; rw [if_pos ⟨ha, hb⟩]
theorem addP_ok {a b : Int × Int} (ha : vfrac a.1 a.2 = true) (hb : vfrac b.1 b.2 = true) : addP a b = addR a b := by unfold addP; rw [if_pos ⟨ha, hb⟩]
theorem vfrac_one {n : Int} (h : -1152921504606846976 ≤ n ∧ n ≤ 1152921504606846976) : vfrac n 1 = true := by
  unfold vfrac; simp; omega
end Go.Proofs.Ytifmgjieplmbnaa.T
end

section
namespace Go.Proofs.Ytifmgjieplmbnaa.T
open Go Go.RowKit Lin
set_option linter.unusedSimpArgs false

theorem dotF_step {r : List Int} {x : List (Int × Int)} {k : Nat} {n : Int} {f : Int × Int} (hr : r[k]? = some n) (hx : x[k]? = some f) (s : Int × Int) : dotF (r.drop k) (x.drop k) s = if (mulP (n, 1) f).2 = 0 then (if (addP s (mulP (n, 1) f).1).2 = 0 then dotF (r.drop (k + 1)) (x.drop (k + 1)) (addP s (mulP (n, 1) f).1).1 else ((0, 0), (addP s (mulP (n, 1) f).1).2)) else ((0, 0), (mulP (n, 1) f).2) := by
  have h1 : r.drop k = n :: r.drop (k + 1) := by
    obtain ⟨a, b⟩ := List.getElem?_eq_some_iff.1 hr
    rw [List.drop_eq_getElem_cons a, b]
  have h2 : x.drop k = f :: x.drop (k + 1) := by
    obtain ⟨a, b⟩ := List.getElem?_eq_some_iff.1 hx
    rw [List.drop_eq_getElem_cons a, b]
  rw [h1, h2]; rfl
theorem frC_app (l : List (Int × Int)) (p : Int × Int) : frC (l ++ [p]) = frC l ++ [int p.1, int p.2] := by simp [frC]
set_option maxHeartbeats 2000000 in
theorem rProduct (m : List (List Int)) (x : List (Int × Int)) (hm : m.length ≤ 1000000) (hl : ∀ r ∈ m, r.length ≤ 1000000) (hx : x.length ≤ 1000000) : PRet Try.prog 138 [mat m, frs x] (fse (prodP m x)) := by
  refine PRet.intro 3 fun t => ACall.enter tab_ok Try.func138 rfl rfl Try.ntmps138 (by simp) ?_
  simp only [enterTM]
  have hV := valid m hm hl
  have hcf := containsFuncFr x 181 [] (fun f => !vfrac f.1 f.2) hx (fun f _ => product1 f)
  have hany : (x.any fun f => !vfrac f.1 f.2) = !allV x := by
    unfold allV
    rw [List.all_eq_not_any_not, Bool.not_not]
  rw [hany] at hcf
  have f0 : frC [] = [] := rfl
  unfold prodP
  ((refine gga0 ?_))
  ((repeat refine AW_seq ?_))
  cases hv : validP m
  · rw [hv] at hV
    refine AW_block ?_
    ((refine gga1 hV ?_))
    ((repeat refine AW_seq ?_); (refine wta ?_); simp (disch := omega) only [retQ, resD, oneD, rsv, rs, rsL, rsL_eq_map, List.map_map, bb, bt, zDs, zD, eqCells, simprocAttr, Try.results138])
    simp [f0]
  rw [hv] at hV
  cases ha : allV x
  · rw [ha] at hcf
    refine AW_block ?_
    ((refine gga2 hV hcf ?_))
    ((repeat refine AW_seq ?_); (refine wta ?_); simp (disch := omega) only [retQ, resD, oneD, rsv, rs, rsL, rsL_eq_map, List.map_map, bb, bt, zDs, zD, eqCells, simprocAttr, Try.results138])
    simp [f0]
  rw [ha] at hcf
  obtain ⟨h1, h2, h3⟩ := validP_iff.1 hv
  obtain ⟨r0, m', hm0⟩ : ∃ r0 m', m = r0 :: m' := by
    cases m with
    | nil => simp at h1
    | cons a b => exact ⟨a, b, rfl⟩
  have hwd : wid m = r0.length := by rw [hm0]; rfl
  have hat0 : m[0]? = some r0 := by rw [hm0]; rfl
  have hpos : 0 < m.length := by omega
  have hla := frC_len x
  have ha2 : (frC x).length / 2 = x.length := by omega
  rw [if_pos ⟨rfl, rfl⟩]
  by_cases hw : x.length = wid m
  rotate_left 1
  · have e1 : ((x.length : Int) != (wid m : Int)) = true := by simpa using fun h => hw (by omega)
    rw [if_neg hw]
    refine AW_block ?_
    ((refine ggb2 (F := _∧_∧_∧_∧_) ⟨ha2, hat0, hpos, (hwd).symm, e1⟩ hV hcf ?_))
    ((repeat refine AW_seq ?_); (refine wta ?_); simp (disch := omega) only [retQ, resD, oneD, rsv, rs, rsL, rsL_eq_map, List.map_map, bb, bt, zDs, zD, eqCells, simprocAttr, Try.results138])
    rfl
  have e1 : ((x.length : Int) != (wid m : Int)) = false := by simp [hw]
  rw [if_pos hw]
  refine AW_mid (fun t : Nat => ⟨[(0, mat m), (1, frs x)], [], t⟩) (fun _ => True) ?_ ?_
  · refine AW_block ?_
    ((refine ggb2 (F := _∧_∧_∧_∧_) ⟨ha2, hat0, hpos, (hwd).symm, e1⟩ hV hcf ?_))
    exact ⟨t, trivial, by (simp (disch := omega) only [StLe, tmLe, hpLe_refl, hpLe, bl, bb, bt, zDs, zD, eqCells, simprocAttr])⟩
  rintro t -
  clear hV hcf hany
  ((refine wqa ?_))
  refine AW.begin 6 2 42 rfl (by omega) ?_
  (simp (disch := omega) only [bb, bt, zDs, zD, eqCells, simprocAttr])
  ((refine gga0 ?_))
  ((repeat refine AW_seq ?_))
  refine AW_mid (fun a : Nat × Nat × List (Int × Int) => ⟨[(6, .own 2 0 a.1 0 a.2.2.length)], [some ⟨42, a.1, frC a.2.2⟩], a.2.1⟩) (fun a => a.2.2.length ≤ 1000000 ∧ prodA x [] m = (a.2.2, 0)) ?_ ?_
  · refine AW_block ?_
    refine AW_loop_w (fun a : Nat × Nat × Nat × List (Int × Int) => ⟨[(1, frs x), (6, .own 2 0 a.2.1 0 a.1), (30, mat m), (31, int m.length), (32, int a.1)], [some ⟨42, a.2.1, frC a.2.2.2⟩], a.2.2.1⟩) (fun a => m.length - a.1) (fun a => a.1 ≤ m.length ∧ a.2.2.2.length = a.1 ∧ prodA x [] m = prodA x a.2.2.2 (m.drop a.1)) (0, t + 1, t + 1, []) ⟨Nat.zero_le _, rfl, rfl⟩ (by (simp (disch := omega) only [StLe, tmLe, hpLe_refl, hpLe, bl, bb, bt, zDs, zD, eqCells, simprocAttr, f0])) ?_
    rintro ⟨i, g, tt, acc⟩ ⟨hi, hal, hpa⟩
    simp only at hi hal hpa
    by_cases hlt : i < m.length
    · obtain ⟨r, hr⟩ : ∃ r, m[i]? = some r := ⟨_, List.getElem?_eq_getElem hlt⟩
      have hrl := h3 r (List.mem_of_getElem? hr)
      have hdr : m.drop i = r :: m.drop (i + 1) := by
        obtain ⟨a1, a2⟩ := List.getElem?_eq_some_iff.1 hr
        rw [List.drop_eq_getElem_cons a1, a2]
      rw [hdr] at hpa
      simp only [prodA] at hpa
      ((refine ggb0 (F := _∧_) ⟨@Int.ofNat_lt, hlt⟩ ?_))
      ((repeat refine AW_seq ?_))
      refine AW_block ?_
      ((refine ggb0 (F := _∧_) ⟨hlt, hr⟩ ?_))
      ((repeat refine AW_seq ?_))
      refine AW_mid (fun a : Nat × (Int × Int) => ⟨[(1, frs x), (6, .own 2 0 g 0 i), (9, .ptr 1 (tt + 1) 0), (30, mat m), (31, int m.length), (32, int i)], [some ⟨42, g, frC acc⟩, some ⟨42, tt + 1, [int a.2.1, int a.2.2]⟩], a.1⟩) (fun a => dotF r x (0, 1) = (a.2, 0)) ?_ ?_
      · refine AW_block ?_
        refine AW_loop_w (fun a : Nat × Nat × (Int × Int) => ⟨[(1, frs x), (6, .own 2 0 g 0 i), (9, .ptr 1 (tt + 1) 0), (30, mat m), (31, int m.length), (32, int i), (37, ints r), (38, int r.length), (39, int a.1)], [some ⟨42, g, frC acc⟩, some ⟨42, tt + 1, [int a.2.2.1, int a.2.2.2]⟩], a.2.1⟩) (fun a => r.length - a.1) (fun a => a.1 ≤ r.length ∧ dotF r x (0, 1) = dotF (r.drop a.1) (x.drop a.1) a.2.2) (0, tt + 1, (0, 1)) ⟨Nat.zero_le _, rfl⟩ (by (simp (disch := omega) only [StLe, tmLe, hpLe_refl, hpLe, bl, bb, bt, zDs, zD, eqCells, simprocAttr])) ?_
        rintro ⟨k, t3, s⟩ ⟨hk, hd⟩
        simp only at hk hd
        by_cases hkl : k < r.length
        · have hkx : k < x.length := by omega
          obtain ⟨n, hn⟩ : ∃ y, r[k]? = some y := ⟨_, List.getElem?_eq_getElem hkl⟩
          obtain ⟨f, hf⟩ : ∃ y, x[k]? = some y := ⟨_, List.getElem?_eq_getElem hkx⟩
          rw [dotF_step hn hf] at hd
          have hra := frC_read x k f hf
          have cm := rMul (n, 1) f
          ((refine ggb0 (F := _∧_) ⟨@Int.ofNat_lt, hkl⟩ ?_))
          ((repeat refine AW_seq ?_))
          refine AW_block ?_
          by_cases z1 : (mulP (n, 1) f).2 = 0
          rotate_left 1
          · rw [if_neg z1] at hd
            have z1' : ((mulP (n, 1) f).2 != 0) = true := by simpa using z1
            have hp2 : prodA x [] m = ([], (mulP (n, 1) f).2) := by rw [hpa, hd, if_neg z1]
            rw [hp2]
            generalize mulP (n, 1) f = q at *
            ((refine ggb1 (F := _∧_∧_∧_∧_∧_) ⟨hkl, hn, ha2, hkx, hra, z1'⟩ cm ?_))
            ((repeat refine AW_seq ?_); (refine wta ?_); simp (disch := omega) only [retQ, resD, oneD, rsv, rs, rsL, rsL_eq_map, List.map_map, bb, bt, zDs, zD, eqCells, simprocAttr, Try.results138])
            rfl
          rw [if_pos z1] at hd
          have z1' : ((mulP (n, 1) f).2 != 0) = false := by simpa using z1
          generalize mulP (n, 1) f = q at *
          have ca := rAdd s q.1
          by_cases z2 : (addP s q.1).2 = 0
          rotate_left 1
          · rw [if_neg z2] at hd
            have z2' : ((addP s q.1).2 != 0) = true := by simpa using z2
            have hp2 : prodA x [] m = ([], (addP s q.1).2) := by rw [hpa, hd, if_neg z2]
            rw [hp2]
            generalize addP s q.1 = w at *
            ((refine ggb2 (F := _∧_∧_∧_∧_∧_∧_) ⟨hkl, hn, ha2, hkx, hra, z1', z2'⟩ cm ca ?_))
            ((repeat refine AW_seq ?_); (refine wta ?_); simp (disch := omega) only [retQ, resD, oneD, rsv, rs, rsL, rsL_eq_map, List.map_map, bb, bt, zDs, zD, eqCells, simprocAttr, Try.results138])
            rfl
          rw [if_pos z2] at hd
          have z2' : ((addP s q.1).2 != 0) = false := by simpa using z2
          generalize addP s q.1 = w at *
          ((refine ggb2 (F := _∧_∧_∧_∧_∧_∧_) ⟨hkl, hn, ha2, hkx, hra, z1', z2'⟩ cm ca ?_))
          refine ⟨(k + 1, t3 + 1, w.1), ⟨hkl, hd⟩, by show r.length - (k + 1) < r.length - k; omega, ?_⟩
          (simp (disch := omega) only [StLe, tmLe, hpLe_refl, hpLe, bl, bb, bt, zDs, zD, eqCells, simprocAttr])
        · have hke : k = r.length := by omega
          subst hke
          rw [List.drop_eq_nil_of_le (Nat.le_refl _)] at hd
          ((refine ggb0 @Int.lt_irrefl ?_))
          exact ⟨(t3, s), hd, by (simp (disch := omega) only [StLe, tmLe, hpLe_refl, hpLe, bl, bb, bt, zDs, zD, eqCells, simprocAttr])⟩
      · rintro ⟨t3, s⟩ hd
        simp only at hd
        rw [hd] at hpa
        simp only [if_true] at hpa
        have hfl2 := frC_len acc
        rw [hal] at hfl2
        have hap := frC_app acc s
        ((refine ggb0 hfl2 ?_))
        refine ⟨(i + 1, t3 + 1, t3 + 1, acc ++ [s]), ⟨hlt, by simp [hal], hpa⟩, by show m.length - (i + 1) < m.length - i; omega, ?_⟩
        simp only [hap]
        (simp (disch := omega) only [StLe, tmLe, hpLe_refl, hpLe, bl, bb, bt, zDs, zD, eqCells, simprocAttr])
    · have hie : i = m.length := by omega
      subst hie
      rw [List.drop_eq_nil_of_le (Nat.le_refl _)] at hpa
      ((refine ggb0 @Int.lt_irrefl ?_))
      refine ⟨(g, tt, acc), ⟨by show acc.length ≤ _; omega, hpa⟩, ?_⟩
      simp only [hal]
      (simp (disch := omega) only [StLe, tmLe, hpLe_refl, hpLe, bl, bb, bt, zDs, zD, eqCells, simprocAttr])
  · rintro ⟨g, tt, acc⟩ ⟨hal, hpa⟩
    simp only at hal hpa
    rw [hpa]
    have hfl2 := frC_len acc
    ((refine gga0 ?_))
    ((repeat refine AW_seq ?_); (refine wta ?_); simp (disch := omega) only [retQ, resD, oneD, bb, bt, zDs, zD, eqCells, simprocAttr, Try.results138])
    show rs (rsv _ 2) _ _ = _
    simp only [rs, rsL, List.getElem?_cons_zero, List.drop_zero, Nat.zero_add, hfl2, Nat.le_refl, and_self, if_true]
    rw [List.take_of_length_le (by omega)]
    have hmap : ∀ (H : Hp) (l : List (Int × Int)), (frC l).map (rsv H 2) = frC l := fun H l => by
      induction l with
      | nil => rfl
      | cons p l ih =>
        simp only [frC, List.flatMap_cons, List.map_append] at ih ⊢
        rw [ih]; rfl
    rw [hmap]
end Go.Proofs.Ytifmgjieplmbnaa.T
end
