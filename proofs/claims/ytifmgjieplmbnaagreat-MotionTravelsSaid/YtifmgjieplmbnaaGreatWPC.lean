import Derived.Test.YtifmgjieplmbnaaGreatTB
import Derived.Test.YtifmgjieplmbnaaGreatWPJ
set_option linter.all false
namespace Go.Proofs.YtifmgjieplmbnaaGreat.T
open Go Go.RowKit Lin
set_option linter.unusedSimpArgs false

theorem allV_get {x : List (Int × Int)} (h : allV x = true) {k : Nat} {f : Int × Int} (hf : x[k]? = some f) : vfrac f.1 f.2 = true := by
  unfold allV at h
  exact List.all_eq_true.1 h f (List.mem_of_getElem? hf)
set_option maxHeartbeats 2000000 in
theorem refProduct (m : List (List Int)) (x : List (Int × Int)) (hv : validP m = true) (ha : allV x = true) (hxl : x.length ≤ 1000000) : PRet Tryz.prog 81 [mat m, frs x] (fse (prodP m x)) := by
  refine PRet.intro 3 fun t => ACall.enter tab_ok Tryz.func81 rfl rfl Tryz.ntmps81 (by simp) ?_
  simp only [enterTM]
  have f0 : frC [] = [] := rfl
  unfold prodP
  obtain ⟨h1, h2, h3⟩ := validP_iff.1 hv
  obtain ⟨r0, m', hm0⟩ : ∃ r0 m', m = r0 :: m' := by
    cases m with
    | nil => simp at h1
    | cons a b => exact ⟨a, b, rfl⟩
  have hwd : wid m = r0.length := by rw [hm0]; rfl
  have hat0 : m[0]? = some r0 := by rw [hm0]; rfl
  have hpos : 0 < m.length := by omega
  have hla := frC_len x
  have ha2 : (frC x).length / 2 = x.length := by omega
  rw [if_pos ⟨hv, ha⟩]
  by_cases hw : x.length = wid m
  rotate_left 1
  · have e1 : ((x.length : Int) != (wid m : Int)) = true := by simpa using fun h => hw (by omega)
    rw [if_neg hw]
    ((refine ggb0 (F := _∧_∧_∧_∧_) ⟨ha2, hat0, hpos, (hwd).symm, e1⟩ ?_))
    ((repeat refine AW_seq ?_); (refine wta ?_); simp (disch := omega) only [retQ, resD, oneD, rsv, rs, rsL, rsL_eq_map, List.map_map, bb, bt, zDs, zD, eqCells, simprocAttr, Tryz.results81])
    rfl
  have e1 : ((x.length : Int) != (wid m : Int)) = false := by simp [hw]
  rw [if_pos hw]
  ((refine wqa ?_))
  ((refine wqb (F := _∧_∧_∧_∧_) ⟨ha2, hat0, hpos, (hwd).symm, e1⟩ ?_))
  ((refine wia ?_))
  ((refine wsa ?_))
  ((refine wqa ?_))
  refine AW.begin 6 2 43 rfl (by omega) ?_
  (simp (disch := omega) only [bb, bt, zDs, zD, eqCells, simprocAttr])
  ((refine gga0 ?_))
  ((repeat refine AW_seq ?_))
  refine AW_mid (fun a : Nat × Nat × List (Int × Int) => ⟨[(6, .own 2 0 a.1 0 a.2.2.length)], [some ⟨43, a.1, frC a.2.2⟩], a.2.1⟩) (fun a => a.2.2.length ≤ 1000000 ∧ prodA x [] m = (a.2.2, 0)) ?_ ?_
  · refine AW_block ?_
    refine AW_loop_w (fun a : Nat × Nat × Nat × List (Int × Int) => ⟨[(1, frs x), (6, .own 2 0 a.2.1 0 a.1), (0, mat m), (7, int a.1)], [some ⟨43, a.2.1, frC a.2.2.2⟩], a.2.2.1⟩) (fun a => m.length - a.1) (fun a => a.1 ≤ m.length ∧ a.2.2.2.length = a.1 ∧ prodA x [] m = prodA x a.2.2.2 (m.drop a.1)) (0, t + 1, t + 1, []) ⟨Nat.zero_le _, rfl, rfl⟩ (by (simp (disch := omega) only [StLe, tmLe, hpLe_refl, hpLe, bl, bb, bt, zDs, zD, eqCells, simprocAttr, f0])) ?_
    rintro ⟨i, g, tt, acc⟩ ⟨hi, hal, hpa⟩
    simp only at hi hal hpa
    by_cases hlt : i < m.length
    · obtain ⟨r, hr⟩ : ∃ r, m[i]? = some r := ⟨_, List.getElem?_eq_getElem hlt⟩
      have hrl := h3 r (List.mem_of_getElem? hr)
      have hdr : m.drop i = r :: m.drop (i + 1) := by
        obtain ⟨a1, a2⟩ := List.getElem?_eq_some_iff.1 hr
        rw [List.drop_eq_getElem_cons a1, a2]
      rw [hdr] at hpa
      simp only [prodA] at hpa
      ((refine ggb0 (F := _∧_) ⟨@Int.ofNat_lt, hlt⟩ ?_))
      ((repeat refine AW_seq ?_))
      refine AW_block ?_
      ((refine gga1 (refOf 0) ?_))
      ((repeat refine AW_seq ?_))
      refine AW_mid (fun a : Nat × (Int × Int) => ⟨[(1, frs x), (6, .own 2 0 g 0 i), (8, .ptr 1 (tt + 1) 0), (0, mat m), (7, int i)], [some ⟨43, g, frC acc⟩, some ⟨43, tt + 1, [int a.2.1, int a.2.2]⟩], a.1⟩) (fun a => dotF r x (0, 1) = (a.2, 0)) ?_ ?_
      · refine AW_block ?_
        refine AW_loop_w (fun a : Nat × Nat × (Int × Int) => ⟨[(1, frs x), (6, .own 2 0 g 0 i), (8, .ptr 1 (tt + 1) 0), (0, mat m), (7, int i), (9, int a.1)], [some ⟨43, g, frC acc⟩, some ⟨43, tt + 1, [int a.2.2.1, int a.2.2.2]⟩], a.2.1⟩) (fun a => r.length - a.1) (fun a => a.1 ≤ r.length ∧ dotF r x (0, 1) = dotF (r.drop a.1) (x.drop a.1) a.2.2 ∧ vfrac a.2.2.1 a.2.2.2 = true) (0, tt + 1, (0, 1)) ⟨Nat.zero_le _, rfl, (vfrac_one (n := 0) (by omega) : vfrac 0 1 = true)⟩ (by (simp (disch := omega) only [StLe, tmLe, hpLe_refl, hpLe, bl, bb, bt, zDs, zD, eqCells, simprocAttr])) ?_
        rintro ⟨k, t3, s⟩ ⟨hk, hd, hsv⟩
        simp only at hk hd hsv
        by_cases hkl : k < r.length
        · have hkx : k < x.length := by omega
          obtain ⟨n, hn⟩ : ∃ y, r[k]? = some y := ⟨_, List.getElem?_eq_getElem hkl⟩
          obtain ⟨f, hf⟩ : ∃ y, x[k]? = some y := ⟨_, List.getElem?_eq_getElem hkx⟩
          rw [dotF_step hn hf] at hd
          have hra := frC_read x k f hf
          have hfv := allV_get ha hf
          have hnb := (h3 r (List.mem_of_getElem? hr)).2 n (List.mem_of_getElem? hn)
          have hnv : vfrac n 1 = true := vfrac_one (by omega)
          have cm := refTimes (n, 1) f hnv hfv
          have co := refOf n
          rw [← mulP_ok (a := (n, 1)) (b := f) hnv hfv] at cm
          have hkx' : (k : Int) < x.length := by omega
          ((refine ggb0 (F := _∧_) ⟨ha2, hkx'⟩ ?_))
          ((repeat refine AW_seq ?_))
          refine AW_block ?_
          by_cases z1 : (mulP (n, 1) f).2 = 0
          rotate_left 1
          · rw [if_neg z1] at hd
            have z1' : ((mulP (n, 1) f).2 != 0) = true := by simpa using z1
            have hp2 : prodA x [] m = ([], (mulP (n, 1) f).2) := by rw [hpa, hd, if_neg z1]
            rw [hp2]
            generalize mulP (n, 1) f = q at *
            ((repeat refine AW_seq ?_); (refine gdob2 (F := _∧_∧_∧_∧_∧_∧_) ⟨hkl, hn, ha2, hkx, hra, hlt, hr⟩ cm co ?_))
            ((refine ggb0 z1' ?_))
            ((repeat refine AW_seq ?_); (refine wta ?_); simp (disch := omega) only [retQ, resD, oneD, rsv, rs, rsL, rsL_eq_map, List.map_map, bb, bt, zDs, zD, eqCells, simprocAttr, Tryz.results81])
            rfl
          rw [if_pos z1] at hd
          have z1' : ((mulP (n, 1) f).2 != 0) = false := by simpa using z1
          have hqv : vfrac (mulP (n, 1) f).1.1 (mulP (n, 1) f).1.2 = true := by
            rw [mulP_ok (a := (n, 1)) (b := f) hnv hfv] at z1 ⊢
            exact mulR_valid hnv hfv z1
          generalize mulP (n, 1) f = q at *
          have ca := refAdd s q.1 hsv hqv
          rw [← addP_ok hsv hqv] at ca
          by_cases z2 : (addP s q.1).2 = 0
          rotate_left 1
          · rw [if_neg z2] at hd
            have z2' : ((addP s q.1).2 != 0) = true := by simpa using z2
            have hp2 : prodA x [] m = ([], (addP s q.1).2) := by rw [hpa, hd, if_neg z2]
            rw [hp2]
            generalize addP s q.1 = w at *
            ((repeat refine AW_seq ?_); (refine gdob2 (F := _∧_∧_∧_∧_∧_∧_) ⟨hkl, hn, ha2, hkx, hra, hlt, hr⟩ cm co ?_))
            ((refine ggb1 (F := _∧_) ⟨z1', z2'⟩ ca ?_))
            ((repeat refine AW_seq ?_); (refine wta ?_); simp (disch := omega) only [retQ, resD, oneD, rsv, rs, rsL, rsL_eq_map, List.map_map, bb, bt, zDs, zD, eqCells, simprocAttr, Tryz.results81])
            rfl
          rw [if_pos z2] at hd
          have z2' : ((addP s q.1).2 != 0) = false := by simpa using z2
          have hwv : vfrac (addP s q.1).1.1 (addP s q.1).1.2 = true := by
            rw [addP_ok hsv hqv] at z2 ⊢
            exact addR_valid hsv hqv z2
          generalize addP s q.1 = w at *
          ((repeat refine AW_seq ?_); (refine gdob2 (F := _∧_∧_∧_∧_∧_∧_) ⟨hkl, hn, ha2, hkx, hra, hlt, hr⟩ cm co ?_))
          ((refine ggb1 (F := _∧_) ⟨z1', z2'⟩ ca ?_))
          refine ⟨(k + 1, t3 + 2, w.1), ⟨hkl, hd, hwv⟩, by show r.length - (k + 1) < r.length - k; omega, ?_⟩
          (simp (disch := omega) only [StLe, tmLe, hpLe_refl, hpLe, bl, bb, bt, zDs, zD, eqCells, simprocAttr])
        · have hke : k = r.length := by omega
          subst hke
          rw [List.drop_eq_nil_of_le (Nat.le_refl _)] at hd
          have hrx : x.length = r.length := by omega
          ((refine ggb0 (F := _∧_∧_) ⟨ha2, hrx, @Int.lt_irrefl⟩ ?_))
          exact ⟨(t3, s), hd, by (simp (disch := omega) only [StLe, tmLe, hpLe_refl, hpLe, bl, bb, bt, zDs, zD, eqCells, simprocAttr])⟩
      · rintro ⟨t3, s⟩ hd
        simp only at hd
        rw [hd] at hpa
        simp only [if_true] at hpa
        have hfl2 := frC_len acc
        rw [hal] at hfl2
        have hap := frC_app acc s
        ((refine ggb0 hfl2 ?_))
        refine ⟨(i + 1, t3 + 1, t3 + 1, acc ++ [s]), ⟨hlt, by simp [hal], hpa⟩, by show m.length - (i + 1) < m.length - i; omega, ?_⟩
        simp only [hap]
        (simp (disch := omega) only [StLe, tmLe, hpLe_refl, hpLe, bl, bb, bt, zDs, zD, eqCells, simprocAttr])
    · have hie : i = m.length := by omega
      subst hie
      rw [List.drop_eq_nil_of_le (Nat.le_refl _)] at hpa
      ((refine ggb0 @Int.lt_irrefl ?_))
      refine ⟨(g, tt, acc), ⟨by show acc.length ≤ _; omega, hpa⟩, ?_⟩
      simp only [hal]
      (simp (disch := omega) only [StLe, tmLe, hpLe_refl, hpLe, bl, bb, bt, zDs, zD, eqCells, simprocAttr])
  · rintro ⟨g, tt, acc⟩ ⟨hal, hpa⟩
    simp only at hal hpa
    rw [hpa]
    have hfl2 := frC_len acc
    ((refine gga0 ?_))
    ((repeat refine AW_seq ?_); (refine wta ?_); simp (disch := omega) only [retQ, resD, oneD, bb, bt, zDs, zD, eqCells, simprocAttr, Tryz.results81])
    show rs (rsv _ 2) _ _ = _
    simp only [rs, rsL, List.getElem?_cons_zero, List.drop_zero, Nat.zero_add, hfl2, Nat.le_refl, and_self, if_true]
    rw [List.take_of_length_le (by omega)]
    have hmap : ∀ (H : Hp) (l : List (Int × Int)), (frC l).map (rsv H 2) = frC l := fun H l => by
      induction l with
      | nil => rfl
      | cons p l ih =>
        simp only [frC, List.flatMap_cons, List.map_append] at ih ⊢
        rw [ih]; rfl
    rw [hmap]
end Go.Proofs.YtifmgjieplmbnaaGreat.T
