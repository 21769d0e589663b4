import Derived.Test.YtalhegbjlfkipaaGWE
set_option linter.all false
namespace Go.Proofs.Ytalhegbjlfkipaa.T
open Go Go.RowKit Gr
set_option linter.unusedSimpArgs false

/-! Graphs: sets of nodes. -/
theorem singlesF (n : Nat) (hn : n ≤ 1000) : PFresh Try.prog 61 [int n] 3 1 n (nD (List.range n)) := by
  refine PFresh.intro (plainL_ints _) fun t => ACall.enter tab_ok Try.func61 rfl rfl Try.ntmps61 (by simp) ?_
  simp only [enterTM]
  ((refine wqa ?_))
  ((refine wqa ?_))
  ((repeat refine AW_seq ?_))
  refine AW.begin 3 1 3 rfl (by decide) ?_
  simp only [putTM, List.length_cons, List.length_nil, Nat.reduceEqDiff, ↓reduceIte, List.cons_append, List.nil_append]
  ((refine wqa ?_))
  ((repeat refine AW_seq ?_))
  refine AW_mid (fun x : Nat × Nat => ⟨[(3, .own 1 0 x.1 0 n)], [some ⟨3, x.1, nD (List.range n)⟩], x.2⟩) (fun _ => True) ?_ ?_
  · refine AW_block ?_
    refine AW_loop_w (fun x : Nat × Nat × Nat => ⟨[(5, int n), (6, int x.1), (3, .own 1 0 x.2.1 0 x.1)], [some ⟨3, x.2.1, nD (List.range x.1)⟩], x.2.2⟩) (fun x => n - x.1) (fun x => x.1 ≤ n) (0, t + 1, t + 1) (Nat.zero_le _) (by (simp (disch := omega) only [StLe, tmLe, hpLe_refl, hpLe, bl, bb, bt, zDs, zD, eqCells, simprocAttr, List.range_zero, nD, nl, List.map_nil])) ?_
    rintro ⟨k, g, tt⟩ hk
    simp only at hk
    by_cases hlt : k < n
    · have hnl : (nD (List.range k)).length = k := by simp [nD_len]
      have hpu : nD (List.range (k + 1)) = nD (List.range k) ++ [int k] := by rw [List.range_succ, nD_app]
      ((refine ggb0 (F := _∧_) ⟨@Int.ofNat_lt, hlt⟩ ?_))
      ((repeat refine AW_seq ?_))
      refine AW_block ?_
      ((refine ggb0 (F := _∧_) ⟨hlt, hnl⟩ ?_))
      refine ⟨(k + 1, tt + 1, tt + 1), hlt, by show n - (k + 1) < n - k; omega, ?_⟩
      simp only [hpu]
      (simp (disch := omega) only [StLe, tmLe, hpLe_refl, hpLe, bl, bb, bt, zDs, zD, eqCells, simprocAttr])
    · have hke : k = n := by omega
      subst hke
      ((refine ggb0 @Int.lt_irrefl ?_))
      exact ⟨(g, tt), trivial, by (simp (disch := omega) only [StLe, tmLe, hpLe_refl, hpLe, bl, bb, bt, zDs, zD, eqCells, simprocAttr])⟩
  rintro ⟨g, tt⟩ -
  ((refine gga0 ?_))
  ((repeat refine AW_seq ?_); (refine wta ?_); simp (disch := omega) only [retQ, resD, oneD, bb, bt, zDs, zD, eqCells, simprocAttr, Try.results61])
  exact .inr ⟨0, g, rfl, rfl⟩
theorem par_get {s : List Nat} {x p : Nat} (h : s[x]? = some p) : par s x = p := by unfold par; rw [h]; rfl
theorem set_same {H : Hp} {b : Nat} {X : Option Blk} (h : H[b]? = some X) : H.set b X = H := by
  refine List.ext_getElem? fun k => ?_
  by_cases e : b = k
  · subst e
    rw [List.getElem?_set_self (List.getElem?_eq_some_iff.1 h).1, h]
  · rw [List.getElem?_set_ne e]
theorem first_call {H : Hp} {b g n : Nat} {s : List Nat} {x : Nat} (hb : H[b]? = some (some ⟨3, g, nD s⟩)) (hs : s.length = n) (hu : UF s) (hx : x < n) (hn : n ≤ 1000) (t : Nat) :
    ACall Try.prog 48 [.own 1 b g 0 n, int x] H t (fun d H' t' => ∃ s', s'.length = n ∧ UF s' ∧ (∀ y, rt s' y = rt s y) ∧ d = int (rt s x) ∧ H' = H.set b (some ⟨3, g, nD s'⟩) ∧ t' = t) := by
  refine ACall.enter tab_ok Try.func48 rfl rfl Try.ntmps48 (by simp) ?_
  simp only [enterTM]
  have hbl := (List.getElem?_eq_some_iff.1 hb).1
  have hH : H.set b (some ⟨3, g, nD s⟩) = H := set_same hb
  have hget : ∀ X : Option Blk, (H.set b X)[b]? = some X := fun X => List.getElem?_set_self hbl
  have hne : ∀ X : Option Blk, (b = (H.set b X).length) = False := fun X => by simp; omega
  have hss : ∀ X Y : Option Blk, (H.set b X).set b Y = H.set b Y := fun X Y => by simp
  conv => arg 5; rw [← hH]
  ((refine wqa ?_))
  ((repeat refine AW_seq ?_))
  refine AW_mid (fun s' : List Nat => ⟨[(1, int (rt s x))], H.set b (some ⟨3, g, nD s'⟩), t⟩) (fun s' => s'.length = n ∧ UF s' ∧ ∀ y, rt s' y = rt s y) ?_ ?_
  · refine AW_block ?_
    refine AW_loop_w (fun z : Nat × List Nat => ⟨[(0, .own 1 b g 0 n), (1, int z.1)], H.set b (some ⟨3, g, nD z.2⟩), t⟩) (fun z => z.1) (fun z => z.1 < n ∧ z.2.length = n ∧ UF z.2 ∧ (∀ y, rt z.2 y = rt s y) ∧ rt s z.1 = rt s x) (x, s) ⟨hx, hs, hu, fun _ => rfl, rfl⟩ (by (simp (disch := omega) only [StLe, tmLe, hpLe_refl, hpLe, bl, bb, bt, zDs, zD, eqCells, simprocAttr])) ?_
    rintro ⟨i, s1⟩ ⟨hi, hl, hu1, hr, hri⟩
    simp only at hi hl hu1 hr hri
    obtain ⟨p, hp⟩ : ∃ y, s1[i]? = some y := ⟨_, List.getElem?_eq_getElem (by omega)⟩
    have hpp := par_get hp
    have hpi : p ≤ i := by have := hu1 i; omega
    obtain ⟨q, hq⟩ : ∃ y, s1[p]? = some y := ⟨_, List.getElem?_eq_getElem (by omega)⟩
    have hqp := par_get hq
    have hqle : q ≤ p := by have := hu1 p; omega
    have dp := nD_get hp
    have dq := nD_get hq
    have hlen := nD_len s1
    have hpn : p < n := by omega
    have hin : i + 1 ≤ n := hi
    have hbq := bneN p i
    by_cases hpe : p = i
    · have e1 : ((p : Int) != (i : Int)) = false := by rw [hbq]; simp [hpe]
      ((refine ggb0 (F := _∧_∧_∧_∧_∧_) ⟨hget, hi, hl, hlen, dp, e1⟩ ?_))
      refine ⟨s1, ⟨hl, hu1, hr⟩, ?_⟩
      have : rt s x = i := by rw [← hri, ← hr i]; exact rt_top (by omega)
      rw [this]
      (simp (disch := omega) only [StLe, tmLe, hpLe_refl, hpLe, bl, bb, bt, zDs, zD, eqCells, simprocAttr])
    · have e1 : ((p : Int) != (i : Int)) = true := by rw [hbq]; simpa using hpe
      obtain ⟨h1, h2⟩ := hu1.half (i := i) (by omega)
      rw [hpp, hqp] at h1 h2
      have hset := nD_set s1 i q
      have hq2 : (s1.set i q)[i]? = some q := by simp [hl, hi]
      have dq2 := nD_get hq2
      have hlen2 := nD_len (s1.set i q)
      ((refine ggb0 (F := _∧_∧_∧_∧_∧_) ⟨hget, hi, hl, hlen, dp, e1⟩ ?_))
      ((repeat refine AW_seq ?_))
      refine AW_block ?_
      ((refine ggb0 (F := _∧_∧_∧_∧_∧_∧_∧_∧_∧_∧_∧_) ⟨hget, hne, hss, hi, hl, hlen, dp, dq, hpn, hin, hset, dq2⟩ ?_))
      refine ⟨(q, s1.set i q), ⟨by show q < n; omega, by simpa using hl, h1, fun y => by rw [h2, hr], ?_⟩, by show q < i; omega, ?_⟩
      · show rt s q = rt s x
        rw [← hri, ← hr q, ← hr i, ← hqp, hu1.rt_step, ← hpp, hu1.rt_step]
      · (simp (disch := omega) only [StLe, tmLe, hpLe_refl, hpLe, bl, bb, bt, zDs, zD, eqCells, simprocAttr])
  rintro s' ⟨h1, h2, h3⟩
  ((refine gga0 ?_))
  ((repeat refine AW_seq ?_); (refine wta ?_); simp (disch := omega) only [retQ, resD, oneD, bb, bt, zDs, zD, eqCells, simprocAttr, Try.results48])
  exact ⟨s', h1, h2, h3, rfl⟩
theorem maxN (p q : Nat) : (if (p : Int) < (q : Int) then (q : Int) else (p : Int)) = ((max p q : Nat) : Int) := by split <;> omega
theorem minN (p q : Nat) : (if (q : Int) < (p : Int) then (q : Int) else (p : Int)) = ((min p q : Nat) : Int) := by split <;> omega
theorem join_call {H : Hp} {b g n : Nat} {s : List Nat} {x y : Nat} (hb : H[b]? = some (some ⟨3, g, nD s⟩)) (hs : s.length = n) (hu : UF s) (hx : x < n) (hy : y < n) (hn : n ≤ 1000) (t : Nat) :
    ACall Try.prog 62 [.own 1 b g 0 n, int x, int y] H t (fun d H' t' => ∃ s', s'.length = n ∧ UF s' ∧ (∀ z, rt s' z = if rt s z = max (rt s x) (rt s y) then min (rt s x) (rt s y) else rt s z) ∧ d = bool (rt s x != rt s y) ∧ H' = H.set b (some ⟨3, g, nD s'⟩) ∧ t' = t) := by
  refine ACall.enter tab_ok Try.func62 rfl rfl Try.ntmps62 (by simp) ?_
  simp only [enterTM]
  have hbl := (List.getElem?_eq_some_iff.1 hb).1
  have hget : ∀ X : Option Blk, (H.set b X)[b]? = some X := fun X => List.getElem?_set_self hbl
  have hne : ∀ X : Option Blk, (b = (H.set b X).length) = False := fun X => by simp; omega
  have hss : ∀ X Y : Option Blk, (H.set b X).set b Y = H.set b Y := fun X Y => by simp
  ((refine wqa ?_))
  ((repeat refine AW_seq ?_); (refine AW_region_k tab_ok fun KR hKR => ?_)); ((refine wra ?_))
  ((try with_reducible intro KR hKR); (first | refine awOps_nc fun KK hKK => ?_ | refine awOps_gc rfl fun KK hKK => ?_); simp (disch := omega) only [bb, bt, zDs, zD, eqCells, simprocAttr, goC, callO_fn, argsD, and_self])
  refine (first_call hb hs hu hx hn t).mono ?_
  rintro d H' t' ⟨s1, l1, u1, r1, rfl, rfl, rfl⟩
  (simp (disch := omega) only [bb, bt, zDs, zD, eqCells, simprocAttr, afterC]; refine hKK _ ?_; clear hKK KK)
  ((refine wra ?_))
  ((try with_reducible intro KR hKR); (first | refine awOps_nc fun KK hKK => ?_ | refine awOps_gc rfl fun KK hKK => ?_); simp (disch := omega) only [bb, bt, zDs, zD, eqCells, simprocAttr, goC, callO_fn, argsD, and_self])
  refine (first_call (s := s1) (hget _) l1 u1 hy hn t').mono ?_
  rintro d H' t'' ⟨s2, l2, u2, r2, rfl, rfl, rfl⟩
  rw [hss, r1 y]
  (simp (disch := omega) only [bb, bt, zDs, zD, eqCells, simprocAttr, afterC]; refine hKK _ ?_; clear hKK KK)
  ((refine wra ?_))
  ((refine wea ?_); (try clear hKR KR))
  have hxl := rt_le s x
  have hyl := rt_le s y
  have hM : max (rt s x) (rt s y) < n := by omega
  have hM2 : max (rt s x) (rt s y) + 1 ≤ n := hM
  have hlen := nD_len s2
  have hmx := maxN (rt s x) (rt s y)
  have hmn := minN (rt s x) (rt s y)
  have hset := nD_set s2 (max (rt s x) (rt s y)) (min (rt s x) (rt s y))
  have hbq := bneN (rt s x) (rt s y)
  obtain ⟨j1, j2⟩ := u2.join (M := max (rt s x) (rt s y)) (m := min (rt s x) (rt s y)) (by omega) (by omega) (by
    rw [r2, r1]
    rcases Nat.le_total (rt s x) (rt s y) with h | h
    · rw [Nat.max_eq_right h]; exact rt_rt s y
    · rw [Nat.max_eq_left h]; exact rt_rt s x) (by
    rw [r2, r1]
    rcases Nat.le_total (rt s x) (rt s y) with h | h
    · rw [Nat.min_eq_left h]; exact rt_rt s x
    · rw [Nat.min_eq_right h]; exact rt_rt s y)
  ((refine ggb0 (F := _∧_∧_∧_∧_∧_∧_∧_∧_∧_∧_) ⟨hget, hne, hss, hmx, hmn, hM, hM2, hlen, l2, hset, hbq⟩ ?_))
  ((repeat refine AW_seq ?_); (refine wta ?_); simp (disch := omega) only [retQ, resD, oneD, bb, bt, zDs, zD, eqCells, simprocAttr, Try.results62])
  exact ⟨_, by simpa using l2, j1, fun z => by rw [j2, r2, r1], rfl⟩
noncomputable def inFl (E : List (Nat × Nat)) (k : Nat) : List Bool := (List.range k).map (inF E)
def bD (l : List Bool) : List D := l.map bool
theorem bD_len (l : List Bool) : (bD l).length = l.length := by simp [bD]
theorem bD_app (l : List Bool) (k : Bool) : bD l ++ [bool k] = bD (l ++ [k]) := by simp [bD]
theorem bD_get {l : List Bool} {i : Nat} {k : Bool} (h : l[i]? = some k) : (bD l)[i]? = some (bool k) := by simp [bD, h]
theorem bD_set (l : List Bool) (i : Nat) (k : Bool) : (bD l).set i (bool k) = bD (l.set i k) := by simp [bD, List.map_set]
theorem inFl_step (E : List (Nat × Nat)) (k : Nat) : inFl E (k + 1) = inFl E k ++ [inF E k] := by unfold inFl; rw [List.range_succ, List.map_append]; rfl
theorem inFl_len (E : List (Nat × Nat)) (k : Nat) : (inFl E k).length = k := by simp [inFl]
set_option maxHeartbeats 1000000 in
theorem forest_call (n : Nat) (E : List (Nat × Nat)) (ho : Ok n E) (hn : n ≤ 1000) (hE : E.length ≤ 4000) (t : Nat) :
    ACall Try.prog 47 [int n, eds (edN E)] [] t (fun d H' t' => ∃ s g0 g1, s.length = n ∧ UF s ∧ (∀ x, x < n → rt s x = lab E x) ∧ d = .tup [.own 1 1 g1 0 E.length, .own 1 0 g0 0 n] ∧ H' = [some ⟨3, g0, nD s⟩, some ⟨4, g1, bD (inFl E E.length)⟩] ∧ t ≤ t') := by
  refine ACall.enter tab_ok Try.func47 rfl rfl Try.ntmps47 (by simp) ?_
  simp only [enterTM]
  have hdiv : (edC (edN E)).length / 2 = E.length := by rw [edC_div, edN_len]
  have hS := singlesF n hn
  ((refine wqa ?_))
  ((repeat refine AW_seq ?_); (refine AW_region_k tab_ok fun KR hKR => ?_)); ((refine wra ?_))
  ((first | refine awOps_nc fun KK hKK => ?_ | refine awOps_gc rfl fun KK hKK => ?_); simp (disch := omega) only [bb, bt, zDs, zD, eqCells, simprocAttr, goC, callO_fn, argsD, and_self]; refine ACall.of_fresh (hS) (by first | (simp only [List.map_cons, List.map_nil, List.append_nil, List.nil_append, List.cons_append, ufa, uf]; done) | rfl) ?_; simp (disch := omega) only [bb, bt, zDs, zD, eqCells, simprocAttr, afterC]; refine hKK _ ?_; clear hKK KK)
  ((refine wra ?_))
  ((refine wea ?_); (try clear hKR KR))
  ((refine wqa ?_))
  ((repeat refine AW_seq ?_))
  refine AW.begin 7 1 4 rfl (by decide) ?_
  simp only [putTM, List.length_cons, List.length_nil, Nat.reduceEqDiff, ↓reduceIte, List.cons_append, List.nil_append]
  ((refine wqb hdiv ?_))
  ((repeat refine AW_seq ?_))
  refine AW_mid (fun x : List Nat × Nat × Nat => ⟨[(6, .own 1 0 (t + 1) 0 n), (7, .own 1 1 x.2.1 0 E.length)], [some ⟨3, t + 1, nD x.1⟩, some ⟨4, x.2.1, bD (inFl E E.length)⟩], x.2.2⟩) (fun x => x.1.length = n ∧ UF x.1 ∧ (∀ z, z < n → rt x.1 z = lab E z) ∧ t ≤ x.2.2) ?_ ?_
  · refine AW_block ?_
    have hs0 : ∀ z, z < n → rt (List.range n) z = lab (E.take 0) z := fun z hz => by
      have h1 : par (List.range n) z = z := par_get (by simp [hz])
      rw [rt_top (by omega)]
      exact (Lab.start (z + 1)).is (fun e he => by cases he) (Nat.lt_succ_self z)
    have hu0 : UF (List.range n) := fun z => by
      by_cases hz : z < n
      · rw [par_get (p := z) (by simp [hz])]; exact Nat.le_refl _
      · unfold par; rw [List.getElem?_eq_none (by simp; omega)]; exact Nat.le_refl _
    refine AW_loop_w (fun x : (Nat × List Nat) × Nat × Nat => ⟨[(6, .own 1 0 (t + 1) 0 n), (7, .own 1 1 x.2.1 0 x.1.1), (12, eds (edN E)), (13, int E.length), (14, int x.1.1)], [some ⟨3, t + 1, nD x.1.2⟩, some ⟨4, x.2.1, bD (inFl E x.1.1)⟩], x.2.2⟩) (fun x => E.length - x.1.1)
      (fun x => x.1.1 ≤ E.length ∧ x.1.2.length = n ∧ UF x.1.2 ∧ (∀ z, z < n → rt x.1.2 z = lab (E.take x.1.1) z) ∧ t ≤ x.2.2) ((0, List.range n), t + 1 + 1, t + 1 + 1) ⟨Nat.zero_le _, by simp, hu0, hs0, by show t ≤ t + 1 + 1; omega⟩ (by (simp (disch := omega) only [StLe, tmLe, hpLe_refl, hpLe, bl, bb, bt, zDs, zD, eqCells, simprocAttr, inFl, bD, List.range_zero, List.map_nil])) ?_
    rintro ⟨⟨k, s⟩, g1, tt⟩ ⟨hk, hl, hu, hr, ht⟩
    simp only at hk hl hu hr ht
    by_cases hlt : k < E.length
    · obtain ⟨⟨a, b⟩, he⟩ : ∃ e, E[k]? = some e := ⟨_, List.getElem?_eq_getElem hlt⟩
      obtain ⟨ha, hb, hab⟩ := ho.get he
      have hen := edN_get he
      have hrd := edC_read _ _ _ hen
      simp only at hrd
      have hr2 : k * 2 < E.length * 2 := by omega
      have hr3 : k * 2 + 2 ≤ E.length * 2 := by omega
      have hil := inFl_len E k
      have hbl := bD_len (inFl E k)
      have hap := bD_app (inFl E k) (inF E k)
      have hst := inFl_step E k
      ((refine ggb0 (F := _∧_) ⟨@Int.ofNat_lt, hlt⟩ ?_))
      ((repeat refine AW_seq ?_))
      refine AW_block ?_
      ((refine wqb (F := _∧_∧_∧_∧_∧_) ⟨hlt, hr2, hr3, edC_len, edN_len, hrd⟩ ?_))
      ((repeat refine AW_seq ?_); (refine AW_region_k tab_ok fun KR hKR => ?_)); ((refine wra ?_))
      ((try with_reducible intro KR hKR); (first | refine awOps_nc fun KK hKK => ?_ | refine awOps_gc rfl fun KK hKK => ?_); simp (disch := omega) only [bb, bt, zDs, zD, eqCells, simprocAttr, goC, callO_fn, argsD, and_self])
      refine (join_call (b := 0) rfl hl hu ha hb hn _).mono ?_
      rintro d H' t' ⟨s2, l2, u2, r2, rfl, rfl, rfl⟩
      rw [hr a ha, hr b hb, ← inF_eq he]
      simp only [List.set_cons_zero]
      (simp (disch := omega) only [bb, bt, zDs, zD, eqCells, simprocAttr, afterC]; refine hKK _ ?_; clear hKK KK)
      ((refine wrb (F := _∧_) ⟨hbl, hil⟩ ?_))
      ((refine wea ?_); (try clear hKR KR))
      ((refine gga0 ?_))
      refine ⟨((k + 1, s2), tt + 1 + 1, tt + 1 + 1), ⟨hlt, l2, u2, fun z hz => ?_, by show t ≤ tt + 1 + 1; omega⟩, by show E.length - (k + 1) < E.length - k; omega, ?_⟩
      · simp only
        rw [lab_step ho he hz, r2, hr z hz, hr a ha, hr b hb]
      · simp only [hst, ← hap]
        (simp (disch := omega) only [StLe, tmLe, hpLe_refl, hpLe, bl, bb, bt, zDs, zD, eqCells, simprocAttr])
    · have hke : k = E.length := by omega
      subst hke
      ((refine ggb0 @Int.lt_irrefl ?_))
      rw [List.take_length] at hr
      exact ⟨(s, g1, tt), ⟨hl, hu, hr, ht⟩, by (simp (disch := omega) only [StLe, tmLe, hpLe_refl, hpLe, bl, bb, bt, zDs, zD, eqCells, simprocAttr])⟩
  rintro ⟨s, g1, tt⟩ ⟨hl, hu, hr, ht⟩
  ((refine gga0 ?_))
  ((repeat refine AW_seq ?_); (refine wta ?_); simp (disch := omega) only [retQ, resD, oneD, bb, bt, zDs, zD, eqCells, simprocAttr, Try.results47])
  exact ⟨s, t + 1, g1, hl, hu, hr, rfl, rfl, ht⟩
end Go.Proofs.Ytalhegbjlfkipaa.T
