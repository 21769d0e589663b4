import Derived.Test.YtalhegbjlfkipaaGWC
set_option linter.all false
namespace Go.Proofs.Ytalhegbjlfkipaa.T
open Go Go.RowKit Gr
set_option linter.unusedSimpArgs false

/-! Graphs: the reference's Labels. -/
/-- Numbers as cells. -/
def nD (l : List Nat) : List D := (nl l).map int
theorem nD_len (l : List Nat) : (nD l).length = l.length := by simp [nD, nl]
theorem nD_get {l : List Nat} {i k : Nat} (h : l[i]? = some k) : (nD l)[i]? = some (int k) := by simp [nD, nl, h]
theorem nD_set (l : List Nat) (i k : Nat) : (nD l).set i (int k) = nD (l.set i k) := by simp [nD, nl, List.map_set]
theorem nD_app (l : List Nat) (k : Nat) : nD l ++ [int k] = nD (l ++ [k]) := by simp [nD, nl]
def edN (E : List (Nat × Nat)) : List (Int × Int) := E.map fun e => ((e.1 : Int), (e.2 : Int))
theorem edN_len (E : List (Nat × Nat)) : (edN E).length = E.length := by simp [edN]
theorem edN_get {E : List (Nat × Nat)} {k a b : Nat} (h : E[k]? = some (a, b)) : (edN E)[k]? = some ((a : Int), (b : Int)) := by simp [edN, h]
theorem sum_set : ∀ (l : List Nat) (i v w : Nat), l[i]? = some w → (l.set i v).sum + w = l.sum + v
  | [], i, v, w, h => by simp at h
  | x :: l, 0, v, w, h => by simp at h; subst h; simp; omega
  | x :: l, i + 1, v, w, h => by
    have := sum_set l i v w (by simpa using h)
    simp; omega
/-- The edges with less than some number, but one. -/
def subL (E : List (Nat × Nat)) (m : Nat) (but : Int) : List (Nat × Nat) := sub E ((List.range m).filter fun i : Nat => !((i : Int) == but))
/-- What holds of labels on the way. -/
structure LI (n : Nat) (L : List (Nat × Nat)) (f : List Nat) : Prop where
  len : f.length = n
  con : ∀ x y, f[x]? = some y → Con L x y ∧ y ≤ x
theorem LI.set {n : Nat} {L : List (Nat × Nat)} {f : List Nat} (h : LI n L f) {a b p q : Nat} (ha : f[a]? = some p) (hb : f[b]? = some q) (hc : Con L a b) (hlt : p < q) : LI n L (f.set b p) ∧ (f.set b p).sum < f.sum := by
  refine ⟨⟨by rw [List.length_set]; exact h.len, fun x y hx => ?_⟩, by have := sum_set f b p q hb; omega⟩
  rw [List.getElem?_set] at hx
  split at hx
  · rename_i e; subst e
    split at hx
    · cases hx
      exact ⟨hc.symm.trans (h.con a p ha).1, by have := (h.con b q hb).2; omega⟩
    · cases hx
  · exact h.con x y hx
theorem LI.end_ {n : Nat} {L : List (Nat × Nat)} {f : List Nat} (h : LI n L f) (ho : Ok n L) (ha : ∀ x y, Adj L x y → f.getD x 0 = f.getD y 0) : f = (List.range n).map (lab L) := by
  have hg : ∀ x, x < n → f[x]? = some (f.getD x 0) := fun x hx => by
    have : x < f.length := by rw [h.len]; exact hx
    simp [List.getD_eq_getElem?_getD, this]
  have hL : Lab n L (fun x => f.getD x 0) := ⟨fun x hx => (h.con x _ (hg x hx)).1, fun x hx => (h.con x _ (hg x hx)).2, ha⟩
  refine List.ext_getElem? fun k => ?_
  by_cases hk : k < n
  · have := hL.is ho hk
    rw [hg k hk, List.getElem?_map, List.getElem?_range hk]
    rw [this]; rfl
  · rw [List.getElem?_eq_none (by rw [h.len]; omega), List.getElem?_eq_none (by simp; omega)]
theorem adj_subL {n : Nat} {E : List (Nat × Nat)} (ho : Ok n E) (m : Nat) (but : Int) (u v : Nat) : Adj (subL E m but) u v ↔ ∃ k : Nat, k < m ∧ (k : Int) ≠ but ∧ oth E k u = some v := by
  unfold subL
  rw [adj_sub ho]
  constructor
  · rintro ⟨k, hk, e⟩
    simp only [List.mem_filter, List.mem_range, Bool.not_eq_true', beq_eq_false_iff_ne] at hk
    exact ⟨k, hk.1, hk.2, e⟩
  · rintro ⟨k, h1, h2, e⟩
    exact ⟨k, by simp only [List.mem_filter, List.mem_range, Bool.not_eq_true', beq_eq_false_iff_ne]; exact ⟨h1, h2⟩, e⟩
set_option maxHeartbeats 2000000 in
theorem labelsR (n : Nat) (E : List (Nat × Nat)) (ho : Ok n E) (hn : n ≤ 1000) (hE : E.length ≤ 4000) (m : Nat) (hm : m ≤ E.length) (but : Int) :
    PRet Try.prog 46 [int n, eds (edN E), int m, int but] (ints (nl ((List.range n).map (lab (subL E m but))))) := by
  refine PRet.intro 2 fun t => ACall.enter tab_ok Try.func46 rfl rfl Try.ntmps46 (by simp) ?_
  simp only [enterTM]
  have hoL : Ok n (subL E m but) := ho.sub _
  have hed := edN_len E
  ((refine wqa ?_))
  ((refine wqa ?_))
  ((repeat refine AW_seq ?_))
  refine AW.begin 9 1 3 rfl (by decide) ?_
  simp only [putTM, List.length_cons, List.length_nil, Nat.reduceEqDiff, ↓reduceIte, List.cons_append, List.nil_append]
  ((refine wqa ?_))
  ((repeat refine AW_seq ?_))
  refine AW_mid (fun x : Nat × Nat => ⟨[(0, int n), (1, eds (edN E)), (2, int m), (3, int but), (9, .own 1 0 x.1 0 n)], [some ⟨3, x.1, nD (List.range n)⟩], x.2⟩) (fun _ => True) ?_ ?_
  · refine AW_block ?_
    refine AW_loop_w (fun x : Nat × Nat × Nat => ⟨[(0, int n), (1, eds (edN E)), (2, int m), (3, int but), (10, int x.1), (9, .own 1 0 x.2.1 0 x.1)], [some ⟨3, x.2.1, nD (List.range x.1)⟩], x.2.2⟩) (fun x => n - x.1) (fun x => x.1 ≤ n) (0, t + 1, t + 1) (Nat.zero_le _) (by (simp (disch := omega) only [StLe, tmLe, hpLe_refl, hpLe, bl, bb, bt, zDs, zD, eqCells, simprocAttr, List.range_zero, nD, nl, List.map_nil])) ?_
    rintro ⟨k, g, tt⟩ hk
    simp only at hk
    by_cases hlt : k < n
    · have hnl : (nD (List.range k)).length = k := by simp [nD_len]
      have hpu : nD (List.range (k + 1)) = nD (List.range k) ++ [int k] := by rw [List.range_succ, nD_app]
      ((refine ggb0 (F := _∧_) ⟨@Int.ofNat_lt, hlt⟩ ?_))
      ((repeat refine AW_seq ?_))
      refine AW_block ?_
      ((refine ggb0 (F := _∧_) ⟨hlt, hnl⟩ ?_))
      refine ⟨(k + 1, tt + 1, tt + 1), hlt, by show n - (k + 1) < n - k; omega, ?_⟩
      simp only [hpu]
      (simp (disch := omega) only [StLe, tmLe, hpLe_refl, hpLe, bl, bb, bt, zDs, zD, eqCells, simprocAttr])
    · have hke : k = n := by omega
      subst hke
      ((refine ggb0 @Int.lt_irrefl ?_))
      exact ⟨(g, tt), trivial, by (simp (disch := omega) only [StLe, tmLe, hpLe_refl, hpLe, bl, bb, bt, zDs, zD, eqCells, simprocAttr])⟩
  rintro ⟨g, tt⟩ -
  ((refine wqa ?_))
  ((repeat refine AW_seq ?_))
  refine AW_mid (fun x : Nat => ⟨[(9, .own 1 0 g 0 n)], [some ⟨3, g, nD ((List.range n).map (lab (subL E m but)))⟩], x⟩) (fun _ => True) ?_ ?_
  · refine AW_block ?_
    have hst : LI n (subL E m but) (List.range n) := ⟨by simp, fun x y h => by
      obtain ⟨h1, h2⟩ := List.getElem?_eq_some_iff.1 h
      rw [List.getElem_range] at h2
      subst h2
      exact ⟨.refl _ _, Nat.le_refl _⟩⟩
    refine AW_loop_w (fun x : Bool × List Nat × Nat => ⟨[(0, int n), (1, eds (edN E)), (2, int m), (3, int but), (11, bool x.1), (9, .own 1 0 g 0 n)], [some ⟨3, g, nD x.2.1⟩], x.2.2⟩) (fun x => if x.1 then x.2.1.sum + 1 else 0)
      (fun x => LI n (subL E m but) x.2.1 ∧ (x.1 = false → ∀ k a b, k < m → (k : Int) ≠ but → E[k]? = some (a, b) → x.2.1.getD a 0 = x.2.1.getD b 0)) (true, List.range n, tt) ⟨hst, fun h => by cases h⟩ (by (simp (disch := omega) only [StLe, tmLe, hpLe_refl, hpLe, bl, bb, bt, zDs, zD, eqCells, simprocAttr])) ?_
    rintro ⟨ag, f, t1⟩ ⟨hf, hag⟩
    simp only at hf hag
    cases ag
    · ((refine gga0 ?_))
      refine ⟨t1, trivial, ?_⟩
      rw [← hf.end_ hoL fun u v a => ?_]
      · (simp (disch := omega) only [StLe, tmLe, hpLe_refl, hpLe, bl, bb, bt, zDs, zD, eqCells, simprocAttr])
      · obtain ⟨k, h1, h2, h3⟩ := (adj_subL ho m but u v).1 a
        rcases oth_some h3 with e | e
        · exact hag rfl k u v h1 h2 e
        · exact (hag rfl k v u h1 h2 e).symm
    ((refine gga0 ?_))
    ((repeat refine AW_seq ?_))
    refine AW_block ?_
    ((refine wqa ?_))
    ((refine wqa ?_))
    refine AW_block ?_
    refine AW_loop_w (fun x : Nat × Bool × List Nat × Nat => ⟨[(0, int n), (1, eds (edN E)), (2, int m), (3, int but), (11, bool x.2.1), (12, int x.1), (9, .own 1 0 g 0 n)], [some ⟨3, g, nD x.2.2.1⟩], x.2.2.2⟩) (fun x => m - x.1)
      (fun x => x.1 ≤ m ∧ LI n (subL E m but) x.2.2.1 ∧ (x.2.1 = true → x.2.2.1.sum < f.sum) ∧ (x.2.1 = false → x.2.2.1 = f ∧ ∀ k a b, k < x.1 → (k : Int) ≠ but → E[k]? = some (a, b) → f.getD a 0 = f.getD b 0)) (0, false, f, t1) ⟨Nat.zero_le _, hf, fun h => (by cases h), fun _ => ⟨rfl, fun k a b hk => absurd hk (Nat.not_lt_zero k)⟩⟩ (by (simp (disch := omega) only [StLe, tmLe, hpLe_refl, hpLe, bl, bb, bt, zDs, zD, eqCells, simprocAttr])) ?_
    rintro ⟨k, ag, f1, t2⟩ ⟨hk, hf1, h1, h2⟩
    simp only at hk hf1 h1 h2
    by_cases hlt : k < m
    · obtain ⟨⟨a, b⟩, he⟩ : ∃ e, E[k]? = some e := ⟨_, List.getElem?_eq_getElem (by omega)⟩
      obtain ⟨ha, hb, hab⟩ := ho.get he
      have hen := edN_get he
      have g0 := edC_0 hen
      have g1 := edC_1 hen
      simp only at g0 g1
      have hlen := nD_len f1
      have hfl := hf1.len
      obtain ⟨p, hp⟩ : ∃ y, f1[a]? = some y := ⟨_, List.getElem?_eq_getElem (by omega)⟩
      obtain ⟨q, hq⟩ : ∃ y, f1[b]? = some y := ⟨_, List.getElem?_eq_getElem (by omega)⟩
      have dp := nD_get hp
      have dq := nD_get hq
      have hkE : k < E.length := by omega
      have hr2 : k * 2 < E.length * 2 := by omega
      have hr3 : a < f1.length := by omega
      have hr4 : b < f1.length := by omega
      ((refine ggb0 (F := _∧_) ⟨@Int.ofNat_lt, hlt⟩ ?_))
      ((repeat refine AW_seq ?_))
      refine AW_block ?_
      by_cases hbt : (k : Int) = but
      · have e1 : ((k : Int) == but) = true := by simp [hbt]
        ((refine ggb0 e1 ?_))
        refine ⟨(k + 1, ag, f1, t2), ⟨hlt, hf1, h1, fun h => ⟨(h2 h).1, fun j a b hj hjb e => ?_⟩⟩, by show m - (k + 1) < m - k; omega, ?_⟩
        · by_cases hjk : j = k
          · subst hjk; exact absurd hbt hjb
          · exact (h2 h).2 j a b (by simp only at hj; omega) hjb e
        · (simp (disch := omega) only [StLe, tmLe, hpLe_refl, hpLe, bl, bb, bt, zDs, zD, eqCells, simprocAttr])
      have e1 : ((k : Int) == but) = false := by simpa using hbt
      ((refine ggb0 e1 ?_))
      ((repeat refine AW_seq ?_); (refine gdzb (F := _∧_∧_∧_∧_∧_) ⟨hkE, hr2, edC_len, edN_len, g0, g1⟩ ?_))
      ((repeat refine AW_seq ?_); (refine gdzb (F := _∧_∧_∧_) ⟨ha, hb, dp, dq⟩ ?_))
      have hcab : Con (subL E m but) a b := .adj ((adj_subL ho m but a b).2 ⟨k, hlt, hbt, (oth_of ho he).1⟩)
      by_cases hpq : p < q
      · have e2 : decide ((p : Int) < q) = true := by simp; omega
        obtain ⟨s1, s2⟩ := hf1.set hp hq hcab hpq
        have hq2 : (f1.set b p)[b]? = some p := by simp [hr4]
        have hp2 : (f1.set b p)[a]? = some p := by rw [List.getElem?_set_ne hab.symm]; exact hp
        have dp2 := nD_get hp2
        have dq2 := nD_get hq2
        have hset := nD_set f1 b p
        ((refine ggb0 (F := _∧_∧_∧_∧_∧_∧_∧_∧_) ⟨e2, ha, hb, dp, dq, hr4, hlen, (Nat.succ_le_of_lt hr4), hset⟩ ?_))
        ((repeat refine AW_seq ?_); (refine gdzb (F := _∧_∧_∧_∧_) ⟨ha, hb, dp2, dq2, @Int.lt_irrefl⟩ ?_))
        ((refine ggb0 @Int.lt_irrefl ?_))
        refine ⟨(k + 1, true, f1.set b p, t2 + 1 + 1 + 1), ⟨hlt, s1, fun _ => ?_, fun h => by cases h⟩, by show m - (k + 1) < m - k; omega, ?_⟩
        · show (f1.set b p).sum < f.sum
          cases ag
          · rw [(h2 rfl).1] at s2 ⊢; exact s2
          · have := h1 rfl; omega
        · (simp (disch := omega) only [StLe, tmLe, hpLe_refl, hpLe, bl, bb, bt, zDs, zD, eqCells, simprocAttr])
      · have e2 : decide ((p : Int) < q) = false := by simp; omega
        ((refine ggb0 e2 ?_))
        ((repeat refine AW_seq ?_); (refine gdzb (F := _∧_∧_∧_) ⟨ha, hb, dp, dq⟩ ?_))
        by_cases hqp : q < p
        · have e3 : decide ((q : Int) < p) = true := by simp; omega
          obtain ⟨s1, s2⟩ := hf1.set hq hp hcab.symm hqp
          have hset := nD_set f1 a q
          ((refine ggb0 (F := _∧_∧_∧_∧_∧_∧_∧_∧_) ⟨e3, ha, hb, dp, dq, hr3, hlen, (Nat.succ_le_of_lt hr3), hset⟩ ?_))
          refine ⟨(k + 1, true, f1.set a q, t2 + 1 + 1 + 1), ⟨hlt, s1, fun _ => ?_, fun h => by cases h⟩, by show m - (k + 1) < m - k; omega, ?_⟩
          · show (f1.set a q).sum < f.sum
            cases ag
            · rw [(h2 rfl).1] at s2 ⊢; exact s2
            · have := h1 rfl; omega
          · (simp (disch := omega) only [StLe, tmLe, hpLe_refl, hpLe, bl, bb, bt, zDs, zD, eqCells, simprocAttr])
        · have e3 : decide ((q : Int) < p) = false := by simp; omega
          ((refine ggb0 e3 ?_))
          refine ⟨(k + 1, ag, f1, t2 + 1 + 1 + 1), ⟨hlt, hf1, h1, fun h => ⟨(h2 h).1, fun j a' b' hj hjb e => ?_⟩⟩, by show m - (k + 1) < m - k; omega, ?_⟩
          · by_cases hjk : j = k
            · subst hjk
              rw [he] at e; cases e
              rw [← (h2 h).1]
              simp only [List.getD_eq_getElem?_getD, hp, hq, Option.getD_some]
              omega
            · exact (h2 h).2 j a' b' (by simp only at hj; omega) hjb e
          · (simp (disch := omega) only [StLe, tmLe, hpLe_refl, hpLe, bl, bb, bt, zDs, zD, eqCells, simprocAttr])
    · have hke : k = m := by omega
      subst hke
      ((refine ggb0 @Int.lt_irrefl ?_))
      refine ⟨(ag, f1, t2), ⟨hf1, fun h => ?_⟩, ?_, ?_⟩
      · simp only at h
        obtain ⟨e1, e2⟩ := h2 h
        rw [e1]; exact e2
      · cases ag
        · show 0 < f.sum + 1; omega
        · have := h1 rfl
          show f1.sum + 1 < f.sum + 1; omega
      · (simp (disch := omega) only [StLe, tmLe, hpLe_refl, hpLe, bl, bb, bt, zDs, zD, eqCells, simprocAttr])
  rintro tt -
  have hnl : (nl ((List.range n).map (lab (subL E m but)))).length = n := by simp [nl]
  ((refine gga0 ?_))
  ((repeat refine AW_seq ?_); (refine wta ?_); simp (disch := omega) only [retQ, resD, oneD, bb, bt, zDs, zD, eqCells, simprocAttr, Try.results46])
  exact rsv_ints rfl hnl.symm 0
end Go.Proofs.Ytalhegbjlfkipaa.T
