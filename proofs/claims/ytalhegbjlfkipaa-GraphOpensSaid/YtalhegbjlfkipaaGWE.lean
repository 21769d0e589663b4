import Derived.Test.YtalhegbjlfkipaaGWD
set_option linter.all false
namespace Go.Proofs.Ytalhegbjlfkipaa.T
open Go Go.RowKit Gr
set_option linter.unusedSimpArgs false

/-! What is read stays as it is. -/
mutual
def tidyD : D → Bool
  | .v _ => true
  | .sl _ cs full => !full && tidyL cs
  | .rp cs _ => tidyL cs
  | .own .. => false
  | .ptr .. => false
  | .agg cs => tidyL cs
  | .tup cs => tidyL cs
  | .fn _ cs => tidyL cs
  | .mp .. => false
  | .any => true
def tidyL : List D → Bool
  | [] => true
  | d :: ds => tidyD d && tidyL ds
end
mutual
theorem rs_tidy (R : D → D) (H : Hp) : ∀ d : D, tidyD d = true → rs R H d = d
  | .v x, _ => by simp only [rs]
  | .sl sz cs full, h => by simp only [tidyD, Bool.and_eq_true, Bool.not_eq_true'] at h; simp only [rs, rsL_tidy R H cs h.2, h.1]
  | .rp cs o, h => by simp only [tidyD] at h; simp only [rs, rsL_tidy R H cs h]
  | .own .., h => by simp [tidyD] at h
  | .ptr .., h => by simp [tidyD] at h
  | .agg cs, h => by simp only [tidyD] at h; simp only [rs, rsL_tidy R H cs h]
  | .tup cs, h => by simp only [tidyD] at h; simp only [rs, rsL_tidy R H cs h]
  | .fn f cs, h => by simp only [tidyD] at h; simp only [rs, rsL_tidy R H cs h]
  | .mp .., h => by simp [tidyD] at h
  | .any, _ => by simp only [rs]
theorem rsL_tidy (R : D → D) (H : Hp) : ∀ ds : List D, tidyL ds = true → rsL R H ds = ds
  | [], _ => by simp only [rsL]
  | d :: ds, h => by
    simp only [tidyL, Bool.and_eq_true] at h
    simp only [rsL, rs_tidy R H d h.1, rsL_tidy R H ds h.2]
end
theorem rsv_tidy (H : Hp) (k : Nat) {d : D} (h : tidyD d = true) : rsv H (k + 1) d = d := rs_tidy _ H d h
theorem tidyL_app : ∀ (a b : List D), tidyL (a ++ b) = (tidyL a && tidyL b)
  | [], b => by simp [tidyL]
  | d :: a, b => by simp [tidyL, tidyL_app a b, Bool.and_assoc]
theorem tidyL_all : ∀ {l : List D}, (∀ d ∈ l, tidyD d = true) → tidyL l = true
  | [], _ => rfl
  | d :: l, h => by simp only [tidyL, Bool.and_eq_true]; exact ⟨h d (by simp), tidyL_all fun x hx => h x (by simp [hx])⟩
theorem tidy_ints (l : List Int) : tidyL (l.map int) = true := tidyL_all fun d hd => by obtain ⟨x, _, rfl⟩ := List.mem_map.1 hd; rfl
theorem tidy_mat (m : List (List Int)) : tidyD (mat m) = true := by
  simp only [tidyD, Bool.not_false, Bool.true_and]
  exact tidyL_all fun d hd => by obtain ⟨x, _, rfl⟩ := List.mem_map.1 hd; simp only [tidyD, Bool.not_false, Bool.true_and, tidy_ints]

/-! Graphs: the reference's forest, parts, bridges. -/
theorem rsv_mat {H : Hp} {b g n : Nat} {ty : TypeId} {m : List (List Int)} (hb : H[b]? = some (some ⟨ty, g, m.map ints⟩)) (hn : n = m.length) (k : Nat) : rsv H (k + 2) (.own 1 b g 0 n) = mat m := by
  subst hn
  simp only [rsv, rs, hb]
  rw [if_pos (by simp), List.drop_zero, Nat.mul_one, List.take_of_length_le (by simp)]
  congr 1
  rw [List.map_map]
  exact List.map_congr_left fun x _ => rs_tidy _ _ (ints x) (by simp only [tidyD, Bool.not_false, Bool.true_and, tidy_ints])
theorem lab_adj {L L' : List (Nat × Nat)} (h : ∀ u v, Adj L u v ↔ Adj L' u v) (x : Nat) : lab L x = lab L' x :=
  lab_congr (fun u v => ⟨fun k => k.sub fun a b e => .adj ((h a b).1 e), fun k => k.sub fun a b e => .adj ((h a b).2 e)⟩) x
theorem adj_takeO {n : Nat} {E : List (Nat × Nat)} (ho : Ok n E) (m u v : Nat) : Adj (E.take m) u v ↔ ∃ k : Nat, k < m ∧ oth E k u = some v := by
  rw [adj_all (ho.take m)]
  have key : ∀ k, oth (E.take m) k u = some v ↔ k < m ∧ oth E k u = some v := fun k => by
    unfold oth
    rw [List.getElem?_take]
    by_cases h : k < m <;> simp [h]
  simp only [key]
theorem lab_subT {n : Nat} {E : List (Nat × Nat)} (ho : Ok n E) (m x : Nat) : lab (subL E m (-1)) x = lab (E.take m) x :=
  lab_adj (fun u v => by
    rw [adj_subL ho, adj_takeO ho]
    exact ⟨fun ⟨k, h1, _, h3⟩ => ⟨k, h1, h3⟩, fun ⟨k, h1, h3⟩ => ⟨k, h1, by omega, h3⟩⟩) x
theorem lab_subE {n : Nat} {E : List (Nat × Nat)} (ho : Ok n E) (i x : Nat) : lab (subL E E.length i) x = lab (E.eraseIdx i) x :=
  lab_adj (fun u v => by
    rw [adj_subL ho, adj_erase ho]
    exact ⟨fun ⟨k, _, h2, h3⟩ => ⟨k, by omega, h3⟩, fun ⟨k, h1, h3⟩ => ⟨k, oth_idx h3, by omega, h3⟩⟩) x
theorem lab_get {n a : Nat} (f : Nat → Nat) (h : a < n) : (nl ((List.range n).map f))[a]? = some ((f a : Nat) : Int) := nl_get (by simp [h])
theorem bneN (p q : Nat) : ((p : Int) != (q : Int)) = (p != q) := by
  rw [Bool.eq_iff_iff]; simp; omega
theorem beqN (p q : Nat) : ((p : Int) == (q : Int)) = (p == q) := by
  rw [Bool.eq_iff_iff]; simp; omega
theorem filt_step (p : Nat → Bool) (k : Nat) : (List.range (k + 1)).filter p = if p k then (List.range k).filter p ++ [k] else (List.range k).filter p := by
  rw [List.range_succ, List.filter_append]
  cases h : p k <;> simp [h]
theorem filt_len (p : Nat → Bool) (k : Nat) : ((List.range k).filter p).length ≤ k := Nat.le_trans (List.length_filter_le _ _) (by simp)
theorem inForestR (n : Nat) (E : List (Nat × Nat)) (ho : Ok n E) (hn : n ≤ 1000) (hE : E.length ≤ 4000) (i : Nat) (hi : i < E.length) :
    PRet Try.prog 51 [int n, eds (edN E), int i] (bool (inF E i)) := by
  refine PRet.intro 1 fun t => ACall.enter tab_ok Try.func51 rfl rfl Try.ntmps51 (by simp) ?_
  simp only [enterTM]
  obtain ⟨⟨a, b⟩, he⟩ : ∃ e, E[i]? = some e := ⟨_, List.getElem?_eq_getElem hi⟩
  obtain ⟨ha, hb, hab⟩ := ho.get he
  have hL := labelsR n E ho hn hE i (by omega) (-1)
  rw [show lab (subL E i (-1)) = lab (E.take i) from funext (lab_subT ho i)] at hL
  have hen := edN_get he
  have g0 := edC_0 hen
  have g1 := edC_1 hen
  simp only at g0 g1
  have l0 := lab_get (lab (E.take i)) ha
  have l1 := lab_get (lab (E.take i)) hb
  have hln : (nl ((List.range n).map (lab (E.take i)))).length = n := by simp [nl]
  have hr2 : i * 2 < E.length * 2 := by omega
  have hres := bneN (lab (E.take i) a) (lab (E.take i) b)
  rw [inF_eq he]
  ((refine gga1 hL ?_))
  ((repeat refine AW_seq ?_); (refine gdzb (F := _∧_∧_∧_∧_∧_∧_∧_∧_∧_∧_) ⟨hr2, edC_len, edN_len, g0, g1, l0, l1, hln, ha, hb, hres⟩ ?_))
  ((repeat refine AW_seq ?_); (refine wta ?_); simp (disch := omega) only [retQ, resD, oneD, rsv, rs, rsL, rsL_eq_map, List.map_map, bb, bt, zDs, zD, eqCells, simprocAttr, Try.results51])
theorem forestR (n : Nat) (E : List (Nat × Nat)) (ho : Ok n E) (hn : n ≤ 1000) (hE : E.length ≤ 4000) :
    PRet Try.prog 22 [int n, eds (edN E)] (ints (nl ((List.range E.length).filter (inF E)))) := by
  refine PRet.intro 2 fun t => ACall.enter tab_ok Try.func22 rfl rfl Try.ntmps22 (by simp) ?_
  simp only [enterTM]
  have hed := edN_len E
  ((refine wqa ?_))
  ((refine wqa ?_))
  ((repeat refine AW_seq ?_))
  refine AW.begin 5 1 3 rfl (by decide) ?_
  simp only [putTM, List.length_cons, List.length_nil, Nat.reduceEqDiff, ↓reduceIte, List.cons_append, List.nil_append]
  ((refine wqa ?_))
  ((repeat refine AW_seq ?_))
  refine AW_mid (fun x : Nat × Nat => ⟨[(5, .own 1 0 x.1 0 ((List.range E.length).filter (inF E)).length)], [some ⟨3, x.1, nD ((List.range E.length).filter (inF E))⟩], x.2⟩) (fun _ => True) ?_ ?_
  · refine AW_block ?_
    refine AW_loop_w (fun x : Nat × Nat × Nat => ⟨[(0, int n), (1, eds (edN E)), (6, int x.1), (5, .own 1 0 x.2.1 0 ((List.range x.1).filter (inF E)).length)], [some ⟨3, x.2.1, nD ((List.range x.1).filter (inF E))⟩], x.2.2⟩) (fun x => E.length - x.1) (fun x => x.1 ≤ E.length) (0, t + 1, t + 1) (Nat.zero_le _) (by (simp (disch := omega) only [StLe, tmLe, hpLe_refl, hpLe, bl, bb, bt, zDs, zD, eqCells, simprocAttr, List.range_zero, List.filter_nil, List.length_nil, nD, nl, List.map_nil])) ?_
    rintro ⟨k, g, tt⟩ hk
    simp only at hk
    by_cases hlt : k < E.length
    · have hst := filt_step (inF E) k
      have hle := filt_len (inF E) k
      have hnl := nD_len ((List.range k).filter (inF E))
      have hap := nD_app ((List.range k).filter (inF E)) k
      have hdiv : (edC (edN E)).length / 2 = E.length := by rw [edC_div, edN_len]
      obtain ⟨⟨a, b⟩, he⟩ : ∃ e, E[k]? = some e := ⟨_, List.getElem?_eq_getElem hlt⟩
      obtain ⟨ha, hb, hab⟩ := ho.get he
      generalize (List.range k).filter (inF E) = L at *
      ((refine ggb0 (F := _∧_∧_) ⟨@Int.ofNat_lt, hlt, hdiv⟩ ?_))
      ((repeat refine AW_seq ?_))
      refine AW_block ?_
      have hI := inForestR n E ho hn hE k hlt
      cases hf : inF E k
      · rw [hf, if_neg (by simp)] at hst
        ((refine ggb1 hf hI ?_))
        refine ⟨(k + 1, g, tt), hlt, by show E.length - (k + 1) < E.length - k; omega, ?_⟩
        simp only [hst]
        (simp (disch := omega) only [StLe, tmLe, hpLe_refl, hpLe, bl, bb, bt, zDs, zD, eqCells, simprocAttr])
      · rw [hf, if_pos rfl] at hst
        ((refine ggb1 (F := _∧_) ⟨hf, hnl⟩ hI ?_))
        refine ⟨(k + 1, tt + 1, tt + 1), hlt, by show E.length - (k + 1) < E.length - k; omega, ?_⟩
        simp only [hst, ← hap, List.length_append, List.length_cons, List.length_nil]
        (simp (disch := omega) only [StLe, tmLe, hpLe_refl, hpLe, bl, bb, bt, zDs, zD, eqCells, simprocAttr])
    · have hke : k = E.length := by omega
      subst hke
      have hdiv : (edC (edN E)).length / 2 = E.length := by rw [edC_div, edN_len]
      ((refine ggb0 (F := _∧_) ⟨@Int.lt_irrefl, hdiv⟩ ?_))
      exact ⟨(g, tt), trivial, by (simp (disch := omega) only [StLe, tmLe, hpLe_refl, hpLe, bl, bb, bt, zDs, zD, eqCells, simprocAttr])⟩
  rintro ⟨g, tt⟩ -
  ((refine gga0 ?_))
  ((repeat refine AW_seq ?_); (refine wta ?_); simp (disch := omega) only [retQ, resD, oneD, bb, bt, zDs, zD, eqCells, simprocAttr, Try.results22])
  exact rsv_ints rfl (nl_len _).symm 0
theorem bridgesR (n : Nat) (E : List (Nat × Nat)) (ho : Ok n E) (hn : n ≤ 1000) (hE : E.length ≤ 4000) :
    PRet Try.prog 16 [int n, eds (edN E)] (ints (nl ((List.range E.length).filter (bridgeP E)))) := by
  refine PRet.intro 2 fun t => ACall.enter tab_ok Try.func16 rfl rfl Try.ntmps16 (by simp) ?_
  simp only [enterTM]
  have hed := edN_len E
  ((refine wqa ?_))
  ((refine wqa ?_))
  ((repeat refine AW_seq ?_))
  refine AW.begin 5 1 3 rfl (by decide) ?_
  simp only [putTM, List.length_cons, List.length_nil, Nat.reduceEqDiff, ↓reduceIte, List.cons_append, List.nil_append]
  ((refine wqa ?_))
  ((repeat refine AW_seq ?_))
  refine AW_mid (fun x : Nat × Nat => ⟨[(5, .own 1 0 x.1 0 ((List.range E.length).filter (bridgeP E)).length)], [some ⟨3, x.1, nD ((List.range E.length).filter (bridgeP E))⟩], x.2⟩) (fun _ => True) ?_ ?_
  · refine AW_block ?_
    refine AW_loop_w (fun x : Nat × Nat × Nat => ⟨[(0, int n), (1, eds (edN E)), (6, int x.1), (5, .own 1 0 x.2.1 0 ((List.range x.1).filter (bridgeP E)).length)], [some ⟨3, x.2.1, nD ((List.range x.1).filter (bridgeP E))⟩], x.2.2⟩) (fun x => E.length - x.1) (fun x => x.1 ≤ E.length) (0, t + 1, t + 1) (Nat.zero_le _) (by (simp (disch := omega) only [StLe, tmLe, hpLe_refl, hpLe, bl, bb, bt, zDs, zD, eqCells, simprocAttr, List.range_zero, List.filter_nil, List.length_nil, nD, nl, List.map_nil])) ?_
    rintro ⟨k, g, tt⟩ hk
    simp only at hk
    by_cases hlt : k < E.length
    · have hst := filt_step (bridgeP E) k
      have hle := filt_len (bridgeP E) k
      have hnl := nD_len ((List.range k).filter (bridgeP E))
      have hap := nD_app ((List.range k).filter (bridgeP E)) k
      have hdiv : (edC (edN E)).length / 2 = E.length := by rw [edC_div, edN_len]
      obtain ⟨⟨a, b⟩, he⟩ : ∃ e, E[k]? = some e := ⟨_, List.getElem?_eq_getElem hlt⟩
      obtain ⟨ha, hb, hab⟩ := ho.get he
      generalize (List.range k).filter (bridgeP E) = L at *
      ((refine ggb0 (F := _∧_∧_) ⟨@Int.ofNat_lt, hlt, hdiv⟩ ?_))
      ((repeat refine AW_seq ?_))
      refine AW_block ?_
      have hL := labelsR n E ho hn hE E.length (Nat.le_refl _) k
      rw [show lab (subL E E.length k) = lab (E.eraseIdx k) from funext (lab_subE ho k)] at hL
      have hen := edN_get he
      have g0 := edC_0 hen
      have g1 := edC_1 hen
      simp only at g0 g1
      have l0 := lab_get (lab (E.eraseIdx k)) ha
      have l1 := lab_get (lab (E.eraseIdx k)) hb
      have hln : (nl ((List.range n).map (lab (E.eraseIdx k)))).length = n := by simp [nl]
      have hr2 : k * 2 < E.length * 2 := by omega
      have hres := bneN (lab (E.eraseIdx k) a) (lab (E.eraseIdx k) b)
      have hbp : bridgeP E k = (lab (E.eraseIdx k) a != lab (E.eraseIdx k) b) := by unfold bridgeP; rw [he]
      rw [← hbp] at hres
      ((refine ggb1 hdiv hL ?_))
      ((repeat refine AW_seq ?_); (refine gdzb (F := _∧_∧_∧_∧_∧_∧_∧_∧_∧_∧_) ⟨hr2, edC_len, edN_len, g0, g1, l0, l1, hln, ha, hb, hres⟩ ?_))
      cases hf : bridgeP E k
      · rw [hf, if_neg (by simp)] at hst
        ((refine ggb0 hf ?_))
        refine ⟨(k + 1, g, tt + 1), hlt, by show E.length - (k + 1) < E.length - k; omega, ?_⟩
        simp only [hst]
        (simp (disch := omega) only [StLe, tmLe, hpLe_refl, hpLe, bl, bb, bt, zDs, zD, eqCells, simprocAttr])
      · rw [hf, if_pos rfl] at hst
        ((refine ggb0 (F := _∧_) ⟨hf, hnl⟩ ?_))
        refine ⟨(k + 1, tt + 1 + 1, tt + 1 + 1), hlt, by show E.length - (k + 1) < E.length - k; omega, ?_⟩
        simp only [hst, ← hap, List.length_append, List.length_cons, List.length_nil]
        (simp (disch := omega) only [StLe, tmLe, hpLe_refl, hpLe, bl, bb, bt, zDs, zD, eqCells, simprocAttr])
    · have hke : k = E.length := by omega
      subst hke
      have hdiv : (edC (edN E)).length / 2 = E.length := by rw [edC_div, edN_len]
      ((refine ggb0 (F := _∧_) ⟨@Int.lt_irrefl, hdiv⟩ ?_))
      exact ⟨(g, tt), trivial, by (simp (disch := omega) only [StLe, tmLe, hpLe_refl, hpLe, bl, bb, bt, zDs, zD, eqCells, simprocAttr])⟩
  rintro ⟨g, tt⟩ -
  ((refine gga0 ?_))
  ((repeat refine AW_seq ?_); (refine wta ?_); simp (disch := omega) only [retQ, resD, oneD, bb, bt, zDs, zD, eqCells, simprocAttr, Try.results16])
  exact rsv_ints rfl (nl_len _).symm 0
end Go.Proofs.Ytalhegbjlfkipaa.T
