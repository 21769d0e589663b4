import Derived.Test.YtalhegbjlfkipaaGWE
set_option linter.all false
namespace Go.Proofs.Ytalhegbjlfkipaa.T
open Go Go.RowKit Gr
set_option linter.unusedSimpArgs false

/-! Graphs: the reference's parts, distances. -/
noncomputable def partsK (n : Nat) (E : List (Nat × Nat)) (k : Nat) : List (List Int) := ((List.range k).filter fun x => lab E x == x).map fun r => nl ((List.range n).filter fun y => lab E y == r)
theorem partsK_end (n : Nat) (E : List (Nat × Nat)) : partsK n E n = (partsP n E).map nl := by
  unfold partsK partsP roots
  rw [List.map_map]; rfl
theorem partsK_step (n : Nat) (E : List (Nat × Nat)) (k : Nat) : partsK n E (k + 1) = if lab E k == k then partsK n E k ++ [nl ((List.range n).filter fun y => lab E y == k)] else partsK n E k := by
  unfold partsK
  rw [filt_step]
  split <;> simp
theorem partsK_len (n : Nat) (E : List (Nat × Nat)) (k : Nat) : (partsK n E k).length ≤ k := by
  unfold partsK
  rw [List.length_map]
  exact filt_len _ k
set_option maxHeartbeats 1000000 in
theorem partsR (n : Nat) (E : List (Nat × Nat)) (ho : Ok n E) (hn : n ≤ 1000) (hE : E.length ≤ 4000) :
    PRet Try.prog 21 [int n, eds (edN E)] (mat ((partsP n E).map nl)) := by
  refine PRet.intro 2 fun t => ACall.enter tab_ok Try.func21 rfl rfl Try.ntmps21 (by simp) ?_
  simp only [enterTM]
  have hdiv : (edC (edN E)).length / 2 = E.length := by rw [edC_div, edN_len]
  have hL := labelsR n E ho hn hE E.length (Nat.le_refl _) (-1)
  rw [show lab (subL E E.length (-1)) = lab E from funext fun x => by rw [lab_subT ho, List.take_length]] at hL
  have hln : (nl ((List.range n).map (lab E))).length = n := by simp [nl]
  rw [← partsK_end]
  ((refine wqa ?_))
  ((repeat refine AW_seq ?_); (refine AW_region_k tab_ok fun KR hKR => ?_)); ((refine wrb hdiv ?_))
  ((refine wka1 hL ?_))
  ((refine wra ?_)); ((refine wea ?_); (try clear hKR KR))
  ((refine wqa ?_))
  ((repeat refine AW_seq ?_))
  refine AW.begin 6 1 25 rfl (by decide) ?_
  simp only [putTM, List.length_cons, List.length_nil, Nat.reduceEqDiff, ↓reduceIte, List.cons_append, List.nil_append]
  ((refine wqa ?_))
  ((repeat refine AW_seq ?_))
  refine AW_mid (fun x : Nat × Nat => ⟨[(6, .own 1 0 x.1 0 (partsK n E n).length)], [some ⟨25, x.1, (partsK n E n).map ints⟩], x.2⟩) (fun _ => True) ?_ ?_
  · refine AW_block ?_
    refine AW_loop_w (fun x : Nat × Nat × Nat => ⟨[(0, int n), (5, ints (nl ((List.range n).map (lab E)))), (7, int x.1), (6, .own 1 0 x.2.1 0 (partsK n E x.1).length)], [some ⟨25, x.2.1, (partsK n E x.1).map ints⟩], x.2.2⟩) (fun x => n - x.1) (fun x => x.1 ≤ n) (0, t + 1, t + 1) (Nat.zero_le _) (by (simp (disch := omega) only [StLe, tmLe, hpLe_refl, hpLe, bl, bb, bt, zDs, zD, eqCells, simprocAttr, partsK, List.range_zero, List.filter_nil, List.length_nil, List.map_nil])) ?_
    rintro ⟨i, g, tt⟩ hi
    simp only at hi
    by_cases hlt : i < n
    · have hst := partsK_step n E i
      have hle := partsK_len n E i
      have l0 := lab_get (lab E) hlt
      generalize hPK : partsK n E i = PK at *
      ((refine ggb0 (F := _∧_) ⟨@Int.ofNat_lt, hlt⟩ ?_))
      ((repeat refine AW_seq ?_))
      refine AW_block ?_
      by_cases hr : lab E i = i
      rotate_left 1
      · have e1 : ((lab E i : Int) != (i : Int)) = true := by rw [bneN]; simpa using hr
        rw [if_neg (by simpa using hr)] at hst
        ((refine ggb0 (F := _∧_∧_∧_) ⟨hlt, l0, hln, e1⟩ ?_))
        refine ⟨(i + 1, g, tt), hlt, by show n - (i + 1) < n - i; omega, ?_⟩
        simp only [hst]
        (simp (disch := omega) only [StLe, tmLe, hpLe_refl, hpLe, bl, bb, bt, zDs, zD, eqCells, simprocAttr])
      have e1 : ((lab E i : Int) != (i : Int)) = false := by rw [bneN]; simpa using hr
      rw [if_pos (by simpa using hr)] at hst
      ((refine wqb (F := _∧_∧_∧_) ⟨hlt, l0, hln, e1⟩ ?_))
      ((refine wia ?_))
      ((refine wsa ?_))
      ((refine wqa ?_))
      ((repeat refine AW_seq ?_))
      refine AW.begin 8 1 3 rfl (by decide) ?_
      simp only [putTM, List.length_cons, List.length_nil, Nat.reduceEqDiff, ↓reduceIte, List.cons_append, List.nil_append]
      ((refine wqa ?_))
      ((repeat refine AW_seq ?_))
      have hz : (List.range i).filter (fun y => lab E y == i) = [] := List.filter_eq_nil_iff.2 fun y hy => by
        have := lab_self E y
        simp only [List.mem_range] at hy
        simp only [beq_iff_eq]; omega
      refine AW_mid (fun x : Nat × Nat => ⟨[(0, int n), (5, ints (nl ((List.range n).map (lab E)))), (7, int i), (6, .own 1 0 g 0 PK.length), (8, .own 1 1 x.1 0 ((List.range n).filter (fun y => lab E y == i)).length)], [some ⟨25, g, PK.map ints⟩, some ⟨3, x.1, nD ((List.range n).filter (fun y => lab E y == i))⟩], x.2⟩) (fun _ => True) ?_ ?_
      · refine AW_block ?_
        refine AW_loop_w (fun x : Nat × Nat × Nat => ⟨[(0, int n), (5, ints (nl ((List.range n).map (lab E)))), (7, int i), (9, int x.1), (6, .own 1 0 g 0 PK.length), (8, .own 1 1 x.2.1 0 ((List.range x.1).filter (fun y => lab E y == i)).length)], [some ⟨25, g, PK.map ints⟩, some ⟨3, x.2.1, nD ((List.range x.1).filter (fun y => lab E y == i))⟩], x.2.2⟩) (fun x => n - x.1) (fun x => x.1 ≤ n) (i, tt + 1, tt + 1) hi (by (simp (disch := omega) only [StLe, tmLe, hpLe_refl, hpLe, bl, bb, bt, zDs, zD, eqCells, simprocAttr, hz, List.length_nil, nD, nl, List.map_nil])) ?_
        rintro ⟨k, g2, t2⟩ hk
        simp only at hk
        by_cases hkt : k < n
        · have hst2 := filt_step (fun y => lab E y == i) k
          have hle2 := filt_len (fun y => lab E y == i) k
          have hnl := nD_len ((List.range k).filter (fun y => lab E y == i))
          have hap := nD_app ((List.range k).filter (fun y => lab E y == i)) k
          have l1 := lab_get (lab E) hkt
          have hres := beqN (lab E k) i
          generalize (List.range k).filter (fun y => lab E y == i) = L at *
          ((refine ggb0 (F := _∧_) ⟨@Int.ofNat_lt, hkt⟩ ?_))
          ((repeat refine AW_seq ?_))
          refine AW_block ?_
          cases hf : (lab E k == i)
          · rw [hf, if_neg (by simp)] at hst2
            ((refine ggb0 (F := _∧_∧_∧_∧_) ⟨hkt, l1, hln, hres, hf⟩ ?_))
            refine ⟨(k + 1, g2, t2), hkt, by show n - (k + 1) < n - k; omega, ?_⟩
            simp only [hst2]
            (simp (disch := omega) only [StLe, tmLe, hpLe_refl, hpLe, bl, bb, bt, zDs, zD, eqCells, simprocAttr])
          · rw [hf, if_pos rfl] at hst2
            ((refine ggb0 (F := _∧_∧_∧_∧_∧_) ⟨hkt, l1, hln, hres, hf, hnl⟩ ?_))
            refine ⟨(k + 1, t2 + 1, t2 + 1), hkt, by show n - (k + 1) < n - k; omega, ?_⟩
            simp only [hst2, ← hap, List.length_append, List.length_cons, List.length_nil]
            (simp (disch := omega) only [StLe, tmLe, hpLe_refl, hpLe, bl, bb, bt, zDs, zD, eqCells, simprocAttr])
        · have hke : k = n := by omega
          subst hke
          ((refine ggb0 @Int.lt_irrefl ?_))
          exact ⟨(g2, t2), trivial, by (simp (disch := omega) only [StLe, tmLe, hpLe_refl, hpLe, bl, bb, bt, zDs, zD, eqCells, simprocAttr])⟩
      rintro ⟨g2, t2⟩ -
      have hnl := nD_len ((List.range n).filter (fun y => lab E y == i))
      have hfin : List.take ((List.range n).filter (fun y => lab E y == i)).length (nD ((List.range n).filter (fun y => lab E y == i))) = (nl ((List.range n).filter (fun y => lab E y == i))).map int := List.take_of_length_le (by rw [hnl]; exact Nat.le_refl _)
      generalize (List.range n).filter (fun y => lab E y == i) = L at *
      ((refine AW.freeze (1) (by first | rfl | (simp only [setH, List.getElem?_cons_zero, List.getElem?_cons_succ, fzL_ints, fzL_mat, hnl, hfin, Nat.le_refl]; done)) ?_); simp (disch := omega) only [fzT, fz, fzL, fzL_ints, fzL_mat, fzH, fzB, eq_self, bb, bt, zDs, zD, eqCells, simprocAttr, fzL_ints, fzL_mat, hnl, hfin, Nat.le_refl])
      ((refine gga0 ?_))
      refine ⟨(i + 1, t2 + 1, t2 + 1), hlt, by show n - (i + 1) < n - i; omega, ?_⟩
      simp only [hst, List.length_append, List.length_cons, List.length_nil, List.map_append, List.map_cons, List.map_nil]
      (simp (disch := omega) only [StLe, tmLe, hpLe_refl, hpLe, bl, bb, bt, zDs, zD, eqCells, simprocAttr])
    · have hke : i = n := by omega
      subst hke
      ((refine ggb0 @Int.lt_irrefl ?_))
      exact ⟨(g, tt), trivial, by (simp (disch := omega) only [StLe, tmLe, hpLe_refl, hpLe, bl, bb, bt, zDs, zD, eqCells, simprocAttr])⟩
  rintro ⟨g, tt⟩ -
  ((refine gga0 ?_))
  ((repeat refine AW_seq ?_); (refine wta ?_); simp (disch := omega) only [retQ, resD, oneD, bb, bt, zDs, zD, eqCells, simprocAttr, Try.results21])
  exact rsv_mat rfl rfl 0

/-! Distances. -/
def iD (l : List Int) : List D := l.map int
theorem iD_len (l : List Int) : (iD l).length = l.length := by simp [iD]
theorem iD_get {l : List Int} {i : Nat} {k : Int} (h : l[i]? = some k) : (iD l)[i]? = some (int k) := by simp [iD, h]
theorem iD_set (l : List Int) (i : Nat) (k : Int) : (iD l).set i (int k) = iD (l.set i k) := by simp [iD, List.map_set]
theorem iD_app (l : List Int) (k : Int) : iD l ++ [int k] = iD (l ++ [k]) := by simp [iD]
theorem iD_zeros (n : Nat) : (List.replicate n [D.v (Value.int IntKind.i64 0)]).flatten = iD (List.replicate n 0) := by
  induction n with
  | zero => rfl
  | succ n ih => rw [List.replicate_succ, List.replicate_succ, List.flatten_cons, ih]; rfl
/-- A list as a function. -/
def fI (f : List Int) (x : Nat) : Int := f.getD x (-1)
theorem fI_get {f : List Int} {x : Nat} (h : x < f.length) : f[x]? = some (fI f x) := by
  unfold fI; simp [List.getD_eq_getElem?_getD, h]
theorem fI_set (f : List Int) {v : Nat} (w : Int) (h : v < f.length) : fI (f.set v w) = fun x => if x = v then w else fI f x := funext fun x => by
  unfold fI
  simp only [List.getD_eq_getElem?_getD, List.getElem?_set]
  by_cases e : x = v
  · subst e; simp [h]
  · rw [if_neg (fun e' => e e'.symm), if_neg e]
theorem fI_ext {f : List Int} {n : Nat} {g : Nat → Int} (hl : f.length = n) (h : ∀ x, x < n → fI f x = g x) : f = (List.range n).map g := by
  refine List.ext_getElem? fun k => ?_
  by_cases hk : k < n
  · rw [fI_get (by omega), List.getElem?_map, List.getElem?_range hk, h k hk]; rfl
  · rw [List.getElem?_eq_none (by omega), List.getElem?_eq_none (by simp; omega)]
theorem far_get {n a : Nat} (f : Nat → Int) (h : a < n) : ((List.range n).map f)[a]? = some (f a) := by simp [h]
theorem frWeak {n : Nat} {L : List (Nat × Nat)} {b d : Nat} {f : Nat → Int} {S S' : Nat → Nat → Prop} (h : FR n L b f d S) (hs : ∀ x y, S' x y → S x y) : FR n L b f d S' :=
  { h with seen := fun x y k => h.seen x y (hs x y k) }
def fillN (k n : Nat) : List Int := List.replicate k (-1) ++ List.replicate (n - k) 0
theorem fillN_len {k n : Nat} (h : k ≤ n) : (fillN k n).length = n := by simp [fillN]; omega
theorem fillN_set {k n : Nat} (h : k < n) : (fillN k n).set k (-1) = fillN (k + 1) n := by
  unfold fillN
  obtain ⟨m, hm⟩ : ∃ m, n - k = m + 1 := ⟨n - k - 1, by omega⟩
  have : n - (k + 1) = m := by omega
  rw [hm, this, List.replicate_succ, List.set_append_right _ _ (by simp)]
  simp [List.replicate_succ']
def seenE (E : List (Nat × Nat)) (q : List Nat) (k : Nat) (x y : Nat) : Prop := ∃ j, j < k ∧ ∃ e, q[j]? = some e ∧ (E[e]? = some (x, y) ∨ E[e]? = some (y, x))
theorem seenE_step {E : List (Nat × Nat)} {q : List Nat} {k e a b : Nat} (hq : q[k]? = some e) (he : E[e]? = some (a, b)) (x y : Nat) (h : seenE E q (k + 1) x y) : (seenE E q k x y ∨ (x = a ∧ y = b)) ∨ (x = b ∧ y = a) := by
  obtain ⟨j, hj, e', hq', h⟩ := h
  by_cases hjk : j = k
  · subst hjk
    rw [hq] at hq'; cases hq'
    rw [he] at h
    rcases h with h | h <;> cases h
    · exact .inl (.inr ⟨rfl, rfl⟩)
    · exact .inr ⟨rfl, rfl⟩
  · exact .inl (.inl ⟨j, by omega, e', hq', h⟩)
theorem seenE_all {n : Nat} {E : List (Nat × Nat)} (_ho : Ok n E) {q : List Nat} {x y : Nat} (h : Adj (sub E q) x y) : seenE E q q.length x y := by
  obtain ⟨k, hk, e⟩ := (adj_sub _ho x y).1 h
  obtain ⟨j, hj⟩ := List.getElem?_of_mem hk
  exact ⟨j, (List.getElem?_eq_some_iff.1 hj).1, k, hj, oth_some e⟩
set_option maxHeartbeats 2000000 in
theorem farR (n : Nat) (E : List (Nat × Nat)) (ho : Ok n E) (hn : n ≤ 1000) (hE : E.length ≤ 4000) (q : List Nat) (hq : ∀ k ∈ q, k < E.length) (hql : q.length ≤ 4000) (b : Nat) (hb : b < n) :
    PRet Try.prog 59 [int n, eds (edN E), ints (nl q), int b] (ints ((List.range n).map (dist (sub E q) b))) := by
  refine PRet.intro 2 fun t => ACall.enter tab_ok Try.func59 rfl rfl Try.ntmps59 (by simp) ?_
  simp only [enterTM]
  have hoq := ho.sub q
  have hz := iD_zeros n
  ((refine wqa ?_))
  ((refine wqb hz ?_))
  ((refine wqa ?_))
  ((repeat refine AW_seq ?_))
  refine AW_mid (fun x : Nat => ⟨[(0, int n), (1, eds (edN E)), (2, ints (nl q)), (3, int b), (9, .own 1 0 (t + 1) 0 n)], [some ⟨3, t + 1, iD (List.replicate n (-1))⟩], x⟩) (fun _ => True) ?_ ?_
  · refine AW_block ?_
    refine AW_loop_w (fun x : Nat × Nat => ⟨[(0, int n), (1, eds (edN E)), (2, ints (nl q)), (3, int b), (10, int x.1), (9, .own 1 0 (t + 1) 0 n)], [some ⟨3, t + 1, iD (fillN x.1 n)⟩], x.2⟩) (fun x => n - x.1) (fun x => x.1 ≤ n) (0, t + 1) (Nat.zero_le _) (by (simp (disch := omega) only [StLe, tmLe, hpLe_refl, hpLe, bl, bb, bt, zDs, zD, eqCells, simprocAttr, fillN, List.replicate_zero, List.nil_append, Nat.sub_zero])) ?_
    rintro ⟨k, tt⟩ hk
    simp only at hk
    by_cases hlt : k < n
    · have hnl : (iD (fillN k n)).length = n := by rw [iD_len, fillN_len hk]
      have hset : (iD (fillN k n)).set k (int (-1)) = iD (fillN (k + 1) n) := by rw [iD_set, fillN_set hlt]
      have hs := Nat.succ_le_of_lt hlt
      ((refine ggb0 (F := _∧_) ⟨@Int.ofNat_lt, hlt⟩ ?_))
      ((repeat refine AW_seq ?_))
      refine AW_block ?_
      ((refine ggb0 (F := _∧_∧_∧_) ⟨hlt, hnl, hset, hs⟩ ?_))
      refine ⟨(k + 1, tt), hlt, by show n - (k + 1) < n - k; omega, ?_⟩
      (simp (disch := omega) only [StLe, tmLe, hpLe_refl, hpLe, bl, bb, bt, zDs, zD, eqCells, simprocAttr])
    · have hke : k = n := by omega
      subst hke
      ((refine ggb0 @Int.lt_irrefl ?_))
      refine ⟨tt, trivial, ?_⟩
      have : fillN k k = List.replicate k (-1) := by unfold fillN; simp
      rw [this]
      (simp (disch := omega) only [StLe, tmLe, hpLe_refl, hpLe, bl, bb, bt, zDs, zD, eqCells, simprocAttr])
  rintro tt -
  have hnl : (iD (List.replicate n (-1 : Int))).length = n := by simp [iD]
  have hset := iD_set (List.replicate n (-1 : Int)) b 0
  have hs := Nat.succ_le_of_lt hb
  ((refine wqb (F := _∧_∧_∧_) ⟨hb, hnl, hset, hs⟩ ?_))
  ((refine wqa ?_))
  ((repeat refine AW_seq ?_))
  have h0 : FR n (sub E q) b (fI ((List.replicate n (-1 : Int)).set b 0)) 0 fun _ _ => False := by
    rw [fI_set _ _ (by simpa using hb)]
    have : (fun x => if x = b then (0 : Int) else fI (List.replicate n (-1)) x) = fun x => if x = b then 0 else -1 := funext fun x => by
      have : fI (List.replicate n (-1)) x = -1 := by unfold fI; simp only [List.getD_eq_getElem?_getD, List.getElem?_replicate]; split <;> rfl
      rw [this]
    rw [this]
    exact FR.start n _
  refine AW_mid (fun x : Nat => ⟨[(9, .own 1 0 (t + 1) 0 n)], [some ⟨3, t + 1, iD ((List.range n).map (dist (sub E q) b))⟩], x⟩) (fun _ => True) ?_ ?_
  · refine AW_block ?_
    refine AW_loop_w (fun x : Nat × List Int × Nat => ⟨[(0, int n), (1, eds (edN E)), (2, ints (nl q)), (11, int x.1), (9, .own 1 0 (t + 1) 0 n)], [some ⟨3, t + 1, iD x.2.1⟩], x.2.2⟩) (fun x => n - x.1) (fun x => x.1 ≤ n ∧ x.2.1.length = n ∧ FR n (sub E q) b (fI x.2.1) x.1 fun _ _ => False) (0, (List.replicate n (-1 : Int)).set b 0, tt) ⟨Nat.zero_le _, by simp, h0⟩ (by (simp (disch := omega) only [StLe, tmLe, hpLe_refl, hpLe, bl, bb, bt, zDs, zD, eqCells, simprocAttr])) ?_
    rintro ⟨d, f, t1⟩ ⟨hd, hfl, hf⟩
    simp only at hd hfl hf
    by_cases hdt : d < n
    · ((refine ggb0 (F := _∧_) ⟨@Int.ofNat_lt, hdt⟩ ?_))
      ((repeat refine AW_seq ?_))
      refine AW_block ?_
      ((refine wqa ?_))
      ((repeat refine AW_seq ?_))
      refine AW_block ?_
      refine AW_loop_w (fun x : Nat × List Int × Nat => ⟨[(0, int n), (1, eds (edN E)), (2, ints (nl q)), (11, int d), (12, int x.1), (9, .own 1 0 (t + 1) 0 n)], [some ⟨3, t + 1, iD x.2.1⟩], x.2.2⟩) (fun x => q.length - x.1) (fun x => x.1 ≤ q.length ∧ x.2.1.length = n ∧ FR n (sub E q) b (fI x.2.1) d (seenE E q x.1)) (0, f, t1) ⟨Nat.zero_le _, hfl, frWeak hf fun x y ⟨j, hj, _⟩ => absurd hj (Nat.not_lt_zero j)⟩ (by (simp (disch := omega) only [StLe, tmLe, hpLe_refl, hpLe, bl, bb, bt, zDs, zD, eqCells, simprocAttr])) ?_
      rintro ⟨k, f1, t2⟩ ⟨hk, hf1l, hf1⟩
      simp only at hk hf1l hf1
      by_cases hkt : k < q.length
      · obtain ⟨e, hqe⟩ : ∃ y, q[k]? = some y := ⟨_, List.getElem?_eq_getElem hkt⟩
        have heE := hq e (List.mem_of_getElem? hqe)
        obtain ⟨⟨a, c⟩, he⟩ : ∃ y, E[e]? = some y := ⟨_, List.getElem?_eq_getElem heE⟩
        obtain ⟨ha, hc, hac⟩ := ho.get he
        have hen := edN_get he
        have g0 := edC_0 hen
        have g1 := edC_1 hen
        simp only at g0 g1
        have hqn := nl_get hqe
        have hqnl := nl_len q
        have hr2 : e * 2 < E.length * 2 := by omega
        have hil := iD_len f1
        have da := iD_get (fI_get (f := f1) (x := a) (by omega))
        have dc := iD_get (fI_get (f := f1) (x := c) (by omega))
        have hadj : Adj (sub E q) a c := (adj_sub ho a c).2 ⟨e, List.mem_of_getElem? hqe, (oth_of ho he).1⟩
        have hsa : a + 1 ≤ n := ha
        have hsc : c + 1 ≤ n := hc
        ((refine ggb0 (F := _∧_∧_) ⟨@Int.ofNat_lt, hkt, hqnl⟩ ?_))
        ((repeat refine AW_seq ?_))
        refine AW_block ?_
        ((repeat refine AW_seq ?_); (refine gdzb (F := _∧_∧_∧_∧_∧_∧_∧_) ⟨hkt, hqn, hqnl, hr2, edC_len, edN_len, g0, g1⟩ ?_))
        -- the first direction
        have step1 : ∀ (f2 : List Int) (t3 : Nat), f2.length = n → FR n (sub E q) b (fI f2) d (fun x y => seenE E q k x y ∨ (x = a ∧ y = c)) → ∃ (f3 : List Int), f3.length = n ∧ FR n (sub E q) b (fI f3) d (seenE E q (k + 1)) ∧ f3 = (if fI f2 c = d ∧ fI f2 a < 0 then f2.set a ((d : Int) + 1) else f2) := fun f2 t3 hl h => by
          by_cases hcond : fI f2 c = d ∧ fI f2 a < 0
          · refine ⟨_, ?_, ?_, rfl⟩
            · rw [if_pos hcond, List.length_set]; exact hl
            · rw [if_pos hcond, fI_set _ _ (by omega)]
              exact frWeak (h.new hoq hadj.symm hcond.1 hcond.2) (seenE_step hqe he)
          · refine ⟨_, ?_, ?_, rfl⟩
            · rw [if_neg hcond]; exact hl
            · rw [if_neg hcond]
              exact frWeak (h.same hcond) (seenE_step hqe he)
        by_cases h1 : fI f1 a = d ∧ fI f1 c < 0
        · have e1 : (fI f1 a == (d : Int)) = true := by simp [h1.1]
          have e2 : decide (fI f1 c < 0) = true := by simp [h1.2]
          have hset := iD_set f1 c ((d : Int) + 1)
          have hfn := hf1.new hoq hadj h1.1 h1.2
          rw [← fI_set f1 ((d : Int) + 1) (by omega)] at hfn
          obtain ⟨f3, s1, s2, s3⟩ := step1 _ t2 (by simpa using hf1l) hfn
          have hc2 : fI (f1.set c ((d : Int) + 1)) c = (d : Int) + 1 := by rw [fI_set _ _ (by omega)]; simp
          rw [if_neg (by rw [hc2]; omega)] at s3
          subst s3
          have dc2 := iD_get (fI_get (f := f1.set c ((d : Int) + 1)) (x := c) (by simp; omega))
          rw [hc2] at dc2
          have e3 : ((d : Int) + 1 == (d : Int)) = false := by simp; omega
          ((refine ggb0 (F := _∧_∧_∧_∧_∧_∧_∧_∧_∧_∧_∧_) ⟨ha, hc, da, dc, e1, e2, hil, hf1l, hset, hsc, dc2, e3⟩ ?_))
          refine ⟨(k + 1, f1.set c ((d : Int) + 1), t2 + 1), ⟨hkt, s1, s2⟩, by show q.length - (k + 1) < q.length - k; omega, ?_⟩
          (simp (disch := omega) only [StLe, tmLe, hpLe_refl, hpLe, bl, bb, bt, zDs, zD, eqCells, simprocAttr])
        · have hfs := hf1.same h1
          obtain ⟨f3, s1, s2, s3⟩ := step1 f1 t2 hf1l hfs
          by_cases h2 : fI f1 c = d ∧ fI f1 a < 0
          · rw [if_pos h2] at s3
            subst s3
            have hset := iD_set f1 a ((d : Int) + 1)
            have e3 : (fI f1 c == (d : Int)) = true := by simp [h2.1]
            have e4 : decide (fI f1 a < 0) = true := by simp [h2.2]
            have e1 : (fI f1 a == (d : Int)) = false := by simp; omega
            ((refine ggb0 (F := _∧_∧_∧_∧_∧_∧_∧_∧_∧_∧_) ⟨ha, hc, da, dc, e1, e3, e4, hil, hf1l, hset, hsa⟩ ?_))
            refine ⟨(k + 1, f1.set a ((d : Int) + 1), t2 + 1), ⟨hkt, s1, s2⟩, by show q.length - (k + 1) < q.length - k; omega, ?_⟩
            (simp (disch := omega) only [StLe, tmLe, hpLe_refl, hpLe, bl, bb, bt, zDs, zD, eqCells, simprocAttr])
          · rw [if_neg h2] at s3
            subst s3
            cases e1 : (fI f3 a == (d : Int)) <;> cases e3 : (fI f3 c == (d : Int))
            · ((refine ggb0 (F := _∧_∧_∧_∧_∧_) ⟨ha, hc, da, dc, e1, e3⟩ ?_))
              refine ⟨(k + 1, f3, t2 + 1), ⟨hkt, s1, s2⟩, by show q.length - (k + 1) < q.length - k; omega, ?_⟩
              (simp (disch := omega) only [StLe, tmLe, hpLe_refl, hpLe, bl, bb, bt, zDs, zD, eqCells, simprocAttr])
            · have e4 : decide (fI f3 a < 0) = false := by
                simp only [beq_iff_eq] at e3
                simp only [decide_eq_false_iff_not]; omega
              ((refine ggb0 (F := _∧_∧_∧_∧_∧_∧_) ⟨ha, hc, da, dc, e1, e3, e4⟩ ?_))
              refine ⟨(k + 1, f3, t2 + 1), ⟨hkt, s1, s2⟩, by show q.length - (k + 1) < q.length - k; omega, ?_⟩
              (simp (disch := omega) only [StLe, tmLe, hpLe_refl, hpLe, bl, bb, bt, zDs, zD, eqCells, simprocAttr])
            · have e2 : decide (fI f3 c < 0) = false := by
                simp only [beq_iff_eq] at e1
                simp only [decide_eq_false_iff_not]; omega
              ((refine ggb0 (F := _∧_∧_∧_∧_∧_∧_) ⟨ha, hc, da, dc, e1, e2, e3⟩ ?_))
              refine ⟨(k + 1, f3, t2 + 1), ⟨hkt, s1, s2⟩, by show q.length - (k + 1) < q.length - k; omega, ?_⟩
              (simp (disch := omega) only [StLe, tmLe, hpLe_refl, hpLe, bl, bb, bt, zDs, zD, eqCells, simprocAttr])
            · have e4 : decide (fI f3 a < 0) = false := by
                simp only [beq_iff_eq] at e3
                simp only [decide_eq_false_iff_not]; omega
              have e2 : decide (fI f3 c < 0) = false := by
                simp only [beq_iff_eq] at e1
                simp only [decide_eq_false_iff_not]; omega
              ((refine ggb0 (F := _∧_∧_∧_∧_∧_∧_∧_) ⟨ha, hc, da, dc, e1, e2, e3, e4⟩ ?_))
              refine ⟨(k + 1, f3, t2 + 1), ⟨hkt, s1, s2⟩, by show q.length - (k + 1) < q.length - k; omega, ?_⟩
              (simp (disch := omega) only [StLe, tmLe, hpLe_refl, hpLe, bl, bb, bt, zDs, zD, eqCells, simprocAttr])
      · have hke : k = q.length := by omega
        subst hke
        have hqnl := nl_len q
        ((refine ggb0 (F := _∧_) ⟨@Int.lt_irrefl, hqnl⟩ ?_))
        refine ⟨(d + 1, f1, t2), ⟨hdt, hf1l, hf1.next hoq fun x y h => seenE_all ho h⟩, by show n - (d + 1) < n - d; omega, ?_⟩
        (simp (disch := omega) only [StLe, tmLe, hpLe_refl, hpLe, bl, bb, bt, zDs, zD, eqCells, simprocAttr])
    · have hde : d = n := by omega
      subst hde
      ((refine ggb0 @Int.lt_irrefl ?_))
      refine ⟨t1, trivial, ?_⟩
      rw [← fI_ext hfl fun x hx => (hf.end_ hoq).is hoq hx]
      (simp (disch := omega) only [StLe, tmLe, hpLe_refl, hpLe, bl, bb, bt, zDs, zD, eqCells, simprocAttr])
  rintro tt2 -
  ((refine gga0 ?_))
  ((repeat refine AW_seq ?_); (refine wta ?_); simp (disch := omega) only [retQ, resD, oneD, bb, bt, zDs, zD, eqCells, simprocAttr, Try.results59])
  exact rsv_ints rfl (by simp) 0
end Go.Proofs.Ytalhegbjlfkipaa.T
