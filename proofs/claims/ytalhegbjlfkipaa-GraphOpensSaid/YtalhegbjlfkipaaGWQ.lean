import Derived.Test.YtalhegbjlfkipaaGWP
set_option linter.all false
namespace Go.Proofs.Ytalhegbjlfkipaa.T
open Go Go.RowKit Gr
set_option linter.unusedSimpArgs false

/-! Graphs: the ways of the program. -/
def usedP (E : List (Nat × Nat)) (u : Nat → Bool) : List Nat := (List.range E.length).filter u
theorem usedP_lt {E : List (Nat × Nat)} {u : Nat → Bool} : ∀ k ∈ usedP E u, k < E.length := fun k h => by unfold usedP at h; simp at h; exact h.1
theorem atL_used (E : List (Nat × Nat)) (u : Nat → Bool) (x : Nat) : atL E u E.length x = (usedP E u).filter fun k => (oth E k x).isSome := by
  unfold atL usedP
  rw [List.filter_filter]
  exact List.filter_congr fun k _ => by rw [Bool.and_comm]
theorem atL_mem {E : List (Nat × Nat)} {u : Nat → Bool} {x k : Nat} : k ∈ atL E u E.length x ↔ k ∈ usedP E u ∧ (oth E k x).isSome = true := by
  rw [atL_used, List.mem_filter]
/-- The nodes that wait. -/
def qD (g lo : Nat) : List Nat → D
  | [] => .sl 1 [] false
  | _ :: Q => .own 1 1 g lo (Q.length + 1)
def negs (f : List Int) : Nat := (f.filter fun x => decide (x < 0)).length
theorem negs_set : ∀ (f : List Int) (v : Nat) (w z : Int), f[v]? = some z → z < 0 → 0 ≤ w → negs (f.set v w) + 1 = negs f
  | [], v, w, z, h, _, _ => by simp at h
  | x :: f, 0, w, z, h, hz, hw => by
    simp at h; subst h
    have h1 : ¬ w < 0 := by omega
    simp [negs, hz, h1]
  | x :: f, v + 1, w, z, h, hz, hw => by
    have ih := negs_set f v w z (by simpa using h) hz hw
    unfold negs at ih ⊢
    rw [List.set_cons_succ]
    by_cases hx : x < 0 <;> simp [hx] <;> omega
theorem negs_le (f : List Int) : negs f ≤ f.length := List.length_filter_le _ _
def seenA (E : List (Nat × Nat)) (L : List Nat) (u j : Nat) (y : Nat) : Prop := ∃ i, i < j ∧ ∃ k, L[i]? = some k ∧ oth E k u = some y
theorem BFi_weak {n : Nat} {L : List (Nat × Nat)} {b u : Nat} {f : Nat → Int} {q : List Nat} {S S' : Nat → Prop} (h : BFi n L b f u q S) (hs : ∀ y, S' y → S y) : BFi n L b f u q S' :=
  { h with seen := fun y k => h.seen y (hs y k) }
theorem seenA_step {E : List (Nat × Nat)} {L : List Nat} {u j k y : Nat} (hk : L[j]? = some k) (hy : oth E k u = some y) (z : Nat) (h : seenA E L u (j + 1) z) : seenA E L u j z ∨ z = y := by
  obtain ⟨i, hi, k', hk', h⟩ := h
  by_cases e : i = j
  · subst e
    rw [hk] at hk'; cases hk'
    rw [hy] at h; cases h
    exact .inr rfl
  · exact .inl ⟨i, by omega, k', hk', h⟩
theorem far_small {n : Nat} {L : List (Nat × Nat)} (ho : Ok n L) {f : Nat → Int} (hd : ∀ x, x < n → 0 < f x → ∃ y, Adj L x y ∧ f y = f x - 1) {x : Nat} (hx : x < n) : f x < n := by
  refine Int.not_le.1 fun hle => ?_
  obtain ⟨l, h1, h2, h3⟩ := chain (b := 0) ho hd (f x).toNat x hx (by omega)
  have := nodup_len n l h2 fun y hy => (h3 y hy).1
  omega
theorem oth_sum {n : Nat} {E : List (Nat × Nat)} (_ho : Ok n E) {k x y u v : Nat} (he : E[k]? = some (x, y)) (h : oth E k u = some v) : (x : Int) + (y : Int) - (u : Int) = (v : Int) := by
  rcases oth_some h with h | h <;> rw [he] at h <;> cases h <;> omega
theorem psA_row {n : Nat} (E : List (Nat × Nat)) (u : Nat → Bool) (m : Nat) {x : Nat} (h : x < n) : ((psA n E u m).map nl)[x]? = some (nl (atL E u m x)) := by simp [psA, h]
set_option maxHeartbeats 4000000 in
theorem wayG (n : Nat) (E : List (Nat × Nat)) (ho : Ok n E) (hn : n ≤ 1000) (hE : E.length ≤ 4000) (u : Nat → Bool) (a b : Nat) (ha : a < n) (hb : b < n) :
    PRet Try.prog 42 [eds (edN E), mat ((psA n E u E.length).map nl), int a, int b] (.tup [ints (nl (wayW E (usedP E u) b a)), bool (decide (0 ≤ dist (sub E (usedP E u)) b a))]) := by
  refine PRet.intro 3 fun t => ACall.enter tab_ok Try.func42 rfl rfl Try.ntmps42 (by simp) ?_
  simp only [enterTM]
  have hoq := ho.sub (usedP E u)
  have hpl := psA_len n E u E.length
  have hrow := fun {x : Nat} (h : x < n) => psA_row E u E.length h
  have hRep := repeatInt (-1) n (by omega) hn
  generalize hPM : (psA n E u E.length).map nl = PM at *
  have hpml : PM.length = n := by rw [← hPM, List.length_map]; exact hpl
  ((refine wqa ?_))
  ((repeat refine AW_seq ?_); (refine AW_region_k tab_ok fun KR hKR => ?_)); ((refine wrb hpml ?_))
  ((first | refine awOps_nc fun KK hKK => ?_ | refine awOps_gc rfl fun KK hKK => ?_); simp (disch := omega) only [bb, bt, zDs, zD, eqCells, simprocAttr, goC, callO_fn, argsD, and_self]; refine ACall.of_fresh (hRep) (by first | (simp only [List.map_cons, List.map_nil, List.append_nil, List.nil_append, List.cons_append, ufa, uf]; done) | rfl) ?_; simp (disch := omega) only [bb, bt, zDs, zD, eqCells, simprocAttr, afterC]; refine hKK _ ?_; clear hKK KK)
  ((refine wra ?_))
  ((refine wea ?_); (try clear hKR KR))
  have hrl := repC_len (-1) n
  have hb1 : b + 1 ≤ n := hb
  ((refine wqb (F := _∧_∧_) ⟨hb, hb1, hrl⟩ ?_))
  have hf0 : (repC (-1) n).set b (int 0) = iD ((List.replicate n (-1 : Int)).set b 0) := by rw [repC_iD, iD_set]
  rw [hf0]
  ((repeat refine AW_seq ?_); (refine AW_region_k tab_ok fun KR hKR => ?_)); (((first | refine awOps_n rfl fun KK hKK => ?_ | refine awOps_g rfl rfl fun KK hKK => ?_ | refine awOps_gc rfl fun KK hKK => ?_); simp (disch := omega) only [bb, bt, zDs, zD, eqCells, simprocAttr]; refine hKK _ ?_; clear hKK KK))
  refine awOps_lit (cs := [int b]) tab_ok (by decide) rfl rfl rfl ⟨by decide, by decide⟩ (by decide) (by rfl) fun KK hKK => ?_
  (simp (disch := omega) only [bb, bt, zDs, zD, eqCells, simprocAttr])
  refine hKK _ ?_; clear hKK KK
  ((refine wra ?_))
  ((refine wea ?_); (try clear hKR KR))
  have h0 : BF n (sub E (usedP E u)) b (fI ((List.replicate n (-1 : Int)).set b 0)) [b] := by
    rw [fI_set _ _ (by simpa using hb)]
    have : (fun x => if x = b then (0 : Int) else fI (List.replicate n (-1)) x) = fun x => if x = b then 0 else -1 := funext fun x => by
      have : fI (List.replicate n (-1)) x = -1 := by unfold fI; simp only [List.getD_eq_getElem?_getD, List.getElem?_replicate]; split <;> rfl
      rw [this]
    rw [this]
    exact BF.start n _ hb
  have hneg0 : negs ((List.replicate n (-1 : Int)).set b 0) + 1 = n := by
    rw [negs_set (List.replicate n (-1 : Int)) b 0 (-1) (by simp [hb]) (by decide) (by decide)]
    simp [negs]
  ((repeat refine AW_seq ?_))
  refine AW_mid (fun x : Nat => ⟨[(0, eds (edN E)), (1, mat PM), (2, int a), (3, int b), (8, .sl 1 [] true), (9, bool false), (10, .own 1 0 (t + 1) 0 n)], [some ⟨3, t + 1, iD ((List.range n).map (dist (sub E (usedP E u)) b))⟩, none], x⟩) (fun _ => True) ?_ ?_
  · refine AW_block ?_
    refine AW_loop_w (fun x : (List Int × List Nat) × (Nat × List D) × Nat × Nat => ⟨[(0, eds (edN E)), (1, mat PM), (2, int a), (3, int b), (8, .sl 1 [] true), (9, bool false), (10, .own 1 0 (t + 1) 0 n), (11, qD x.2.2.1 x.2.1.1 x.1.2)], [some ⟨3, t + 1, iD x.1.1⟩, some ⟨3, x.2.2.1, x.2.1.2⟩], x.2.2.2⟩) (fun x => negs x.1.1 + x.1.2.length)
      (fun x => x.1.1.length = n ∧ BF n (sub E (usedP E u)) b (fI x.1.1) x.1.2 ∧ (x.1.2 ≠ [] → x.2.1.2.drop x.2.1.1 = nD x.1.2 ∧ x.2.1.1 + x.1.2.length = x.2.1.2.length) ∧ x.2.1.2.length + negs x.1.1 ≤ n) (((List.replicate n (-1 : Int)).set b 0, [b]), (0, [int b]), t + 1 + 1, t + 1 + 1) ⟨by simp, h0, fun _ => ⟨rfl, rfl⟩, by show 1 + negs ((List.replicate n (-1 : Int)).set b 0) ≤ n; omega⟩ (by (simp (disch := omega) only [StLe, tmLe, hpLe_refl, hpLe, bl, bb, bt, zDs, zD, eqCells, simprocAttr, qD, List.length_nil])) ?_
    rintro ⟨⟨f, Q⟩, ⟨lo, cs⟩, g, tt⟩ ⟨hfl, hBF, hcs, hcsl⟩
    simp only at hfl hBF hcs hcsl
    cases Q with
    | nil =>
      dsimp only
      rw [show qD g lo [] = D.sl 1 [] false from rfl]
      ((refine gga0 ?_))
      refine ⟨tt, trivial, ?_⟩
      rw [← fI_ext hfl fun x hx => hBF.end_.is hoq hx]
      (simp (disch := omega) only [StLe, tmLe, hpLe_refl, hpLe, bl, bb, bt, zDs, zD, eqCells, simprocAttr])
    | cons x Q =>
      obtain ⟨hc1, hc2⟩ := hcs (by simp)
      dsimp only
      rw [show qD g lo (x :: Q) = D.own 1 1 g lo (Q.length + 1) from rfl]
      have hx := (hBF.qs x (by simp)).1
      have hc0 : ∀ (lo : Nat) (cs : List D) (Q : List Nat), cs.drop lo = nD (x :: Q) → cs[lo]? = some (int x) := fun lo cs Q h => by
        have := congrArg (·[0]?) h
        simpa [nD, nl] using this
      have hq0 := hc0 lo cs Q hc1
      have hlp : (0 : Int) < ((Q.length + 1 : Nat) : Int) := by omega
      have hlp2 : 0 < Q.length + 1 := by omega
      have hr := hrow hx
      have hrl := nl_len (atL E u E.length x)
      have hmem : ∀ k ∈ atL E u E.length x, k ∈ usedP E u ∧ (oth E k x).isSome = true := fun k hk => atL_mem.1 hk
      have hall : ∀ y, Adj (sub E (usedP E u)) x y → seenA E (atL E u E.length x) x (atL E u E.length x).length y := fun y hy => by
        obtain ⟨k, hk, e⟩ := (adj_sub ho x y).1 hy
        obtain ⟨i, hi⟩ := List.getElem?_of_mem (atL_mem.2 ⟨hk, by rw [e]; rfl⟩)
        exact ⟨i, (List.getElem?_eq_some_iff.1 hi).1, k, hi, e⟩
      have hLl := atL_len E u E.length x
      generalize hL : atL E u E.length x = L at *
      ((refine ggb0 (F := _∧_) ⟨hlp, hlp2⟩ ?_))
      ((repeat refine AW_seq ?_))
      refine AW_block ?_
      ((refine wqb (F := _∧_∧_∧_∧_∧_) ⟨hlp2, hq0, hx, hr, hpml, hrl⟩ ?_))
      refine AW_block ?_
      refine AW_loop_w (fun y : (Nat × List Int × List Nat) × (Nat × List D) × Nat × Nat => ⟨[(0, eds (edN E)), (1, mat PM), (2, int a), (3, int b), (8, .sl 1 [] true), (9, bool false), (10, .own 1 0 (t + 1) 0 n), (11, .own 1 1 y.2.2.1 y.2.1.1 (y.1.2.2.length + 1)), (38, ints (nl L)), (39, int L.length), (40, int y.1.1)], [some ⟨3, t + 1, iD y.1.2.1⟩, some ⟨3, y.2.2.1, y.2.1.2⟩], y.2.2.2⟩) (fun y => L.length - y.1.1)
        (fun y => y.1.1 ≤ L.length ∧ y.1.2.1.length = n ∧ BFi n (sub E (usedP E u)) b (fI y.1.2.1) x y.1.2.2 (seenA E L x y.1.1) ∧ y.2.1.2.drop y.2.1.1 = nD (x :: y.1.2.2) ∧ y.2.1.1 + (y.1.2.2.length + 1) = y.2.1.2.length ∧ y.2.1.2.length + negs y.1.2.1 ≤ n ∧ negs y.1.2.1 + y.1.2.2.length = negs f + Q.length) ((0, f, Q), (lo, cs), g, tt)
        ⟨Nat.zero_le _, hfl, BFi_weak hBF.head fun y ⟨i, hi, _⟩ => absurd hi (Nat.not_lt_zero i), hc1, hc2, hcsl, rfl⟩ (by (simp (disch := omega) only [StLe, tmLe, hpLe_refl, hpLe, bl, bb, bt, zDs, zD, eqCells, simprocAttr])) ?_
      rintro ⟨⟨j, f1, Q1⟩, ⟨lo1, cs1⟩, g1, t1⟩ ⟨hj, hf1l, hB1, hd1, hd2, hd3, hd4⟩
      simp only at hj hf1l hB1 hd1 hd2 hd3 hd4
      have hq1 := hc0 lo1 cs1 Q1 hd1
      by_cases hjt : j < L.length
      · obtain ⟨k, hLk⟩ : ∃ y, L[j]? = some y := ⟨_, List.getElem?_eq_getElem hjt⟩
        obtain ⟨hku, hko⟩ := hmem k (List.mem_of_getElem? hLk)
        obtain ⟨v, hv⟩ := Option.isSome_iff_exists.1 hko
        have hkE := usedP_lt k hku
        obtain ⟨⟨p, q⟩, he⟩ : ∃ y, E[k]? = some y := ⟨_, List.getElem?_eq_getElem hkE⟩
        obtain ⟨hpn, hqn, _⟩ := ho.get he
        have hen := edN_get he
        have hrd := edC_read _ _ _ hen
        simp only at hrd
        have hr2 : k * 2 < E.length * 2 := by omega
        have hr3 : k * 2 + 2 ≤ E.length * 2 := by omega
        have hO := otherG (p : Int) (q : Int) (x : Int) (by omega) (by omega) (by omega)
        rw [oth_sum ho he hv] at hO
        have hvn := (oth_lt ho hv).2.1
        have hLn := nl_get hLk
        have hadj : Adj (sub E (usedP E u)) x v := (adj_sub ho x v).2 ⟨k, hku, hv⟩
        have dv := iD_get (fI_get (f := f1) (x := v) (by omega))
        have dx := iD_get (fI_get (f := f1) (x := x) (by omega))
        have hil := iD_len f1
        have hv1 : v + 1 ≤ n := hvn
        have hlq : 0 < Q1.length + 1 := by omega
        have hx0 := (hB1.qs x (by simp)).2
        have hxs := far_small hoq hB1.down hx
        have hrl2 := hrl
        ((refine ggb0 (F := _∧_) ⟨@Int.ofNat_lt, hjt⟩ ?_))
        ((repeat refine AW_seq ?_))
        refine AW_block ?_
        ((refine wqb (F := _∧_∧_) ⟨hjt, hLn, hrl⟩ ?_))
        ((repeat refine AW_seq ?_); (refine gdzb1 (F := _∧_∧_∧_∧_∧_∧_) ⟨hr2, hr3, edC_len, edN_len, hrd, hlq, hq1⟩ hO ?_))
        by_cases hneg : fI f1 v < 0
        · have e1 : decide (fI f1 v < 0) = true := by simp [hneg]
          have hset := iD_set f1 v (fI f1 x + 1)
          ((refine wqb (F := _∧_∧_∧_∧_) ⟨hvn, dv, hil, hf1l, e1⟩ ?_))
          ((refine wib e1 ?_))
          ((refine wqb (F := _∧_∧_∧_∧_∧_∧_∧_∧_) ⟨hvn, hv1, hx, dx, hil, hf1l, hlq, hq1, hset⟩ ?_))
          ((repeat refine AW_seq ?_); (refine AW_region_k tab_ok fun KR hKR => ?_)); (((first | refine awOps_n rfl fun KK hKK => ?_ | refine awOps_g rfl rfl fun KK hKK => ?_ | refine awOps_gc rfl fun KK hKK => ?_); simp (disch := omega) only [bb, bt, zDs, zD, eqCells, simprocAttr]; refine hKK _ ?_; clear hKK KK)); (((first | refine awOps_n rfl fun KK hKK => ?_ | refine awOps_g rfl rfl fun KK hKK => ?_ | refine awOps_gc rfl fun KK hKK => ?_); simp (disch := omega) only [bb, bt, zDs, zD, eqCells, simprocAttr]; refine hKK _ ?_; clear hKK KK)); (((first | refine awOps_n rfl fun KK hKK => ?_ | refine awOps_g rfl rfl fun KK hKK => ?_ | refine awOps_gc rfl fun KK hKK => ?_); simp (disch := omega) only [bb, bt, zDs, zD, eqCells, simprocAttr]; refine hKK _ ?_; clear hKK KK))
          refine awOps_off (bl := ⟨3, g1, cs1⟩) (b := 1) (lo := lo1) (m := Q1.length + 1) (xs := [int v]) tab_ok (by decide) rfl rfl rfl rfl rfl rfl rfl (List.cons_ne_nil _ _) rfl (by omega) hd2 rfl (by show (cs1.length + 1) * 8 ≤ 140737488355328; omega) (by show cs1.length + 1 ≤ 4611686018427387903; omega) fun KK hKK lo' cs' k1 k2 k3 => ?_
          (simp (disch := omega) only [bb, bt, zDs, zD, eqCells, simprocAttr])
          refine hKK _ ?_; clear hKK KK
          ((refine wra ?_))
          ((refine wea ?_); (try clear hKR KR))
          ((refine gga0 ?_))
          have k1' : cs'.drop lo' = cs1.drop lo1 ++ [int v] := k1
          have k2' : lo' + (Q1.length + 1 + 1) = cs'.length := k2
          have hns := negs_set f1 v (fI f1 x + 1) _ (fI_get (by omega)) hneg (by omega)
          refine ⟨((j + 1, f1.set v (fI f1 x + 1), Q1 ++ [v]), (lo', cs'), t1 + 1 + 1, t1 + 1 + 1), ⟨hjt, by simpa using hf1l, ?_, ?_, ?_, ?_, ?_⟩, by show L.length - (j + 1) < L.length - j; omega, ?_⟩
          · show BFi n _ b (fI (f1.set v (fI f1 x + 1))) x (Q1 ++ [v]) _
            rw [fI_set _ _ (by omega)]
            exact BFi_weak (hB1.new hoq hadj hneg) (seenA_step hLk hv)
          · show cs'.drop lo' = nD (x :: (Q1 ++ [v]))
            rw [k1', hd1]
            exact nD_app (x :: Q1) v
          · show lo' + ((Q1 ++ [v]).length + 1) = cs'.length
            rw [List.length_append, List.length_cons, List.length_nil]; omega
          · show cs'.length + negs (f1.set v (fI f1 x + 1)) ≤ n
            omega
          · show negs (f1.set v (fI f1 x + 1)) + (Q1 ++ [v]).length = negs f + Q.length
            rw [List.length_append, List.length_cons, List.length_nil]; omega
          · simp only [List.length_append, List.length_cons, List.length_nil]
            (simp (disch := omega) only [StLe, tmLe, hpLe_refl, hpLe, bl, bb, bt, zDs, zD, eqCells, simprocAttr])
        · have e1 : decide (fI f1 v < 0) = false := by simp [hneg]
          ((refine ggb0 (F := _∧_∧_∧_∧_) ⟨hvn, dv, hil, hf1l, e1⟩ ?_))
          refine ⟨((j + 1, f1, Q1), (lo1, cs1), g1, t1 + 1), ⟨hjt, hf1l, ?_, hd1, hd2, hd3, hd4⟩, by show L.length - (j + 1) < L.length - j; omega, ?_⟩
          · exact BFi_weak (hB1.seen1 (by omega)) (seenA_step hLk hv)
          · (simp (disch := omega) only [StLe, tmLe, hpLe_refl, hpLe, bl, bb, bt, zDs, zD, eqCells, simprocAttr])
      · have hje : j = L.length := by omega
        subst hje
        have hend := hB1.end_ hoq hall
        cases Q1 with
        | nil =>
          ((refine ggb0 @Int.lt_irrefl ?_))
          refine ⟨((f1, []), (lo1 + 1, cs1), g1, t1), ⟨hf1l, hend, fun h => absurd rfl h, hd3⟩, by show negs f1 + 0 < negs f + (Q.length + 1); simp only [List.length_nil] at hd4; omega, ?_⟩
          simp only [qD]
          (simp (disch := omega) only [StLe, tmLe, hpLe_refl, hpLe, bl, bb, bt, zDs, zD, eqCells, simprocAttr])
        | cons y Q2 =>
          have l1 : 1 < (y :: Q2).length + 1 := by simp
          have l2 : (y :: Q2).length + 1 - 1 = Q2.length + 1 := by simp
          ((refine ggb0 (F := _∧_∧_∧_) ⟨@Int.lt_irrefl, l1, l2, @Nat.le_refl⟩ ?_))
          refine ⟨((f1, y :: Q2), (lo1 + 1, cs1), g1, t1), ⟨hf1l, hend, fun _ => ⟨?_, ?_⟩, hd3⟩, by show negs f1 + (y :: Q2).length < negs f + (Q.length + 1); omega, ?_⟩
          · show cs1.drop (lo1 + 1) = nD (y :: Q2)
            rw [← List.drop_drop, hd1]; rfl
          · show lo1 + 1 + (y :: Q2).length = cs1.length
            omega
          · simp only [qD]
            (simp (disch := omega) only [StLe, tmLe, hpLe_refl, hpLe, bl, bb, bt, zDs, zD, eqCells, simprocAttr])
  rintro tt -
  have hneg := dist_neg (sub E (usedP E u)) b
  have hat := (isFar (sub E (usedP E u)) n b).at_
  have hzero := (isFar (sub E (usedP E u)) n b).zero
  have hstep : ∀ {d x : Nat}, dist (sub E (usedP E u)) b x = (d : Int) + 1 → ∃ k y, (usedP E u).find? (wayIs E (dist (sub E (usedP E u)) b) d x) = some k ∧ k ∈ usedP E u ∧ oth E k x = some y ∧ dist (sub E (usedP E u)) b y = d := fun h => way_step ho h
  have hsmall : ∀ x, x < n → dist (sub E (usedP E u)) b x < n := fun x hx => far_small hoq (isFar (sub E (usedP E u)) n b).down hx
  have hfl : (iD ((List.range n).map (dist (sub E (usedP E u)) b))).length = n := by simp [iD]
  have hfa := fun {x : Nat} (hx : x < n) => iD_get (far_get (dist (sub E (usedP E u)) b) hx)
  unfold wayW
  generalize hdd : dist (sub E (usedP E u)) b = dd at *
  have f0 := hfa ha
  by_cases hlt : dd a < 0
  · have hge : ¬ 0 ≤ dd a := by omega
    have h0 : (dd a).toNat = 0 := by omega
    ((refine ggb0 (F := _∧_∧_∧_) ⟨ha, f0, hfl, hlt⟩ ?_))
    ((repeat refine AW_seq ?_); (refine wta ?_); simp (disch := omega) only [retQ, resD, oneD, bb, bt, zDs, zD, eqCells, simprocAttr, Try.results42])
    rw [h0, decide_eq_false hge]
    rfl
  have hge : 0 ≤ dd a := by omega
  obtain ⟨d0, hd0⟩ : ∃ d : Nat, dd a = d := ⟨(dd a).toNat, by omega⟩
  have hsa := hsmall a ha
  ((refine wqb (F := _∧_∧_∧_) ⟨ha, f0, hfl, hlt⟩ ?_))
  ((refine wia ?_))
  ((refine wsa ?_))
  ((refine wqa ?_))
  ((repeat refine AW_seq ?_))
  refine AW.begin 15 1 3 rfl (by decide) ?_
  simp only [putTM, List.length_cons, List.length_nil, Nat.reduceEqDiff, ↓reduceIte, List.cons_append, List.nil_append]
  ((repeat refine AW_seq ?_))
  refine AW_mid (fun x : Nat × Nat => ⟨[(15, .own 1 2 x.1 0 (wayP dd E (usedP E u) d0 a).length)], [none, none, some ⟨3, x.1, nD (wayP dd E (usedP E u) d0 a)⟩], x.2⟩) (fun _ => True) ?_ ?_
  · refine AW_block ?_
    refine AW_loop_w (fun x : (Nat × Nat × List Nat) × Nat × Nat => ⟨[(0, eds (edN E)), (1, mat PM), (2, int x.1.1), (3, int b), (10, .own 1 0 (t + 1) 0 n), (15, .own 1 2 x.2.1 0 x.1.2.2.length)], [some ⟨3, t + 1, iD ((List.range n).map dd)⟩, none, some ⟨3, x.2.1, nD x.1.2.2⟩], x.2.2⟩) (fun x => x.1.2.1) (fun x => x.1.1 < n ∧ dd x.1.1 = x.1.2.1 ∧ x.1.2.2.length + x.1.2.1 = d0 ∧ wayP dd E (usedP E u) d0 a = x.1.2.2 ++ wayP dd E (usedP E u) x.1.2.1 x.1.1) ((a, d0, []), tt + 1, tt + 1) ⟨ha, hd0, by simp, rfl⟩ (by (simp (disch := omega) only [StLe, tmLe, hpLe_refl, hpLe, bl, bb, bt, zDs, zD, eqCells, simprocAttr, nD, nl, List.map_nil, List.length_nil])) ?_
    rintro ⟨⟨x, d, pre⟩, g, t1⟩ ⟨hx, hdx, hpl2, hpre⟩
    simp only at hx hdx hpl2 hpre
    by_cases hxb : x = b
    · have e1 : ((x : Int) != (b : Int)) = false := by rw [bneN]; simp [hxb]
      have hd : d = 0 := by rw [hxb, hat] at hdx; omega
      subst hd
      have : wayP dd E (usedP E u) d0 a = pre := by rw [hpre]; simp [wayP]
      ((refine ggb0 e1 ?_))
      refine ⟨(g, t1), trivial, ?_⟩
      rw [this]
      (simp (disch := omega) only [StLe, tmLe, hpLe_refl, hpLe, bl, bb, bt, zDs, zD, eqCells, simprocAttr])
    have e1 : ((x : Int) != (b : Int)) = true := by rw [bneN]; simpa using hxb
    obtain ⟨d', rfl⟩ : ∃ d', d = d' + 1 := by
      refine ⟨d - 1, ?_⟩
      have : d ≠ 0 := fun e => hxb (hzero x hx (by rw [hdx, e]; rfl))
      omega
    have hdx' : dd x = (d' : Int) + 1 := by rw [hdx]; omega
    have hsm := hsmall x hx
    obtain ⟨k0, y0, hk0, _⟩ := hstep hdx'
    have hr := hrow hx
    have hrl := nl_len (atL E u E.length x)
    have hmem : ∀ k ∈ atL E u E.length x, k ∈ usedP E u ∧ (oth E k x).isSome = true := fun k hk => atL_mem.1 hk
    have hLl := atL_len E u E.length x
    have hfind : (atL E u E.length x).find? (wayIs E dd d' x) = (usedP E u).find? (wayIs E dd d' x) := by
      rw [atL_used, List.find?_filter]
      congr 1
      funext k
      unfold wayIs
      rw [Bool.eq_iff_iff]
      cases oth E k x <;> simp
    generalize hL : atL E u E.length x = L at *
    rw [← hfind] at hk0
    ((refine ggb0 e1 ?_))
    ((repeat refine AW_seq ?_))
    refine AW_block ?_
    ((refine wqb (F := _∧_∧_∧_) ⟨hx, hr, hpml, hrl⟩ ?_))
    refine AW_block ?_
    refine AW_loop_w (fun y : Nat × Nat => ⟨[(0, eds (edN E)), (1, mat PM), (2, int x), (3, int b), (10, .own 1 0 (t + 1) 0 n), (15, .own 1 2 g 0 pre.length), (83, ints (nl L)), (84, int L.length), (85, int y.1)], [some ⟨3, t + 1, iD ((List.range n).map dd)⟩, none, some ⟨3, g, nD pre⟩], y.2⟩) (fun y => L.length - y.1) (fun y => y.1 ≤ L.length ∧ ∀ i, i < y.1 → ∀ e, L[i]? = some e → wayIs E dd d' x e = false) (0, t1) ⟨Nat.zero_le _, fun i hi => absurd hi (Nat.not_lt_zero i)⟩ (by (simp (disch := omega) only [StLe, tmLe, hpLe_refl, hpLe, bl, bb, bt, zDs, zD, eqCells, simprocAttr])) ?_
    rintro ⟨j, t2⟩ ⟨hj, hno⟩
    simp only at hj hno
    by_cases hjt : j < L.length
    · obtain ⟨k, hLk⟩ : ∃ y, L[j]? = some y := ⟨_, List.getElem?_eq_getElem hjt⟩
      obtain ⟨hku, hko⟩ := hmem k (List.mem_of_getElem? hLk)
      obtain ⟨v, hv⟩ := Option.isSome_iff_exists.1 hko
      have hkE := usedP_lt k hku
      obtain ⟨⟨p, q⟩, he⟩ : ∃ y, E[k]? = some y := ⟨_, List.getElem?_eq_getElem hkE⟩
      obtain ⟨hpn, hqn, _⟩ := ho.get he
      have hen := edN_get he
      have hrd := edC_read _ _ _ hen
      simp only at hrd
      have hr2 : k * 2 < E.length * 2 := by omega
      have hr3 : k * 2 + 2 ≤ E.length * 2 := by omega
      have hO := otherG (p : Int) (q : Int) (x : Int) (by omega) (by omega) (by omega)
      rw [oth_sum ho he hv] at hO
      have hvn := (oth_lt ho hv).2.1
      have hLn := nl_get hLk
      have f1 := hfa hvn
      have f2 := hfa hx
      rw [hdx'] at f2
      have hnl := nD_len pre
      have hap := nD_app pre k
      ((refine ggb0 (F := _∧_) ⟨@Int.ofNat_lt, hjt⟩ ?_))
      ((repeat refine AW_seq ?_))
      refine AW_block ?_
      ((refine ggb1 (F := _∧_∧_∧_∧_∧_∧_∧_) ⟨hjt, hLn, hrl, hr2, hr3, edC_len, edN_len, hrd⟩ hO ?_))
      cases hm : (dd v == (d' : Int))
      · have hm' : (dd v == (d' : Int) + 1 - 1) = false := by rw [show (d' : Int) + 1 - 1 = d' by omega]; exact hm
        ((repeat refine AW_seq ?_); (refine gdzb (F := _∧_∧_∧_∧_∧_) ⟨hfl, hvn, hx, f1, f2, hm'⟩ ?_))
        ((refine gga0 ?_))
        refine ⟨(j + 1, t2 + 1), ⟨hjt, fun i hi e hie => ?_⟩, by show L.length - (j + 1) < L.length - j; omega, ?_⟩
        · by_cases hij : i = j
          · subst hij
            rw [hLk] at hie; cases hie
            unfold wayIs; rw [hv]; exact hm
          · exact hno i (by simp only at hi; omega) e hie
        · (simp (disch := omega) only [StLe, tmLe, hpLe_refl, hpLe, bl, bb, bt, zDs, zD, eqCells, simprocAttr])
      · have hm' : (dd v == (d' : Int) + 1 - 1) = true := by rw [show (d' : Int) + 1 - 1 = d' by omega]; exact hm
        ((repeat refine AW_seq ?_); (refine gdzb (F := _∧_∧_∧_∧_∧_) ⟨hfl, hvn, hx, f1, f2, hm'⟩ ?_))
        ((refine ggb0 hnl ?_))
        have hf := find_at _ L j k hLk (by unfold wayIs; rw [hv]; exact hm) hno
        rw [hfind] at hf
        refine ⟨((v, d', pre ++ [k]), t2 + 1 + 1, t2 + 1 + 1), ⟨hvn, by simpa using hm, by simp; omega, ?_⟩, by show d' < d' + 1; omega, ?_⟩
        · rw [hpre, way_cons hf hv]; simp
        · simp only [← hap, List.length_append, List.length_cons, List.length_nil]
          (simp (disch := omega) only [StLe, tmLe, hpLe_refl, hpLe, bl, bb, bt, zDs, zD, eqCells, simprocAttr])
    · exfalso
      have h1 := List.find?_some hk0
      have h2 := List.mem_of_find?_eq_some hk0
      obtain ⟨i, hi⟩ := List.getElem?_of_mem h2
      have := hno i (by have := (List.getElem?_eq_some_iff.1 hi).1; omega) _ hi
      rw [this] at h1; cases h1
  rintro ⟨g, t1⟩ -
  ((refine gga0 ?_))
  ((repeat refine AW_seq ?_); (refine wta ?_); simp (disch := omega) only [retQ, resD, oneD, bb, bt, zDs, zD, eqCells, simprocAttr, Try.results42])
  have e1 : (dd a).toNat = d0 := by omega
  rw [e1, decide_eq_true hge]
  have := rsv_ints (H := [none, none, some ⟨3, g, nD (wayP dd E (usedP E u) d0 a)⟩]) (b := 2) (g := g) (l := nl (wayP dd E (usedP E u) d0 a)) rfl (nl_len _).symm 1
  simp only [rsv, rs, rsL] at this ⊢
  rw [this]
end Go.Proofs.Ytalhegbjlfkipaa.T
