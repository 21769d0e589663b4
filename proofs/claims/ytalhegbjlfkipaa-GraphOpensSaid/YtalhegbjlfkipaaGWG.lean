import Derived.Test.YtalhegbjlfkipaaGWF
set_option linter.all false
namespace Go.Proofs.Ytalhegbjlfkipaa.T
open Go Go.RowKit Gr
theorem gdza_GWG {P Q : Prop} (q : Q) (h : Q → P := by
  intro  hq
  (try with_reducible intro KR hKR)
  (repeat refine AW_seq ?_); (repeat refine AW_seq ?_); (refine AW_drawn_k tab_ok follows_mixed 0 fun KR hKR => ?_); simp only [List.replicate_succ, List.replicate_zero, List.append_nil, List.nil_append, List.cons_append, List.length_cons, List.length_nil, Nat.reduceAdd]; (repeat' ((first | refine awD_n rfl fun KK hKK => ?_ | refine awD_g rfl rfl fun KK hKK => ?_ | refine awD_gc rfl fun KK hKK => ?_ | refine awD_nc fun KK hKK => ?_); simp (disch := omega) only [bb, bt, zDs, zD, eqCells, simprocAttr, bne_self_eq_false, Int.reduceBNe, Int.reduceBEq, Bool.bne_false, Bool.bne_true, Bool.false_bne, Bool.true_bne]; refine hKK _ _ _ ?_; clear hKK KK)); (refine awD_nil ?_); simp only [List.reverse_cons, List.reverse_nil, List.nil_append, List.cons_append]; (refine hKR _ _ (by first | rfl | kernel_rfl) ?_); (try clear hKR KR); (repeat (with_reducible first | refine q1 ?_ | refine q2 ?_ | refine q3 ?_ | refine q4 ?_ | refine q5 ?_ | refine q6 ?_ | (refine q7 ?_ ?_; (focus (with_unfolding_all rfl)))))
  (first | exact hq | (revert hKR; revert KR; exact hq))) : P := h  q
set_option linter.unusedSimpArgs false

/-! Graphs: the reference's ways, cycles. -/
noncomputable def wayW (E : List (Nat × Nat)) (q : List Nat) (b a : Nat) : List Nat := wayP (dist (sub E q) b) E q (dist (sub E q) b a).toNat a
theorem find_at {α : Type} (p : α → Bool) : ∀ (l : List α) (k : Nat) (e : α), l[k]? = some e → p e = true → (∀ j, j < k → ∀ x, l[j]? = some x → p x = false) → l.find? p = some e
  | [], k, e, h, _, _ => by simp at h
  | x :: l, 0, e, h, hp, _ => by simp at h; subst h; simp [hp]
  | x :: l, k + 1, e, h, hp, hj => by
    have h0 := hj 0 (by omega) x (by simp)
    rw [List.find?_cons, h0]
    exact find_at p l k e (by simpa using h) hp fun j hlt y hy => hj (j + 1) (by omega) y (by simpa using hy)
theorem way_cons {E : List (Nat × Nat)} {f : Nat → Int} {q : List Nat} {d a k y : Nat} (hf : q.find? (wayIs E f d a) = some k) (hy : oth E k a = some y) : wayP f E q (d + 1) a = k :: wayP f E q d y := by
  rw [wayP, hf]
  simp only [hy]
theorem othR {E : List (Nat × Nat)} {k p q : Nat} (h : E[k]? = some (p, q)) (a : Nat) : (if (p : Int) = (a : Int) then (q : Int) else if (q : Int) = (a : Int) then (p : Int) else -1) = match oth E k a with | some y => (y : Int) | none => -1 := by
  unfold oth
  rw [h]
  simp only
  by_cases h1 : p = a
  · rw [if_pos (by omega), if_pos h1]
  · rw [if_neg (by omega), if_neg h1]
    by_cases h2 : q = a
    · rw [if_pos (by omega), if_pos h2]
    · rw [if_neg (by omega), if_neg h2]
set_option maxHeartbeats 2000000 in
theorem wayR (n : Nat) (E : List (Nat × Nat)) (ho : Ok n E) (hn : n ≤ 1000) (hE : E.length ≤ 4000) (q : List Nat) (hq : ∀ k ∈ q, k < E.length) (hql : q.length ≤ 4000) (a b : Nat) (ha : a < n) (hb : b < n) :
    PRet Try.prog 44 [int n, eds (edN E), ints (nl q), int a, int b] (.tup [ints (nl (wayW E q b a)), bool (decide (0 ≤ dist (sub E q) b a))]) := by
  refine PRet.intro 3 fun t => ACall.enter tab_ok Try.func44 rfl rfl Try.ntmps44 (by simp) ?_
  simp only [enterTM]
  have hF := farR n E ho hn hE q hq hql b hb
  have hneg := dist_neg (sub E q) b
  have hat := (isFar (sub E q) n b).at_
  have hzero := (isFar (sub E q) n b).zero
  have hstep : ∀ {d x : Nat}, dist (sub E q) b x = (d : Int) + 1 → ∃ k y, q.find? (wayIs E (dist (sub E q) b) d x) = some k ∧ k ∈ q ∧ oth E k x = some y ∧ dist (sub E q) b y = d := fun h => way_step ho h
  have hsmall : ∀ x, x < n → dist (sub E q) b x ≤ 1000 := fun x hx => by
    refine Int.not_lt.1 fun hlt => ?_
    obtain ⟨l, h1, h2, h3⟩ := chain (b := b) (ho.sub q) (isFar (sub E q) n b).down (dist (sub E q) b x).toNat x hx (by omega)
    have := nodup_len n l h2 fun y hy => (h3 y hy).1
    omega
  have hfl : ((List.range n).map (dist (sub E q) b)).length = n := by simp
  have hfa := fun {x : Nat} (hx : x < n) => far_get (dist (sub E q) b) hx
  unfold wayW
  generalize hdd : dist (sub E q) b = dd at *
  ((refine wqa ?_))
  ((repeat refine AW_seq ?_); (refine AW_region_k tab_ok fun KR hKR => ?_)); ((refine wra ?_))
  ((refine wka1 hF ?_))
  ((refine wra ?_)); ((refine wea ?_); (try clear hKR KR))
  by_cases hlt : dd a < 0
  · have f0 := hfa ha
    have hge : ¬ 0 ≤ dd a := by omega
    have h0 : (dd a).toNat = 0 := by omega
    ((refine ggb0 (F := _∧_∧_∧_) ⟨ha, f0, hfl, hlt⟩ ?_))
    ((repeat refine AW_seq ?_); (refine wta ?_); simp (disch := omega) only [retQ, resD, oneD, bb, bt, zDs, zD, eqCells, simprocAttr, Try.results44])
    rw [h0, decide_eq_false hge]
    rfl
  have f0 := hfa ha
  have hge : 0 ≤ dd a := by omega
  obtain ⟨d0, hd0⟩ : ∃ d : Nat, dd a = d := ⟨(dd a).toNat, by omega⟩
  have hsa := hsmall a ha
  ((refine wqb (F := _∧_∧_∧_) ⟨ha, f0, hfl, hlt⟩ ?_))
  ((refine wia ?_))
  ((refine wsa ?_))
  ((refine wqa ?_))
  ((repeat refine AW_seq ?_))
  refine AW.begin 13 1 3 rfl (by decide) ?_
  simp only [putTM, List.length_cons, List.length_nil, Nat.reduceEqDiff, ↓reduceIte, List.cons_append, List.nil_append]
  ((refine wqa ?_))
  ((repeat refine AW_seq ?_))
  refine AW_mid (fun x : Nat × Nat => ⟨[(13, .own 1 0 x.1 0 (wayP dd E q d0 a).length)], [some ⟨3, x.1, nD (wayP dd E q d0 a)⟩], x.2⟩) (fun _ => True) ?_ ?_
  · refine AW_block ?_
    refine AW_loop_w (fun x : (Nat × Nat × List Nat) × Nat × Nat => ⟨[(1, eds (edN E)), (2, ints (nl q)), (4, int b), (12, ints ((List.range n).map dd)), (14, int x.1.1), (13, .own 1 0 x.2.1 0 x.1.2.2.length)], [some ⟨3, x.2.1, nD x.1.2.2⟩], x.2.2⟩) (fun x => x.1.2.1) (fun x => x.1.1 < n ∧ dd x.1.1 = x.1.2.1 ∧ x.1.2.2.length + x.1.2.1 = d0 ∧ wayP dd E q d0 a = x.1.2.2 ++ wayP dd E q x.1.2.1 x.1.1) ((a, d0, []), t + 1, t + 1) ⟨ha, hd0, by simp, rfl⟩ (by (simp (disch := omega) only [StLe, tmLe, hpLe_refl, hpLe, bl, bb, bt, zDs, zD, eqCells, simprocAttr, nD, nl, List.map_nil, List.length_nil])) ?_
    rintro ⟨⟨x, d, pre⟩, g, tt⟩ ⟨hx, hdx, hpl, hpre⟩
    simp only at hx hdx hpl hpre
    by_cases hxb : x = b
    · have e1 : ((x : Int) != (b : Int)) = false := by rw [bneN]; simp [hxb]
      have hd : d = 0 := by rw [hxb, hat] at hdx; omega
      subst hd
      have : wayP dd E q d0 a = pre := by rw [hpre]; simp [wayP]
      ((refine ggb0 e1 ?_))
      refine ⟨(g, tt), trivial, ?_⟩
      rw [this]
      (simp (disch := omega) only [StLe, tmLe, hpLe_refl, hpLe, bl, bb, bt, zDs, zD, eqCells, simprocAttr])
    have e1 : ((x : Int) != (b : Int)) = true := by rw [bneN]; simpa using hxb
    obtain ⟨d', rfl⟩ : ∃ d', d = d' + 1 := by
      refine ⟨d - 1, ?_⟩
      have : d ≠ 0 := fun e => hxb (hzero x hx (by rw [hdx, e]; rfl))
      omega
    have hdx' : dd x = (d' : Int) + 1 := by rw [hdx]; omega
    have hsm := hsmall x hx
    obtain ⟨k0, y0, hk0, _⟩ := hstep hdx'
    ((refine ggb0 e1 ?_))
    ((repeat refine AW_seq ?_))
    refine AW_block ?_
    ((refine wqa ?_))
    ((repeat refine AW_seq ?_))
    refine AW_block ?_
    refine AW_loop_w (fun y : (Bool × Nat × Nat) × Nat × Nat => ⟨[(1, eds (edN E)), (2, ints (nl q)), (4, int b), (12, ints ((List.range n).map dd)), (14, int (if y.1.1 then y.1.2.2 else x)), (15, int (if y.1.1 then q.length + 1 else y.1.2.1)), (13, .own 1 0 y.2.1 0 (if y.1.1 then pre.length + 1 else pre.length))], [some ⟨3, y.2.1, nD (if y.1.1 then pre ++ [y.1.2.1] else pre)⟩], y.2.2⟩) (fun y => if y.1.1 then 0 else q.length + 1 - y.1.2.1)
      (fun y => if y.1.1 then q.find? (wayIs E dd d' x) = some y.1.2.1 ∧ oth E y.1.2.1 x = some y.1.2.2 ∧ dd y.1.2.2 = d' else y.1.2.1 ≤ q.length ∧ ∀ j, j < y.1.2.1 → ∀ e, q[j]? = some e → wayIs E dd d' x e = false) ((false, 0, 0), g, tt) ⟨Nat.zero_le _, fun j hj => absurd hj (Nat.not_lt_zero j)⟩ (by (simp (disch := omega) only [StLe, tmLe, hpLe_refl, hpLe, bl, bb, bt, zDs, zD, eqCells, simprocAttr])) ?_
    rintro ⟨⟨ph, k, y⟩, g2, t2⟩ hok
    have hqnl := nl_len q
    cases ph
    · simp only [Bool.false_eq_true, if_false] at hok ⊢
      obtain ⟨hk, hno⟩ := hok
      by_cases hkt : k < q.length
      · obtain ⟨e, hqe⟩ : ∃ y, q[k]? = some y := ⟨_, List.getElem?_eq_getElem hkt⟩
        have heE := hq e (List.mem_of_getElem? hqe)
        obtain ⟨⟨u, v⟩, he⟩ : ∃ y, E[e]? = some y := ⟨_, List.getElem?_eq_getElem heE⟩
        have hen := edN_get he
        have hqn := nl_get hqe
        have hr2 : e * 2 < E.length * 2 := by omega
        have hr3 : e * 2 + 2 ≤ E.length * 2 := by omega
        have hrd := edC_read _ _ _ hen
        simp only at hrd
        have hO := otherR (u : Int) (v : Int) (x : Int)
        rw [othR he] at hO
        have hnl := nD_len pre
        have hap := nD_app pre e
        ((refine ggb0 (F := _∧_∧_) ⟨@Int.ofNat_lt, hkt, hqnl⟩ ?_))
        ((repeat refine AW_seq ?_))
        refine AW_block ?_
        cases hot : oth E e x with
        | none =>
          rw [hot] at hO
          simp only at hO
          ((refine ggb1 (F := _∧_∧_∧_∧_∧_∧_∧_) ⟨hkt, hqn, hqnl, hr2, hr3, edC_len, edN_len, hrd⟩ hO ?_))
          ((repeat refine AW_seq ?_); (refine gdza_GWG ?_))
          ((refine gga0 ?_))
          refine ⟨((false, k + 1, 0), g2, t2 + 1), ?_, ?_, ?_⟩
          · simp only [Bool.false_eq_true, if_false]
            refine ⟨hkt, fun j hj e' he' => ?_⟩
            by_cases hjk : j = k
            · subst hjk
              rw [hqe] at he'; cases he'
              unfold wayIs; rw [hot]
            · exact hno j (by omega) e' he'
          · simp only [Bool.false_eq_true, if_false]; omega
          · simp only [Bool.false_eq_true, if_false]
            (simp (disch := omega) only [StLe, tmLe, hpLe_refl, hpLe, bl, bb, bt, zDs, zD, eqCells, simprocAttr])
        | some y1 =>
          rw [hot] at hO
          simp only at hO
          have hy1 := (oth_lt ho hot).2.1
          have f1 := hfa hy1
          have f2 := hfa hx
          rw [hdx'] at f2
          cases hm : (dd y1 == (d' : Int))
          · have hm' : (dd y1 == (d' : Int) + 1 - 1) = false := by rw [show (d' : Int) + 1 - 1 = d' by omega]; exact hm
            ((refine ggb1 (F := _∧_∧_∧_∧_∧_∧_∧_) ⟨hkt, hqn, hqnl, hr2, hr3, edC_len, edN_len, hrd⟩ hO ?_))
            ((repeat refine AW_seq ?_); (refine gdzb (F := _∧_∧_∧_∧_∧_) ⟨hfl, hy1, hx, f1, f2, hm'⟩ ?_))
            ((refine gga0 ?_))
            refine ⟨((false, k + 1, 0), g2, t2 + 1), ?_, ?_, ?_⟩
            · simp only [Bool.false_eq_true, if_false]
              refine ⟨hkt, fun j hj e' he' => ?_⟩
              by_cases hjk : j = k
              · subst hjk
                rw [hqe] at he'; cases he'
                unfold wayIs; rw [hot]; exact hm
              · exact hno j (by omega) e' he'
            · simp only [Bool.false_eq_true, if_false]; omega
            · simp only [Bool.false_eq_true, if_false]
              (simp (disch := omega) only [StLe, tmLe, hpLe_refl, hpLe, bl, bb, bt, zDs, zD, eqCells, simprocAttr])
          · have hm' : (dd y1 == (d' : Int) + 1 - 1) = true := by rw [show (d' : Int) + 1 - 1 = d' by omega]; exact hm
            ((refine ggb1 (F := _∧_∧_∧_∧_∧_∧_∧_) ⟨hkt, hqn, hqnl, hr2, hr3, edC_len, edN_len, hrd⟩ hO ?_))
            ((repeat refine AW_seq ?_); (refine gdzb (F := _∧_∧_∧_∧_∧_) ⟨hfl, hy1, hx, f1, f2, hm'⟩ ?_))
            ((refine ggb0 (F := _∧_∧_∧_) ⟨hkt, hqn, hqnl, hnl⟩ ?_))
            refine ⟨((true, e, y1), t2 + 1 + 1, t2 + 1 + 1), ?_, ?_, ?_⟩
            · simp only [if_true]
              exact ⟨find_at _ q k e hqe (by unfold wayIs; rw [hot]; exact hm) hno, hot, by simpa using hm⟩
            · simp only [Bool.false_eq_true, if_false, if_true]; omega
            · simp only [if_true, ← hap]
              (simp (disch := omega) only [StLe, tmLe, hpLe_refl, hpLe, bl, bb, bt, zDs, zD, eqCells, simprocAttr])
      · exfalso
        have hke : k = q.length := by omega
        have h1 := List.find?_some hk0
        have h2 := List.mem_of_find?_eq_some hk0
        obtain ⟨j, hj⟩ := List.getElem?_of_mem h2
        have := hno j (by have := (List.getElem?_eq_some_iff.1 hj).1; omega) _ hj
        rw [this] at h1; cases h1
    · simp only [if_true] at hok ⊢
      obtain ⟨h1, h2, h3⟩ := hok
      have hnot : ¬ ((q.length : Int) + 1 < q.length) := by omega
      ((refine ggb0 (F := _∧_) ⟨hnot, hqnl⟩ ?_))
      refine ⟨((y, d', pre ++ [k]), g2, t2), ⟨(oth_lt ho h2).2.1, h3, by simp; omega, ?_⟩, by show d' < d' + 1; omega, ?_⟩
      · rw [hpre, way_cons h1 h2]; simp
      · simp only [List.length_append, List.length_cons, List.length_nil]
        (simp (disch := omega) only [StLe, tmLe, hpLe_refl, hpLe, bl, bb, bt, zDs, zD, eqCells, simprocAttr])
  rintro ⟨g, tt⟩ -
  ((refine gga0 ?_))
  ((repeat refine AW_seq ?_); (refine wta ?_); simp (disch := omega) only [retQ, resD, oneD, bb, bt, zDs, zD, eqCells, simprocAttr, Try.results44])
  have e1 : (dd a).toNat = d0 := by omega
  rw [e1, decide_eq_true hge]
  have := rsv_ints (H := [some ⟨3, g, nD (wayP dd E q d0 a)⟩]) (b := 0) (g := g) (l := nl (wayP dd E q d0 a)) rfl (nl_len _).symm 1
  simp only [rsv, rs, rsL] at this ⊢
  rw [this]
end Go.Proofs.Ytalhegbjlfkipaa.T
