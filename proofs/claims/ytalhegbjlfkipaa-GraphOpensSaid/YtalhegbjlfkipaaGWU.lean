import Derived.Test.YtalhegbjlfkipaaGWQ
import Derived.Test.YtalhegbjlfkipaaGWN
import Derived.Test.YtalhegbjlfkipaaGPG
set_option linter.all false
namespace Go.Proofs.Ytalhegbjlfkipaa.T
open Go Go.RowKit Gr
set_option linter.unusedSimpArgs false

/-! Graphs: Bridges of the program. -/
theorem bridgesTrue (k : Int) : PRet Try.prog 38 [int k] (bool true) := by
  refine PRet.intro 1 fun t => ACall.enter tab_ok Try.func38 rfl rfl Try.ntmps38 (by simp) ?_
  simp only [enterTM]
  ((refine gga0 ?_))
  ((repeat refine AW_seq ?_); (refine wta ?_); simp (disch := omega) only [retQ, resD, oneD, rsv, rs, rsL, rsL_eq_map, List.map_map, bb, bt, zDs, zD, eqCells, simprocAttr, Try.results38])
theorem fz_bD (b g : Nat) (cs : List D) (l : List Bool) : fzL b g cs (bD l) = bD l := by
  unfold bD
  induction l with
  | nil => rfl
  | cons x l ih => simp only [List.map_cons, fzL, fz, ih]
def capsV (g gb gc gv n : Nat) (PM : List (List Int)) (E : List (Nat × Nat)) : List D :=
  [.ptr 8 gc 0, .rp [.own 1 2 g 0 n] 0, .rp [.own 1 3 g 0 n] 0, .rp [mat PM] 0, .rp [eds (edN E)] 0, .ptr 9 gv 0, .rp [.own 1 6 gb 0 E.length] 0]
def HV (g gb gc gv n : Nat) (PM : List (List Int)) (E : List (Nat × Nat)) (s : DF) : Hp :=
  [none, none, some ⟨3, g, nD s.od⟩, some ⟨3, g, nD s.lw⟩, none, none, some ⟨4, gb, bD s.br⟩, none, some ⟨3, gc, [int s.ct]⟩, some ⟨56, gv, [.fn 39 (capsV g gb gc gv n PM E)]⟩]
theorem ltN (p q : Nat) : decide ((p : Int) < (q : Int)) = decide (p < q) := by rw [decide_eq_decide]; omega
theorem getD_get {l : List Nat} {x : Nat} (h : x < l.length) : l[x]? = some (l.getD x 0) := by simp [List.getD_eq_getElem?_getD, h]
set_option maxHeartbeats 4000000 in
theorem visit_call (n : Nat) (E : List (Nat × Nat)) (ho : Ok n E) (hn : n ≤ 1000) (hE : E.length ≤ 4000) (g gb gc gv : Nat) (at_ : Nat → List Nat) (hat : ∀ x k, k ∈ at_ x ↔ ∃ y, oth E k x = some y) (hatl : ∀ x, (at_ x).length ≤ E.length)
    (PM : List (List Int)) (hPM : PM.length = n) (hrow : ∀ x, x < n → PM[x]? = some (nl (at_ x))) : ∀ (f : Nat) (s : DF) (node : Nat) (by_ : Int) (t : Nat), Pre n E s node by_ → unv s ≤ f → s.ct + unv s = n →
    ACall Try.prog 39 (int node :: int by_ :: capsV g gb gc gv n PM E) (HV g gb gc gv n PM E s) t (fun _ H' t' => H' = HV g gb gc gv n PM E (visitP E at_ f node by_ s) ∧ t ≤ t')
  | 0, s, node, by_, t, hp, hf, hc => by
    have := begin_unv hp
    omega
  | f + 1, s, node, by_, t, hp, hf, hc => by
    have hbu := begin_unv hp
    have hlt := hp.lt
    have hlt1 : node + 1 ≤ n := hlt
    have hlo := hp.len.od
    have hll := hp.len.lw
    have hct : ((s.ct : Int) + 1) = ((s.ct + 1 : Nat) : Int) := rfl
    have hl1 := nD_len s.od
    have hl2 := nD_len s.lw
    have hs1 := nD_set s.od node (s.ct + 1)
    have hs2 := nD_set s.lw node (s.ct + 1)
    have hr := hrow node hlt
    have hrl := nl_len (at_ node)
    have hLl := hatl node
    refine ACall.enter tab_ok Try.func39 rfl rfl Try.ntmps39 (by simp [capsV]) ?_
    simp only [capsV, HV, enterTM]
    ((refine wqb hct ?_))
    ((repeat refine AW_seq ?_); (refine gdzb (F := _∧_∧_∧_∧_∧_∧_∧_) ⟨hlt, hlt1, hlo, hll, hl1, hl2, hs1, hs2⟩ ?_))
    ((refine wqb (F := _∧_∧_∧_) ⟨hlt, hr, hPM, hrl⟩ ?_))
    have hcnt := visit_cnt ho hat f
    have h0 := hp.begin_
    have hfold : visitP E at_ (f + 1) node by_ s = (at_ node).foldl (stepV (visitP E at_ f) E node by_) (beginV node s) := rfl
    have hmemL : ∀ k ∈ at_ node, k ∈ at_ node := fun k hk => hk
    refine AW_block ?_
    refine AW_loop_w (fun x : (Nat × DF) × Nat => ⟨[(0, int node), (1, int by_), (2, .ptr 8 gc 0), (3, .rp [.own 1 2 g 0 n] 0), (4, .rp [.own 1 3 g 0 n] 0), (5, .rp [mat PM] 0), (6, .rp [eds (edN E)] 0), (7, .ptr 9 gv 0), (8, .rp [.own 1 6 gb 0 E.length] 0), (27, ints (nl (at_ node))), (28, int (at_ node).length), (29, int x.1.1)], [none, none, some ⟨3, g, nD x.1.2.od⟩, some ⟨3, g, nD x.1.2.lw⟩, none, none, some ⟨4, gb, bD x.1.2.br⟩, none, some ⟨3, gc, [int x.1.2.ct]⟩, some ⟨56, gv, [.fn 39 [.ptr 8 gc 0, .rp [.own 1 2 g 0 n] 0, .rp [.own 1 3 g 0 n] 0, .rp [mat PM] 0, .rp [eds (edN E)] 0, .ptr 9 gv 0, .rp [.own 1 6 gb 0 E.length] 0]]⟩], x.2⟩) (fun x => (at_ node).length - x.1.1)
      (fun x => x.1.1 ≤ (at_ node).length ∧ x.1.2 = ((at_ node).take x.1.1).foldl (stepV (visitP E at_ f) E node by_) (beginV node s) ∧ (∃ p, Mid n E s node by_ p x.1.2) ∧ unv x.1.2 ≤ f ∧ x.1.2.ct + unv x.1.2 = n ∧ t ≤ x.2) ((0, beginV node s), t + 1)
      ⟨Nat.zero_le _, rfl, ⟨_, h0⟩, by show unv (beginV node s) ≤ f; omega, by show s.ct + 1 + unv (beginV node s) = n; omega, by show t ≤ t + 1; omega⟩ (by (simp (disch := omega) only [StLe, tmLe, hpLe_refl, hpLe, bl, bb, bt, zDs, zD, eqCells, simprocAttr, beginV])) ?_
    rintro ⟨⟨j, sj⟩, tt⟩ ⟨hj, hsj, ⟨pj, hmid⟩, huj, hcj, htt⟩
    simp only at hj hsj hmid huj hcj htt
    by_cases hjt : j < (at_ node).length
    · obtain ⟨i, hLi⟩ : ∃ y, (at_ node)[j]? = some y := ⟨_, List.getElem?_eq_getElem hjt⟩
      have him := List.mem_of_getElem? hLi
      obtain ⟨z, hz⟩ := (hat node i).1 him
      have hiE := oth_idx hz
      obtain ⟨_, hzn, hnz⟩ := oth_lt ho hz
      obtain ⟨⟨u, v⟩, he⟩ : ∃ y, E[i]? = some y := ⟨_, List.getElem?_eq_getElem hiE⟩
      obtain ⟨hun, hvn, huv⟩ := ho.get he
      have hen := edN_get he
      have hrd := edC_read _ _ _ hen
      simp only at hrd
      have hr2 : i * 2 < E.length * 2 := by omega
      have hr3 : i * 2 + 2 ≤ E.length * 2 := by omega
      have hO := otherG (u : Int) (v : Int) (node : Int) (by omega) (by omega) (by omega)
      rw [oth_sum ho he hz] at hO
      have hLn := nl_get hLi
      have hsn : ((at_ node).take (j + 1)).foldl (stepV (visitP E at_ f) E node by_) (beginV node s) = stepV (visitP E at_ f) E node by_ sj i := by
        rw [List.take_add_one, hLi, hsj]
        simp
      obtain ⟨hm2, hu2, hc2⟩ := step_mid ho hat hcnt hp hmid huj hcj him
      have hse : stepV (visitP E at_ f) E node by_ sj i = if (i : Int) = by_ then sj else if 0 < sj.o z then { sj with lw := sj.lw.set node (min (sj.l node) (sj.o z)) } else { visitP E at_ f z i sj with lw := (visitP E at_ f z i sj).lw.set node (min ((visitP E at_ f z i sj).l node) ((visitP E at_ f z i sj).l z)), br := (visitP E at_ f z i sj).br.set i (decide ((visitP E at_ f z i sj).o node < (visitP E at_ f z i sj).l z)) } := by
        unfold stepV
        rw [hz]
      have hod := hmid.len.od
      have hlw := hmid.len.lw
      have d1 : (nD sj.od)[z]? = some (int (sj.o z)) := nD_get (getD_get (by omega))
      have d2 : (nD sj.lw)[node]? = some (int (sj.l node)) := nD_get (getD_get (by omega))
      have k1 := nD_len sj.od
      have k2 := nD_len sj.lw
      have kmin := minN (sj.l node) (sj.o z)
      have kset := nD_set sj.lw node (min (sj.l node) (sj.o z))
      have kgt := ltN 0 (sj.o z)
      ((refine ggb0 (F := _∧_) ⟨@Int.ofNat_lt, hjt⟩ ?_))
      ((repeat refine AW_seq ?_))
      refine AW_block ?_
      ((refine ggb1 (F := _∧_∧_∧_∧_∧_∧_∧_) ⟨hjt, hLn, hrl, hr2, hr3, edC_len, edN_len, hrd⟩ hO ?_))
      refine AW_block ?_
      by_cases hb : (i : Int) = by_
      · have e1 : ((i : Int) == by_) = true := by simp [hb]
        rw [if_pos hb] at hse
        rw [hse] at hm2
        ((refine ggb0 e1 ?_))
        refine ⟨((j + 1, sj), tt), ⟨hjt, by rw [hsn, hse], ⟨_, hm2⟩, huj, hcj, htt⟩, by show (at_ node).length - (j + 1) < (at_ node).length - j; omega, ?_⟩
        (simp (disch := omega) only [StLe, tmLe, hpLe_refl, hpLe, bl, bb, bt, zDs, zD, eqCells, simprocAttr])
      have e1 : ((i : Int) == by_) = false := by simpa using hb
      rw [if_neg hb] at hse
      by_cases hv : 0 < sj.o z
      · have e2 : decide ((0 : Int) < (sj.o z : Int)) = true := by simp; omega
        rw [if_pos hv] at hse
        rw [hse] at hm2 hu2 hc2
        ((refine ggb0 (F := _∧_∧_∧_∧_∧_) ⟨e1, hzn, hod, k1, d1, e2⟩ ?_))
        ((repeat refine AW_seq ?_); (refine gdzb (F := _∧_∧_∧_∧_∧_∧_∧_∧_∧_∧_) ⟨hlt, hlt1, hzn, hod, hlw, k1, k2, d1, d2, kmin, kset⟩ ?_))
        ((refine gga0 ?_))
        refine ⟨((j + 1, { sj with lw := sj.lw.set node (min (sj.l node) (sj.o z)) }), tt + 1), ⟨hjt, by rw [hsn, hse], ⟨_, hm2⟩, hu2, hc2, by show t ≤ tt + 1; omega⟩, by show (at_ node).length - (j + 1) < (at_ node).length - j; omega, ?_⟩
        (simp (disch := omega) only [StLe, tmLe, hpLe_refl, hpLe, bl, bb, bt, zDs, zD, eqCells, simprocAttr])
      have e2 : decide ((0 : Int) < (sj.o z : Int)) = false := by simp; omega
      have hpre := hmid.pre ho hp hz hv
      have q := visit_post ho hat f sj z i hpre huj
      have hIH := visit_call n E ho hn hE g gb gc gv at_ hat hatl PM hPM hrow f sj z i
      generalize hs2 : visitP E at_ f z i sj = s2 at *
      ((refine ggb0 (F := _∧_∧_∧_∧_∧_) ⟨e1, hzn, hod, k1, d1, e2⟩ ?_))
      ((try with_reducible intro KR hKR); (first | refine awOps_nc fun KK hKK => ?_ | refine awOps_gc rfl fun KK hKK => ?_); simp (disch := omega) only [bb, bt, zDs, zD, eqCells, simprocAttr, goC, callO_fn, argsD, and_self])
      refine (hIH tt hpre huj hcj).mono ?_
      rintro d H' t' ⟨rfl, ht'⟩
      simp only [HV, capsV]
      (simp (disch := omega) only [bb, bt, zDs, zD, eqCells, simprocAttr, afterC]; refine hKK _ ?_; clear hKK KK)
      ((refine wra ?_))
      ((refine wea ?_); (try clear hKR KR))
      have o2 := q.len.od
      have w2 := q.len.lw
      have b2 := q.len.br
      have p1 : (nD s2.lw)[node]? = some (int (s2.l node)) := nD_get (getD_get (by omega))
      have p2 : (nD s2.lw)[z]? = some (int (s2.l z)) := nD_get (getD_get (by omega))
      have p4 : (nD s2.od)[node]? = some (int (s2.o node)) := nD_get (getD_get (by omega))
      have p3 : (nD (s2.lw.set node (min (s2.l node) (s2.l z))))[z]? = some (int (s2.l z)) := nD_get (by
        rw [List.getElem?_set_ne hnz]
        exact getD_get (by omega))
      have l1 := nD_len s2.od
      have l2 := nD_len s2.lw
      have l3 := nD_len (s2.lw.set node (min (s2.l node) (s2.l z)))
      have l4 := bD_len s2.br
      have l5 : (s2.lw.set node (min (s2.l node) (s2.l z))).length = n := by rw [List.length_set]; exact w2
      have kmin2 := minN (s2.l node) (s2.l z)
      have kset2 := nD_set s2.lw node (min (s2.l node) (s2.l z))
      have kgt2 := ltN (s2.o node) (s2.l z)
      have kb2 := bD_set s2.br i (decide (s2.o node < s2.l z))
      have hiE1 : i + 1 ≤ E.length := hiE
      ((repeat refine AW_seq ?_); (refine gdzb (F := _∧_∧_∧_∧_∧_∧_∧_∧_∧_∧_) ⟨hlt, hlt1, hzn, o2, w2, l1, l2, p1, p2, kmin2, kset2⟩ ?_))
      ((repeat refine AW_seq ?_); (refine gdzb (F := _∧_∧_∧_∧_∧_∧_∧_∧_∧_∧_∧_∧_∧_∧_∧_) ⟨hlt, hzn, hiE, hiE1, o2, w2, b2, l1, l2, l3, l4, l5, p3, p4, kgt2, kb2⟩ ?_))
      ((refine gga0 ?_))
      rw [if_neg hv] at hse
      rw [hse] at hm2 hu2 hc2
      refine ⟨((j + 1, { s2 with lw := s2.lw.set node (min (s2.l node) (s2.l z)), br := s2.br.set i (decide (s2.o node < s2.l z)) }), t' + 1 + 1), ⟨hjt, by rw [hsn, hse], ⟨_, hm2⟩, hu2, hc2, by show t ≤ t' + 1 + 1; omega⟩, by show (at_ node).length - (j + 1) < (at_ node).length - j; omega, ?_⟩
      (simp (disch := omega) only [StLe, tmLe, hpLe_refl, hpLe, bl, bb, bt, zDs, zD, eqCells, simprocAttr])
    · have hje : j = (at_ node).length := by omega
      subst hje
      rw [List.take_length] at hsj
      rw [hfold, ← hsj]
      ((refine ggb0 @Int.lt_irrefl ?_))
      (simp (disch := omega) only [retQ, resD, oneD, rsv, rs, rsL, rsL_eq_map, List.map_map, bb, bt, zDs, zD, eqCells, simprocAttr, Try.results39])
      exact htt
end Go.Proofs.Ytalhegbjlfkipaa.T
