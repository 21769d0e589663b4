import Derived.Test.YtalhegbjlfkipaaGWO
import Derived.Test.YtalhegbjlfkipaaGWG
set_option linter.all false
namespace Go.Proofs.Ytalhegbjlfkipaa.T
open Go Go.RowKit Gr
set_option linter.unusedSimpArgs false

/-! Graphs: slices.Repeat, the ways of the program. -/
theorem mul64 (x y : Int) (h : 0 ≤ x ∧ x < 18446744073709551616 ∧ 0 ≤ y ∧ y < 18446744073709551616) : PRet Try.prog 67 [word x, word y] (.tup [word (x * y / 18446744073709551616), word (x * y % 18446744073709551616)]) :=
  PRet.of_calls (us := [.int .u64 x, .int .u64 y]) ⟨_, Try.func67, rfl, rfl⟩ (fun _ _ _ h => repL_vs h) (fun F => by simp only [Rep]; exact ⟨_, rfl, RepL_v F [] [_, _]⟩) fun w => (bits_Mul64 x y h.1 h.2.1 h.2.2.1 h.2.2.2 w).mono fun _ _ => below_same
theorem bitsMul (x y : Int) (h : 0 ≤ x ∧ x < 18446744073709551616 ∧ 0 ≤ y ∧ y < 18446744073709551616) : PRet Try.prog 65 [word x, word y] (.tup [word (x * y / 18446744073709551616), word (x * y % 18446744073709551616)]) := by
  refine PRet.intro 2 fun t => ACall.enter tab_ok Try.func65 rfl rfl Try.ntmps65 (by simp) ?_
  simp only [enterTM]
  ((refine wqa ?_))
  ((refine wia ?_))
  ((refine wsa ?_))
  ((repeat refine AW_seq ?_); (refine AW_region_k tab_ok fun KR hKR => ?_)); ((refine wra ?_))
  ((refine wka1 (mul64 x y h) ?_))
  ((refine wra ?_)); ((refine wea ?_); (try clear hKR KR))
  ((refine wqa ?_))
  ((repeat refine AW_seq ?_); (refine wta ?_); simp (disch := omega) only [retQ, resD, oneD, rsv, rs, rsL, rsL_eq_map, List.map_map, bb, bt, zDs, zD, eqCells, simprocAttr, Try.results65])
def repC (a : Int) (k : Nat) : List D := List.replicate k (int a)
theorem repC_len (a : Int) (k : Nat) : (repC a k).length = k := by simp [repC]
theorem repC_add (a : Int) (j k : Nat) : repC a (j + k) = repC a j ++ repC a k := by simp [repC, List.replicate_append_replicate]
theorem repC_take (a : Int) (j k : Nat) (h : j ≤ k) : (repC a k).take j = repC a j := by
  rw [show k = j + (k - j) by omega, repC_add, List.take_left' (repC_len a j)]
theorem repC_drop (a : Int) (j k : Nat) (h : j ≤ k) : (repC a k).drop j = repC a (k - j) := by
  rw [show k = j + (k - j) by omega, repC_add, List.drop_left' (repC_len a j)]; congr 1; omega
theorem repC_cell (a : Int) (k : Nat) : (repC a k).all isCell = true := by simp [repC, isCell, Value.oneCell']
theorem repC_ne (a : Int) (k : Nat) (h : 0 < k) : repC a k ≠ [] := fun e => by
  have := repC_len a k
  rw [e] at this; simp at this; omega
def filC (a : Int) (n k : Nat) : List D := repC a k ++ repC 0 (n - k)
theorem filC_len (a : Int) (n k : Nat) (h : k ≤ n) : (filC a n k).length = n := by simp only [filC, List.length_append, repC_len]; omega
theorem filC_take (a : Int) (n k : Nat) : (filC a n k).take k = repC a k := List.take_left' (repC_len a k)
theorem filC_step (a : Int) (n k j : Nat) (h : k + j ≤ n) : repC a k ++ repC a j ++ (filC a n k).drop (k + j) = filC a n (k + j) := by
  unfold filC
  rw [repC_add, List.append_assoc, List.append_assoc]
  congr 2
  rw [List.drop_append, List.drop_eq_nil_of_le (by rw [repC_len]; omega), List.nil_append, repC_len, show k + j - k = j by omega, repC_drop _ _ _ (by omega)]
  congr 1
  omega
theorem repC_iD (a : Int) (n : Nat) : repC a n = iD (List.replicate n a) := by simp [repC, iD]
set_option maxHeartbeats 1000000 in
theorem repeatInt (a : Int) (n : Nat) (h1 : 1 ≤ n) (h2 : n ≤ 1000) : PFresh Try.prog 58 [.sl 1 [int a] false, int n] 3 1 n (repC a n) := by
  refine PFresh.intro (by rw [repC_iD]; exact plainL_ints _) fun t => ACall.enter tab_ok Try.func58 rfl rfl Try.ntmps58 (by simp) ?_
  simp only [enterTM]
  ((refine wqa ?_))
  have e0 : ¬ (n : Int) < 0 := by omega
  ((refine wqb e0 ?_))
  ((refine wia ?_))
  ((refine wsa ?_))
  have hm := bitsMul 1 n (by omega)
  have e1 : (1 : Int) * n / 18446744073709551616 = 0 := by omega
  have e2 : (1 : Int) * n % 18446744073709551616 = n := by omega
  rw [e1, e2] at hm
  ((repeat refine AW_seq ?_); (refine AW_region_k tab_ok fun KR hKR => ?_)); ((refine wra ?_))
  ((refine wka1 hm ?_))
  ((refine wra ?_)); ((refine wea ?_); (try clear hKR KR))
  have e3 : ¬ (9223372036854775807 : Int) < n := by omega
  ((refine wqb (F := _∧_) ⟨@Int.lt_irrefl, e3⟩ ?_))
  ((refine wia ?_))
  ((refine wsa ?_))
  ((refine wqa ?_))
  rw [show (List.replicate n [D.v (Value.int IntKind.i64 0)]).flatten = repC 0 n from flat_one n _]
  have hlen := repC_len 0 n
  have hmin : min 1 n = 1 := by omega
  have hn0 : 0 < n := h1
  have hcl : ([int a] : List D).all isCell = true := rfl
  ((refine wqb (F := _∧_∧_∧_) ⟨hlen, hmin, hn0, @Nat.le_refl⟩ ?_))
  have hf1 : int a :: List.drop 1 (repC 0 n) = filC a n 1 := by
    unfold filC
    rw [repC_drop 0 1 n h1]; rfl
  rw [hf1]
  ((repeat refine AW_seq ?_))
  refine AW_mid (fun x : Nat => ⟨[(7, .own 1 0 (t + 1) 0 n)], [some ⟨3, t + 1, repC a n⟩], x⟩) (fun _ => True) ?_ ?_
  · refine AW_block ?_
    refine AW_loop_w (fun x : Nat × Nat => ⟨[(7, .own 1 0 (t + 1) 0 n), (8, int x.1)], [some ⟨3, t + 1, filC a n x.1⟩], x.2⟩) (fun x => n - x.1) (fun x => 1 ≤ x.1 ∧ x.1 ≤ n) (1, t + 1) ⟨Nat.le_refl _, h1⟩ (by (simp (disch := omega) only [StLe, tmLe, hpLe_refl, hpLe, bl, bb, bt, zDs, zD, eqCells, simprocAttr])) ?_
    rintro ⟨k, tt⟩ ⟨hk1, hk⟩
    simp only at hk1 hk
    have hlen := filC_len a n k hk
    by_cases hlt : k < n
    · ((refine wqb (F := _∧_) ⟨@Int.ofNat_lt, hlt⟩ ?_))
      ((refine wia ?_))
      ((refine wsa ?_))
      ((repeat refine AW_seq ?_))
      refine AW_block ?_
      have hk0 : 0 < k := hk1
      have hnk : 0 < n - k := by omega
      have hle2 : k + (n - k) ≤ n := by omega
      have htk := filC_take a n k
      have hpl := repC_len a k
      have hpc := repC_cell a k
      have hpn : ¬ repC a k = [] := repC_ne a k hk0
      have htk2 := repC_take a (min k (n - k)) k (Nat.min_le_left _ _)
      have hst := filC_step a n k (min k (n - k)) (by omega)
      ((repeat refine AW_seq ?_); (refine AW_drawn_k tab_ok follows_mixed 0 fun KR hKR => ?_); simp only [List.replicate_succ, List.replicate_zero, List.append_nil, List.nil_append, List.cons_append, List.length_cons, List.length_nil, Nat.reduceAdd])
      ((refine wdb (F := _∧_∧_∧_∧_∧_∧_∧_∧_∧_∧_∧_∧_∧_) ⟨hk0, hk, hlt, hlen, htk, hpl, hpc, hpn, htk2, hst, hnk, hle2, @Nat.sub_zero, @Nat.le_refl⟩ ?_))
      ((refine awD_nil ?_); simp only [List.reverse_cons, List.reverse_nil, List.nil_append, List.cons_append]; (refine hKR _ _ (by first | rfl | kernel_rfl) ?_); (try clear hKR KR); (repeat (with_reducible first | refine q1 ?_ | refine q2 ?_ | refine q3 ?_ | refine q4 ?_ | refine q5 ?_ | refine q6 ?_ | (refine q7 ?_ ?_; (focus (with_unfolding_all rfl))))))
      refine ⟨(k + min k (n - k), tt + 1), ⟨by show 1 ≤ k + min k (n - k); omega, by show k + min k (n - k) ≤ n; omega⟩, by show n - (k + min k (n - k)) < n - k; omega, ?_⟩
      (simp (disch := omega) only [StLe, tmLe, hpLe_refl, hpLe, bl, bb, bt, zDs, zD, eqCells, simprocAttr])
    · have hke : k = n := by omega
      subst hke
      ((refine wqb @Int.lt_irrefl ?_))
      ((refine wia ?_))
      ((refine wxa ?_))
      have hfe : filC a k k = repC a k := by unfold filC; rw [Nat.sub_self]; simp [repC]
      rw [hfe]
      exact ⟨tt, trivial, by (simp (disch := omega) only [StLe, tmLe, hpLe_refl, hpLe, bl, bb, bt, zDs, zD, eqCells, simprocAttr])⟩
  · rintro tt -
    ((refine wqa ?_))
    ((repeat refine AW_seq ?_); (refine wta ?_); simp (disch := omega) only [retQ, resD, oneD, bb, bt, zDs, zD, eqCells, simprocAttr, Try.results58])
    exact .inr ⟨0, t + 1, rfl, rfl⟩
end Go.Proofs.Ytalhegbjlfkipaa.T
