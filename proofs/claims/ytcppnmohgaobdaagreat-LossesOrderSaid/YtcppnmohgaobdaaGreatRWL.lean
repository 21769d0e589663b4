import Derived.Test.YtcppnmohgaobdaaGreatRTB
import Derived.Test.YtcppnmohgaobdaaGreatRWC
import Derived.Test.YtcppnmohgaobdaaGreatRTN
set_option linter.all false
namespace Go.Proofs.YtcppnmohgaobdaaGreat.T
open Go Go.RowKit
theorem bitsMul (x y : Int) (h : 0 ≤ x ∧ x < 18446744073709551616 ∧ 0 ≤ y ∧ y < 18446744073709551616) : PRet Tryz.prog 81 [word x, word y] (.tup [word (x * y / 18446744073709551616), word (x * y % 18446744073709551616)]) := by
  refine PRet.intro 2 fun t => ACall.enter tab_ok Tryz.func81 rfl rfl Tryz.ntmps81 (by simp) ?_
  simp only [enterTM]
  ((refine wqa ?_))
  ((refine wia ?_))
  ((refine wsa ?_))
  ((repeat refine AW_seq ?_); (refine AW_region_k tab_ok fun KR hKR => ?_)); ((refine wra ?_))
  ((refine wka1 (mul64 x y h) ?_))
  ((refine wra ?_)); ((refine wea ?_); (try clear hKR KR))
  ((refine wqa ?_))
  ((repeat refine AW_seq ?_); (refine wta ?_); simp (disch := omega) only [retQ, resD, oneD, rsv, rs, rsL, rsL_eq_map, List.map_map, bb, bt, zDs, zD, eqCells, simprocAttr, Tryz.results81])
def pairC (a b : Int) (k : Nat) : List D := (List.replicate k [int a, int b]).flatten
theorem pairC_len (a b : Int) (k : Nat) : (pairC a b k).length = k * 2 := by simp [pairC]
theorem pairC_add (a b : Int) (j k : Nat) : pairC a b (j + k) = pairC a b j ++ pairC a b k := by
  unfold pairC
  rw [← List.flatten_append, List.replicate_append_replicate]
theorem pairC_take (a b : Int) (j k : Nat) (h : j ≤ k) : (pairC a b k).take (j * 2) = pairC a b j := by
  rw [show k = j + (k - j) by omega, pairC_add, List.take_left' (pairC_len a b j)]
theorem pairC_drop (a b : Int) (j k : Nat) (h : j ≤ k) : (pairC a b k).drop (j * 2) = pairC a b (k - j) := by
  rw [show k = j + (k - j) by omega, pairC_add, List.drop_left' (pairC_len a b j)]; congr 1; omega
theorem pairC_cell (a b : Int) (k : Nat) : (pairC a b k).all isCell = true := by
  induction k with
  | zero => rfl
  | succ k ih => rw [pairC_add, List.all_append, ih]; rfl
theorem pairC_plain (a b : Int) (k : Nat) : plainL (pairC a b k) = true := by
  induction k with
  | zero => rfl
  | succ k ih =>
    have : pairC a b (k + 1) = int a :: int b :: pairC a b k := by rw [Nat.add_comm, pairC_add]; rfl
    rw [this]; simp only [plainL, plainD, ih, Bool.and_self]
theorem pairC_ne (a b : Int) (k : Nat) (h : 0 < k) : pairC a b k ≠ [] := fun e => by
  have := pairC_len a b k
  rw [e] at this; simp at this; omega
def fillC (a b : Int) (n k : Nat) : List D := pairC a b k ++ pairC 0 0 (n - k)
theorem fillC_len (a b : Int) (n k : Nat) (h : k ≤ n) : (fillC a b n k).length = n * 2 := by simp only [fillC, List.length_append, pairC_len]; omega
theorem fillC_take (a b : Int) (n k : Nat) : (fillC a b n k).take (k * 2) = pairC a b k := List.take_left' (pairC_len a b k)
theorem fillC_step (a b : Int) (n k j : Nat) (h : k + j ≤ n) : pairC a b k ++ pairC a b j ++ (fillC a b n k).drop (k * 2 + j * 2) = fillC a b n (k + j) := by
  unfold fillC
  rw [pairC_add, List.append_assoc, List.append_assoc]
  congr 2
  rw [List.drop_append, List.drop_eq_nil_of_le (by rw [pairC_len]; omega), List.nil_append, pairC_len, show k * 2 + j * 2 - k * 2 = j * 2 by omega, pairC_drop _ _ _ _ (by omega)]
  congr 1
  omega
set_option maxHeartbeats 1000000 in
theorem repeatFr (a b : Int) (n : Nat) (h1 : 1 ≤ n) (h2 : n ≤ 1000) : PFresh Tryz.prog 68 [.sl 2 [int a, int b] false, int n] 27 2 n (pairC a b n) := by
  refine PFresh.intro (pairC_plain a b n) fun t => ACall.enter tab_ok Tryz.func68 rfl rfl Tryz.ntmps68 (by simp) ?_
  simp only [enterTM]
  ((refine wqa ?_))
  have e0 : ¬ (n : Int) < 0 := by omega
  ((refine wqb e0 ?_))
  ((refine wia ?_))
  ((refine wsa ?_))
  have hm := bitsMul 1 n (by omega)
  have e1 : (1 : Int) * n / 18446744073709551616 = 0 := by omega
  have e2 : (1 : Int) * n % 18446744073709551616 = n := by omega
  rw [e1, e2] at hm
  ((repeat refine AW_seq ?_); (refine AW_region_k tab_ok fun KR hKR => ?_)); ((refine wra ?_))
  ((refine wka1 hm ?_))
  ((refine wra ?_)); ((refine wea ?_); (try clear hKR KR))
  have e3 : ¬ (9223372036854775807 : Int) < n := by omega
  ((refine wqb (F := _∧_) ⟨@Int.lt_irrefl, e3⟩ ?_))
  ((refine wia ?_))
  ((refine wsa ?_))
  ((refine wqa ?_))
  rw [show (List.replicate n [D.v (Value.int IntKind.i64 0), D.v (Value.int IntKind.i64 0)]).flatten = pairC 0 0 n from rfl]
  have hlen := pairC_len 0 0 n
  have hmin : min 1 n = 1 := by omega
  have hn0 : 0 < n := h1
  have hcl : ([int a, int b] : List D).all isCell = true := rfl
  ((refine wqb (F := _∧_∧_∧_) ⟨hlen, hmin, hn0, @Nat.le_refl⟩ ?_))
  have hf1 : int a :: int b :: List.drop 2 (pairC 0 0 n) = fillC a b n 1 := by
    unfold fillC
    have := pairC_drop 0 0 1 n h1
    simp only [Nat.one_mul] at this
    rw [this]; rfl
  rw [hf1]
  ((repeat refine AW_seq ?_))
  refine AW_mid (fun x : Nat => ⟨[(7, .own 2 0 (t + 1) 0 n)], [some ⟨27, t + 1, pairC a b n⟩], x⟩) (fun _ => True) ?_ ?_
  · refine AW_block ?_
    refine AW_loop_w (fun x : Nat × Nat => ⟨[(7, .own 2 0 (t + 1) 0 n), (8, int x.1)], [some ⟨27, t + 1, fillC a b n x.1⟩], x.2⟩) (fun x => n - x.1) (fun x => 1 ≤ x.1 ∧ x.1 ≤ n) (1, t + 1) ⟨Nat.le_refl _, h1⟩ (by (simp (disch := omega) only [StLe, tmLe, hpLe_refl, hpLe, bl, bb, bt, zDs, zD, eqCells, simprocAttr])) ?_
    rintro ⟨k, tt⟩ ⟨hk1, hk⟩
    simp only at hk1 hk
    have hlen := fillC_len a b n k hk
    by_cases hlt : k < n
    · ((refine wqb (F := _∧_) ⟨@Int.ofNat_lt, hlt⟩ ?_))
      ((refine wia ?_))
      ((refine wsa ?_))
      ((repeat refine AW_seq ?_))
      refine AW_block ?_
      have hk0 : 0 < k := hk1
      have hnk : 0 < n - k := by omega
      have hle1 : k * 2 ≤ n * 2 := by omega
      have hle2 : k * 2 + (n - k) * 2 ≤ n * 2 := by omega
      have htk := fillC_take a b n k
      have hpl := pairC_len a b k
      have hpc := pairC_cell a b k
      have hpn : ¬ pairC a b k = [] := pairC_ne a b k hk0
      have hdv : k * 2 / 2 = k := by omega
      have htk2 := pairC_take a b (min k (n - k)) k (Nat.min_le_left _ _)
      have hst := fillC_step a b n k (min k (n - k)) (by omega)
      ((repeat refine AW_seq ?_); (refine AW_drawn_k tab_ok follows_mixed 0 fun KR hKR => ?_); simp only [List.replicate_succ, List.replicate_zero, List.append_nil, List.nil_append, List.cons_append, List.length_cons, List.length_nil, Nat.reduceAdd])
      ((refine wdb (F := _∧_∧_∧_∧_∧_∧_∧_∧_∧_∧_∧_∧_∧_∧_∧_) ⟨hk0, hk, hlt, hlen, hle1, htk, hpl, hpc, hpn, hdv, htk2, hst, hnk, hle2, @Nat.sub_zero, @Nat.le_refl⟩ ?_))
      ((refine awD_nil ?_); simp only [List.reverse_cons, List.reverse_nil, List.nil_append, List.cons_append]; (refine hKR _ _ (by first | rfl | kernel_rfl) ?_); (try clear hKR KR); (repeat (with_reducible first | refine q1 ?_ | refine q2 ?_ | refine q3 ?_ | refine q4 ?_ | refine q5 ?_ | refine q6 ?_ | (refine q7 ?_ ?_; (focus (with_unfolding_all rfl))))))
      refine ⟨(k + min k (n - k), tt + 1), ⟨by show 1 ≤ k + min k (n - k); omega, by show k + min k (n - k) ≤ n; omega⟩, by show n - (k + min k (n - k)) < n - k; omega, ?_⟩
      (simp (disch := omega) only [StLe, tmLe, hpLe_refl, hpLe, bl, bb, bt, zDs, zD, eqCells, simprocAttr])
    · have hke : k = n := by omega
      subst hke
      ((refine wqb @Int.lt_irrefl ?_))
      ((refine wia ?_))
      ((refine wxa ?_))
      have hfe : fillC a b k k = pairC a b k := by unfold fillC; rw [Nat.sub_self]; simp [pairC]
      rw [hfe]
      exact ⟨tt, trivial, by (simp (disch := omega) only [StLe, tmLe, hpLe_refl, hpLe, bl, bb, bt, zDs, zD, eqCells, simprocAttr])⟩
  · rintro tt -
    ((refine wqa ?_))
    ((repeat refine AW_seq ?_); (refine wta ?_); simp (disch := omega) only [retQ, resD, oneD, bb, bt, zDs, zD, eqCells, simprocAttr, Tryz.results68])
    exact .inr ⟨0, t + 1, rfl, rfl⟩
end Go.Proofs.YtcppnmohgaobdaaGreat.T

