import Derived.Test.YtpbpafmgkdihlaaGreatDoorQTB
import Derived.Test.YtpbpafmgkdihlaaGreatDoorQWC
import Derived.Test.YtpbpafmgkdihlaaGreatDoorQTN
set_option linter.all false
namespace Go.Proofs.YtpbpafmgkdihlaaGreatDoor.T
open Go Go.RowKit
theorem Yrc (x y : Int) (h : 0 ≤ x ∧ x < 18446744073709551616 ∧ 0 ≤ y ∧ y < 18446744073709551616) : PRet Tryz.prog 144 [word x, word y] (.tup [word (x * y / 18446744073709551616), word (x * y % 18446744073709551616)]) := by
 refine pri 2 Tryz.func144 Tryz.ntmps144 fun t => ?_
 simp only [Y04]
 refine wqa ?_
 refine wia ?_
 refine wsa ?_
 ((repeat refine Y00 ?_); (refine Y03 tab_ok fun KR hKR => ?_)); ((refine wra ?_))
 ((refine wka1 (Ysy x y h) ?_))
 ((refine wra ?_)); ((refine wea ?_); (try clear hKR KR))
 refine wqa ?_
 exact exx Tryz.results144
def Y31 (a b : Int) (k : Nat) : List D := (List.replicate k [int a, int b]).flatten
theorem Y30 (a b : Int) (k : Nat) : (Y31 a b k).length = k * 2 := by simp [Y31]
theorem Y4y (a b : Int) (j k : Nat) : Y31 a b (j + k) = Y31 a b j ++ Y31 a b k := by
 unfold Y31
 rw [← List.flatten_append, List.replicate_append_replicate]
theorem Ylg (a b : Int) (j k : Nat) (h : j ≤ k) : (Y31 a b k).take (j * 2) = Y31 a b j := by
 rw [show k = j + (k - j) by omega, Y4y, List.take_left' (Y30 a b j)]
theorem Ybz (a b : Int) (j k : Nat) (h : j ≤ k) : (Y31 a b k).drop (j * 2) = Y31 a b (k - j) := by
 rw [show k = j + (k - j) by omega, Y4y, List.drop_left' (Y30 a b j)]; congr 1; omega
theorem Ylh (a b : Int) (k : Nat) : (Y31 a b k).all Y26 = true := by
 induction k with
 | zero => rfl
 | succ k ih => rw [Y4y, List.all_append, ih]; rfl
theorem Yhl (a b : Int) (k : Nat) : Y11 (Y31 a b k) = true := by
 induction k with
 | zero => rfl
 | succ k ih =>
  have : Y31 a b (k + 1) = int a :: int b :: Y31 a b k := by rw [Nat.add_comm, Y4y]; rfl
  rw [this]; simp only [Y11, Y17, ih, Bool.and_self]
theorem Yso (a b : Int) (k : Nat) (h : 0 < k) : Y31 a b k ≠ [] := fun e => by
 have := Y30 a b k
 rw [e] at this; simp at this; omega
def Yax (a b : Int) (n k : Nat) : List D := Y31 a b k ++ Y31 0 0 (n - k)
theorem Yq6 (a b : Int) (n k : Nat) (h : k ≤ n) : (Yax a b n k).length = n * 2 := by simp only [Yax, List.length_append, Y30]; omega
theorem Ym2 (a b : Int) (n k : Nat) : (Yax a b n k).take (k * 2) = Y31 a b k := List.take_left' (Y30 a b k)
theorem Ym3 (a b : Int) (n k j : Nat) (h : k + j ≤ n) : Y31 a b k ++ Y31 a b j ++ (Yax a b n k).drop (k * 2 + j * 2) = Yax a b n (k + j) := by
 unfold Yax
 rw [Y4y, List.append_assoc, List.append_assoc]
 congr 2
 rw [List.drop_append, List.drop_eq_nil_of_le (by rw [Y30]; omega), List.nil_append, Y30, show k * 2 + j * 2 - k * 2 = j * 2 by omega, Ybz _ _ _ _ (by omega)]
 congr 1
 omega
set_option maxHeartbeats 1000000 in
theorem Yjh (a b : Int) (n : Nat) (h1 : 1 ≤ n) (h2 : n ≤ 1000) : PFresh Tryz.prog 134 [.sl 2 [int a, int b] false, int n] 33 2 n (Y31 a b n) := by
 refine PFresh.intro (Yhl a b n) fun t => ACall.enter tab_ok Tryz.func134 rfl rfl Tryz.ntmps134 (by simp) ?_
 simp only [Y04]
 refine wqa ?_
 have e0 : ¬ (n : Int) < 0 := by omega
 refine wqb e0 ?_
 refine wia ?_
 refine wsa ?_
 have hm := Yrc 1 n (by omega)
 have e1 : (1 : Int) * n / 18446744073709551616 = 0 := by omega
 have e2 : (1 : Int) * n % 18446744073709551616 = n := by omega
 rw [e1, e2] at hm
 ((repeat refine Y00 ?_); (refine Y03 tab_ok fun KR hKR => ?_)); ((refine wra ?_))
 refine wka1 hm ?_
 ((refine wra ?_)); ((refine wea ?_); (try clear hKR KR))
 have e3 : ¬ (9223372036854775807 : Int) < n := by omega
 ((refine wqb (F := _∧_) ⟨@Int.lt_irrefl, e3⟩ ?_))
 refine wia ?_
 refine wsa ?_
 refine wqa ?_
 rw [show (List.replicate n [D.v (Value.int IntKind.i64 0), D.v (Value.int IntKind.i64 0)]).flatten = Y31 0 0 n from rfl]
 have hlen := Y30 0 0 n
 have hmin : min 1 n = 1 := by omega
 have hn0 : 0 < n := h1
 have hcl : ([int a, int b] : List D).all Y26 = true := rfl
 ((refine wqb (F := _∧_∧_∧_) ⟨hlen, hmin, hn0, @Nat.le_refl⟩ ?_))
 have hf1 : int a :: int b :: List.drop 2 (Y31 0 0 n) = Yax a b n 1 := by
  unfold Yax
  have := Ybz 0 0 1 n h1
  simp only [Nat.one_mul] at this
  rw [this]; rfl
 rw [hf1]
 repeat refine Y00 ?_
 refine Y0i (fun x : Nat => ⟨[(7, .own 2 0 (t + 1) 0 n)], [some ⟨33, t + 1, Y31 a b n⟩], x⟩) (fun _ => True) ?_ ?_
 ·refine Y02 ?_
  refine Y05 (fun x : Nat × Nat => ⟨[(7, .own 2 0 (t + 1) 0 n), (8, int x.1)], [some ⟨33, t + 1, Yax a b n x.1⟩], x.2⟩) (fun x => n - x.1) (fun x => 1 ≤ x.1 ∧ x.1 ≤ n) (1, t + 1) ⟨Nat.le_refl _, h1⟩ ele ?_
  rintro ⟨k, tt⟩ ⟨hk1, hk⟩
  simp only at hk1 hk
  have hlen := Yq6 a b n k hk
  by_cases hlt : k < n
  ·((refine wqb (F := _∧_) ⟨@Int.ofNat_lt, hlt⟩ ?_))
   refine wia ?_
   refine wsa ?_
   repeat refine Y00 ?_
   refine Y02 ?_
   have hk0 : 0 < k := hk1
   have hnk : 0 < n - k := by omega
   have hle1 : k * 2 ≤ n * 2 := by omega
   have hle2 : k * 2 + (n - k) * 2 ≤ n * 2 := by omega
   have htk := Ym2 a b n k
   have hpl := Y30 a b k
   have hpc := Ylh a b k
   have hpn : ¬ Y31 a b k = [] := Yso a b k hk0
   have hdv : k * 2 / 2 = k := by omega
   have htk2 := Ylg a b (min k (n - k)) k (Nat.min_le_left _ _)
   have hst := Ym3 a b n k (min k (n - k)) (by omega)
   ((repeat refine Y00 ?_); (refine Y0d tab_ok Y06 0 fun KR hKR => ?_); simp only [List.replicate_succ, List.replicate_zero, List.append_nil, List.nil_append, List.cons_append, List.length_cons, List.length_nil, Nat.reduceAdd])
   ((refine wdb (F := _∧_∧_∧_∧_∧_∧_∧_∧_∧_∧_∧_∧_∧_∧_∧_) ⟨hk0, hk, hlt, hlen, hle1, htk, hpl, hpc, hpn, hdv, htk2, hst, hnk, hle2, @Nat.sub_zero, @Nat.le_refl⟩ ?_))
   ((refine Y0k ?_); simp only [List.reverse_cons, List.reverse_nil, List.nil_append, List.cons_append]; (refine hKR _ _ (by first | rfl | kernel_rfl) ?_); (try clear hKR KR); (refine qq1 ?_))
   refine ⟨(k + min k (n - k), tt + 1), ⟨by show 1 ≤ k + min k (n - k); omega, by show k + min k (n - k) ≤ n; omega⟩, by show n - (k + min k (n - k)) < n - k; omega, ?_⟩
   exact ele
  ·have hke : k = n := by omega
   subst hke
   refine wqb @Int.lt_irrefl ?_
   refine wia ?_
   refine wxa ?_
   have hfe : Yax a b k k = Y31 a b k := by unfold Yax; rw [Nat.sub_self]; simp [Y31]
   rw [hfe]
   exact ⟨tt, trivial, ele⟩
 ·rintro tt -
  refine wqa ?_
  ((repeat refine Y00 ?_); (refine wta ?_); simp (disch := omega) only [retQ, resD, oneD, bb, bt, zDs, zD, Y01, simprocAttr, Tryz.results134])
  exact .inr ⟨0, t + 1, rfl, rfl⟩
end Go.Proofs.YtpbpafmgkdihlaaGreatDoor.T
