/- The reference's Part over this seat's program. -/
import Derived.Test.YtnknlgbihibmiaaPartPlain
import Derived.Test.YtnknlgbihibmiaaRefU
import Derived.Test.YtnknlgbihibmiaaRefDiv
namespace Go.Proofs.Ytnknlgbihibmiaa
open Go.RowKit

theorem ref_DivN (P D : Nat) (hP : P < 340282366920938463463374607431768211456) (hD : 0 < D) (hD2 : D < 18446744073709551616) (w : World) :
    Calls Try.prog 56 #[.agg #[.int .u64 (uh P), .int .u64 (ul P)], .agg #[.int .u64 0, .int .u64 (D : Int)]] w fun e w' =>
      e = .returned (.tuple #[.agg #[.int .u64 (uh (P / D)), .int .u64 (ul (P / D))], .agg #[.int .u64 0, .int .u64 ((P % D : Nat) : Int)]]) ∧ Below w.heap.size w w' := by
  have hr : P % D < D := Nat.mod_lt _ hD
  by_cases hz : uh P = 0
  · have hs : P < 18446744073709551616 := by unfold uh at hz; omega
    have hq : P / D < 18446744073709551616 := Nat.lt_of_le_of_lt (Nat.div_le_self _ _) hs
    have e := ref_Div_small (al := (P : Int)) (bl := (D : Int)) (by omega) (by omega) (by omega) (by omega) w
    rw [uh_small hq, ul_small hq, hz, ul_small hs]
    rw [← Int.natCast_ediv, ← Int.natCast_emod] at e
    exact e
  · have e := ref_Div_big (IsU.split hP) (IsU.small hD2) hD (Or.inl (by simpa using hz)) w
    rwa [uh_small (Nat.lt_trans hr hD2), ul_small (Nat.lt_trans hr hD2)] at e

theorem part_front (n num : Int) (n1 : -1152921504606846976 ≤ n) (n2 : n ≤ 1152921504606846976) (m1 : -1152921504606846976 ≤ num) (m2 : num ≤ 1152921504606846976) :
    n.natAbs * num.natAbs < 340282366920938463463374607431768211456 := by
  have h1 : n.natAbs ≤ 1152921504606846976 := by omega
  have h2 : num.natAbs ≤ 1152921504606846976 := by omega
  have := Nat.mul_le_mul h1 h2
  omega

/-- What Part answers, of the quotient, the rest, the sign. -/
def partF (Q R : Nat) (b up : Bool) : Int × Bool :=
  if 1152921504606846976 < Q + (if (decide (R ≠ 0) && (b != up)) = true then 1 else 0) then (0, false) else
  if b = true then (-((Q + (if (decide (R ≠ 0) && (b != up)) = true then 1 else 0) : Nat) : Int), true) else (((Q + (if (decide (R ≠ 0) && (b != up)) = true then 1 else 0) : Nat) : Int), true)
theorem partF_eq {n num den : Int} {up : Bool} {Q R : Nat} (hQ : n.natAbs * num.natAbs / den.natAbs = Q) (hR : n.natAbs * num.natAbs % den.natAbs = R) {b1 b2 b3 : Bool} (h1 : decide (n < 0) = b1) (h2 : decide (num < 0) = b2) (h3 : decide (den < 0) = b3) :
    partS n num den up = partF Q R (!(!b1 == b2) == b3) up := by
  subst h1 h2 h3
  unfold partS partQ partF
  rw [hQ, hR]
  rfl
theorem part_big {Q R : Nat} {b up : Bool} {v : Int} {ok : Bool} (H : Hid (partF Q R b up = (v, ok))) (k : Nat) (hk : (if (decide (R ≠ 0) && (b != up)) = true then 1 else 0) = k) (h : 1152921504606846976 < Q + k) : v = 0 ∧ ok = false := by
  have hh := H.out
  unfold partF at hh; rw [hk, if_pos h] at hh; cases hh; exact ⟨rfl, rfl⟩
theorem part_neg {Q R : Nat} {b up : Bool} {v : Int} {ok : Bool} (H : Hid (partF Q R b up = (v, ok))) (k : Nat) (hb : b = true) (hk : (if (decide (R ≠ 0) && (b != up)) = true then 1 else 0) = k) (h : Q + k ≤ 1152921504606846976) {x : Int} (hx : x = ((Q + k : Nat) : Int)) : v = -x ∧ ok = true := by
  have hh := H.out
  unfold partF at hh; rw [hk, if_neg (by omega), if_pos hb, ← hx] at hh; cases hh; exact ⟨rfl, rfl⟩
theorem part_pos {Q R : Nat} {b up : Bool} {v : Int} {ok : Bool} (H : Hid (partF Q R b up = (v, ok))) (k : Nat) (hb : b = false) (hk : (if (decide (R ≠ 0) && (b != up)) = true then 1 else 0) = k) (h : Q + k ≤ 1152921504606846976) {x : Int} (hx : x = ((Q + k : Nat) : Int)) : v = x ∧ ok = true := by
  have hh := H.out
  unfold partF at hh; rw [hk, if_neg (by omega), if_neg (by simp [hb]), ← hx] at hh; cases hh; exact ⟨rfl, rfl⟩

theorem ret2_eq {v a : Int} {ok c : Bool} (h : v = a ∧ ok = c) : Ending.returned (.tuple #[.int .i64 a, .bool c]) = .returned (.tuple #[.int .i64 v, .bool ok]) := by rw [h.1, h.2]

set_option maxRecDepth 100000 in
set_option maxHeartbeats 4000000 in
theorem part_walk (n num den : Int) (up : Bool) (_n1 : -1152921504606846976 ≤ n) (_n2 : n ≤ 1152921504606846976) (_m1 : -1152921504606846976 ≤ num) (_m2 : num ≤ 1152921504606846976) (_d1 : -1152921504606846976 ≤ den) (_d2 : den ≤ 1152921504606846976) (Q R : Nat) (qh ql sh sl : Int) (w : World)
    (u1 : 0 ≤ qh) (u2 : qh ≤ 18446744073709551615) (u3 : 0 ≤ ql) (u4 : ql ≤ 18446744073709551615) (t1 : 0 ≤ sh) (t2 : sh ≤ 18446744073709551615) (t3 : 0 ≤ sl) (t4 : sl ≤ 18446744073709551615)
    (U5 : Hid ((Q : Int) = qh * 18446744073709551616 + ql)) (T5 : Hid (((Q + 1 : Nat) : Int) = sh * 18446744073709551616 + sl))
    (CN : Hid (Calls Try.prog 57 #[.int .u64 (n.natAbs : Nat), .int .u64 (num.natAbs : Nat)] w fun e w' => e = .returned (.agg #[.int .u64 (uh (n.natAbs * num.natAbs)), .int .u64 (ul (n.natAbs * num.natAbs))]) ∧ Below w.heap.size w w'))
    (CD : Hid (∀ w : World, Calls Try.prog 56 #[.agg #[.int .u64 (uh (n.natAbs * num.natAbs)), .int .u64 (ul (n.natAbs * num.natAbs))], .agg #[.int .u64 0, .int .u64 (den.natAbs : Nat)]] w fun e w' => e = .returned (.tuple #[.agg #[.int .u64 qh, .int .u64 ql], .agg #[.int .u64 0, .int .u64 (R : Int)]]) ∧ Below w.heap.size w w'))
    (CP : Hid (∀ w : World, Calls Try.prog 58 #[.agg #[.int .u64 qh, .int .u64 ql], .agg #[.int .u64 0, .int .u64 1]] w fun e w' => e = .returned (.agg #[.int .u64 sh, .int .u64 sl]) ∧ Below w.heap.size w w'))
    (SN : Hid (∀ w, Calls Try.prog 54 #[.int .i64 n] w fun e w' => e = .returned (.int .u64 (n.natAbs : Nat)) ∧ w = w'))
    (SM : Hid (∀ w, Calls Try.prog 54 #[.int .i64 num] w fun e w' => e = .returned (.int .u64 (num.natAbs : Nat)) ∧ w = w'))
    (SD : Hid (∀ w, Calls Try.prog 54 #[.int .i64 den] w fun e w' => e = .returned (.int .u64 (den.natAbs : Nat)) ∧ w = w'))
    (b1 b2 b3 : Bool) (h1 : decide (n < 0) = b1) (h2 : decide (num < 0) = b2) (h3 : decide (den < 0) = b3) :
    Calls Try.prog 29 #[.int .i64 n, .int .i64 num, .int .i64 den, .bool up] w fun e w' => e = .returned (.tuple #[.int .i64 (partF Q R (!(!b1 == b2) == b3) up).1, .bool (partF Q R (!(!b1 == b2) == b3) up).2]) ∧ Below w.heap.size w w' := by
  obtain ⟨v, ok, hv⟩ : ∃ v ok, partF Q R (!(!b1 == b2) == b3) up = (v, ok) := ⟨_, _, rfl⟩
  rw [hv]
  have HV := Lib.hid hv
  clear hv
  go_enter Try.func29, Try.ntmps29
  go_wp2_with (go_at_call 54; first | (with_reducible refine (SN.out _).mono ?_; rintro e w' ⟨rfl, rfl⟩) | (with_reducible refine (SM.out _).mono ?_; rintro e w' ⟨rfl, rfl⟩))
  refine CN.out.mono ?_
  rintro e a1 ⟨rfl, hb1⟩; have hBa1 : Below w.heap.size w a1 := Below.trans (by (repeat' (first | (with_reducible exact Below.refl _ _) | (with_reducible assumption) | (with_reducible refine Below.alloc ?_ ?_ _) | (with_reducible refine Below.drew ?_) | (with_reducible refine bdrewN ?_ _) | (with_reducible refine Below.setCell ?_ ?_ _) | go_size))) (hb1.mono (by go_size)); have hza1 := hb1.size; (try rw [World.size_alloc] at hza1); obtain ⟨hda1, hga1⟩ := bcell hb1; clear hb1
  go_wp2_with (go_at_call 54; with_reducible refine (SD.out _).mono ?_; rintro e w' ⟨rfl, rfl⟩)
  refine (CD.out _).mono ?_
  rintro e a2 ⟨rfl, hb1⟩; have hBa2 : Below w.heap.size w a2 := Below.trans (by (repeat' (first | (with_reducible exact Below.refl _ _) | (with_reducible assumption) | (with_reducible refine Below.alloc ?_ ?_ _) | (with_reducible refine Below.drew ?_) | (with_reducible refine bdrewN ?_ _) | (with_reducible refine Below.setCell ?_ ?_ _) | go_size))) (hb1.mono (by go_size)); have hza2 := hb1.size; (try rw [World.size_alloc] at hza2); obtain ⟨hda2, hga2⟩ := bcell hb1; clear hb1
  cases b1 <;> cases b2 <;> cases b3 <;> cases up
  all_goals
    have i1 := h1; have i2 := h2; have i3 := h3
    simp only [decide_eq_true_eq, decide_eq_false_iff_not, Int.not_lt] at i1 i2 i3
    by_cases hr : R = 0
    all_goals
      first
        | (have hr2 : ((R : Int) == 0) = true := by rw [hr]; rfl)
        | (have hr2 : ((R : Int) == 0) = false := by simpa using hr)
      go_wp2_with (go_at_call 58; with_reducible refine (CP.out _).mono ?_; rintro e a3 ⟨rfl, hb1⟩; have hBa3 : Below w.heap.size w a3 := Below.trans (by (repeat' (first | (with_reducible exact Below.refl _ _) | (with_reducible assumption) | (with_reducible refine Below.alloc ?_ ?_ _) | (with_reducible refine Below.drew ?_) | (with_reducible refine bdrewN ?_ _) | (with_reducible refine Below.setCell ?_ ?_ _) | go_size))) (hb1.mono (by go_size)); have hza3 := hb1.size; obtain ⟨hda3, hga3⟩ := bcell hb1; clear hb1; have hc0 : a3.cell? ⟨a2.heap.size, 0, none⟩ = some (.int .u64 qh) := (hda3 _ _ (by go_size)).trans (by (first | (go_simp; done) | (simp (maxDischargeDepth := 10) [go_sem, *]; done))); have hc1 : a3.cell? ⟨a2.heap.size, 1, none⟩ = some (.int .u64 ql) := (hda3 _ _ (by go_size)).trans (by (first | (go_simp; done) | (simp (maxDischargeDepth := 10) [go_sem, *]; done))); have hfz0 : a3.frozen? ⟨a2.heap.size, 0, none⟩ = false := (hga3 _ _ (by go_size)).trans (by (first | (go_simp; done) | (simp (maxDischargeDepth := 10) [go_sem, *]; done))); have hfz1 : a3.frozen? ⟨a2.heap.size, 1, none⟩ = false := (hga3 _ _ (by go_size)).trans (by (first | (go_simp; done) | (simp (maxDischargeDepth := 10) [go_sem, *]; done))))
      all_goals
        refine bodyPost_ret (by simp only [results, Try.results29]; go_simp; try rfl) rfl ?_
        refine ⟨?_, by (repeat' (first | (with_reducible exact Below.refl _ _) | (with_reducible assumption) | (with_reducible refine Below.alloc ?_ ?_ _) | (with_reducible refine Below.drew ?_) | (with_reducible refine bdrewN ?_ _) | (with_reducible refine Below.setCell ?_ ?_ _) | go_size))⟩
        have g1 := U5.out; have g2 := T5.out
        first
          | (refine ret2_eq (part_big HV 0 ?_ ?_) <;> first | rfl | omega | (simp [hr]; done))
          | (refine ret2_eq (part_big HV 1 ?_ ?_) <;> first | rfl | omega | (simp [hr]; done))
          | (refine ret2_eq (part_neg HV 0 ?_ ?_ ?_ (x := ql) ?_) <;> first | rfl | omega | (simp [hr]; done))
          | (refine ret2_eq (part_neg HV 1 ?_ ?_ ?_ (x := sl) ?_) <;> first | rfl | omega | (simp [hr]; done))
          | (refine ret2_eq (part_pos HV 0 ?_ ?_ ?_ (x := ql) ?_) <;> first | rfl | omega | (simp [hr]; done))
          | (refine ret2_eq (part_pos HV 1 ?_ ?_ ?_ (x := sl) ?_) <;> first | rfl | omega | (simp [hr]; done))

theorem ref_Part (n num den : Int) (up : Bool) (n1 : -1152921504606846976 ≤ n) (n2 : n ≤ 1152921504606846976) (m1 : -1152921504606846976 ≤ num) (m2 : num ≤ 1152921504606846976) (d1 : -1152921504606846976 ≤ den) (d2 : den ≤ 1152921504606846976) (d0 : den ≠ 0) (w : World) :
    Calls Try.prog 29 #[.int .i64 n, .int .i64 num, .int .i64 den, .bool up] w fun e w' => e = .returned (.tuple #[.int .i64 (partS n num den up).1, .bool (partS n num den up).2]) ∧ Below w.heap.size w w' := by
  have hP := part_front n num n1 n2 m1 m2
  have q0 : n.natAbs * num.natAbs / den.natAbs < 340282366920938463463374607431768211455 := by
    have h1 : n.natAbs * num.natAbs / den.natAbs ≤ n.natAbs * num.natAbs := Nat.div_le_self _ _
    have h3 : n.natAbs ≤ 1152921504606846976 := by omega
    have h4 : num.natAbs ≤ 1152921504606846976 := by omega
    have h2 := Nat.mul_le_mul h3 h4
    omega
  have HU : IsU (n.natAbs * num.natAbs / den.natAbs) (uh (n.natAbs * num.natAbs / den.natAbs)) (ul (n.natAbs * num.natAbs / den.natAbs)) := IsU.split (by omega)
  have HS : IsU (n.natAbs * num.natAbs / den.natAbs + 1) (uh (n.natAbs * num.natAbs / den.natAbs + 1)) (ul (n.natAbs * num.natAbs / den.natAbs + 1)) := IsU.split (by omega)
  have CP := fun w : World => ref_Plus HU (IsU.small (n := 1) (by omega)) (by omega) w
  obtain ⟨u1, u2, u3, u4, u5⟩ := HU; obtain ⟨t1, t2, t3, t4, t5⟩ := HS
  rw [partF_eq rfl rfl rfl rfl rfl]
  exact part_walk n num den up n1 n2 m1 m2 d1 d2 _ _ _ _ _ _ w u1 u2 u3 u4 t1 t2 t3 t4 (Lib.hid u5) (Lib.hid t5) (Lib.hid (ref_Mul _ _ (by omega) (by omega) w)) (Lib.hid fun w => ref_DivN _ _ hP (by omega) (by omega) w) (Lib.hid CP)
    (Lib.hid fun w => ref_Size n (by omega) (by omega) w) (Lib.hid fun w => ref_Size num (by omega) (by omega) w) (Lib.hid fun w => ref_Size den (by omega) (by omega) w) _ _ _ rfl rfl rfl

theorem ref_Floor (n d : Int) (n1 : -1152921504606846976 ≤ n) (n2 : n ≤ 1152921504606846976) (d1 : -1152921504606846976 ≤ d) (d2 : d ≤ 1152921504606846976) (d0 : d ≠ 0) (w : World) :
    Calls Try.prog 30 #[.int .i64 n, .int .i64 d] w fun e w' => e = .returned (.int .i64 (partS n 1 d false).1) ∧ Below w.heap.size w w' := by
  have C := Lib.hid (ref_Part n 1 d false n1 n2 (by omega) (by omega) d1 d2 d0 w)
  go_enter Try.func30, Try.ntmps30
  go_wp2_with (go_at_call 29; refine C.out.mono ?_; rintro e w' ⟨rfl, hb⟩)
  go_ret
  exact ⟨rfl, hb⟩

theorem ref_Ceil (n d : Int) (n1 : -1152921504606846976 ≤ n) (n2 : n ≤ 1152921504606846976) (d1 : -1152921504606846976 ≤ d) (d2 : d ≤ 1152921504606846976) (d0 : d ≠ 0) (w : World) :
    Calls Try.prog 31 #[.int .i64 n, .int .i64 d] w fun e w' => e = .returned (.int .i64 (partS n 1 d true).1) ∧ Below w.heap.size w w' := by
  have C := Lib.hid (ref_Part n 1 d true n1 n2 (by omega) (by omega) d1 d2 d0 w)
  go_enter Try.func31, Try.ntmps31
  go_wp2_with (go_at_call 29; refine C.out.mono ?_; rintro e w' ⟨rfl, hb⟩)
  go_ret
  exact ⟨rfl, hb⟩
end Go.Proofs.Ytnknlgbihibmiaa
