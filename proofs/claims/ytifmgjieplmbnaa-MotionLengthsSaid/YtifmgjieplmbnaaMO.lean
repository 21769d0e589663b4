import Derived.Test.YtifmgjieplmbnaaMGI
set_option linter.all false
namespace Go.Proofs.Ytifmgjieplmbnaa.T
open Go Go.RowKit Lin
set_option linter.unusedSimpArgs false

/-! Chapter 12: lengths (plain). -/
theorem made_one {a : Nat} {b : Bool} (h : a ≤ 1152921504606846976) : (madeP a b 1).2 = 0 := by
  unfold madeP signP
  rw [if_neg (by decide), Nat.gcd_one_right, Nat.div_one, if_neg (by omega)]
theorem mul_int {n x : Int} (hn : vfrac n 1 = true) (hx : vfrac x 1 = true) (h : -1152921504606846976 ≤ n * x ∧ n * x ≤ 1152921504606846976) : mulP (n, 1) (x, 1) = ((n * x, 1), 0) := by
  rw [mulP_ok (a := (n, 1)) (b := (x, 1)) hn hx]
  have ok : (mulR (n, 1) (x, 1)).2 = 0 := by
    unfold mulR
    refine made_one (b := _) ?_
    rw [← Int.natAbs_mul]
    show (n * x).natAbs ≤ _
    omega
  refine Prod.ext ?_ ok
  exact ((Val.self (x := (n, 1)) hn).mul (Val.self (x := (x, 1)) hx) ok).int (by simp)
theorem add_int {n x : Int} (hn : vfrac n 1 = true) (hx : vfrac x 1 = true) (h : n.natAbs + x.natAbs ≤ 1152921504606846976) : addP (n, 1) (x, 1) = ((n + x, 1), 0) := by
  rw [addP_ok (a := (n, 1)) (b := (x, 1)) hn hx]
  have ok : (addR (n, 1) (x, 1)).2 = 0 := by
    unfold addR
    simp only [Int.natAbs_one, Nat.mul_one]
    split
    · exact made_one (by omega)
    · split <;> exact made_one (by omega)
  refine Prod.ext ?_ ok
  exact ((Val.self (x := (n, 1)) hn).add (Val.self (x := (x, 1)) hx) ok).int (by simp)
abbrev wholeL (a : List Int) : List (Int × Int) := a.map fun n => (n, 1)
theorem dot_ints : ∀ (r a : List Int) (s : Int), (∀ x ∈ r, -32 ≤ x ∧ x ≤ 32) → (∀ x ∈ a, -1048576 ≤ x ∧ x ≤ 1048576) → s.natAbs + r.length * 33554432 ≤ 1152921504606846976 → (dotF r (wholeL a) (s, 1)).2 = 0
  | [], a, s, _, _, _ => by cases a <;> rfl
  | n :: r, [], s, _, _, _ => rfl
  | n :: r, x :: a, s, hr, ha, hs => by
    have h1 := hr n (by simp)
    have h2 := ha x (by simp)
    have h3 := Lin.abs_mul_le (A := 32) (B := 1048576) h1 h2
    have hl : (n :: r).length = r.length + 1 := rfl
    rw [hl, Nat.add_mul] at hs
    have hn : vfrac n 1 = true := vfrac_one (by omega)
    have hx : vfrac x 1 = true := vfrac_one (by omega)
    have hm := mul_int hn hx (by omega)
    simp only [wholeL, List.map_cons, dotF]
    rw [hm, if_pos rfl]
    simp only
    rw [add_int (vfrac_one (by omega)) (vfrac_one (by omega)) (by omega), if_pos rfl]
    exact dot_ints r a (s + n * x) (fun y hy => hr y (List.mem_cons_of_mem _ hy)) (fun y hy => ha y (List.mem_cons_of_mem _ hy)) (by omega)
section
variable {s : Sy} {a b : List Int}
theorem lenP_ok (h : (lenP s a).2 = 0) : validS s = true ∧ a.length = s.bs.length ∧ (∀ x ∈ a, -1048576 ≤ x ∧ x ≤ 1048576) ∧ (lenP s a).1 = (trS s).map (lenF a) := by
  unfold lenP at h ⊢
  split at h
  · rename_i h1
    rw [if_pos h1]
    split at h
    · rename_i h2
      rw [if_pos h2]
      split at h
      · simp at h
      · rename_i h3
        rw [if_neg h3]
        refine ⟨h1, h2, fun x hx => ?_, rfl⟩
        have := List.any_eq_false.1 (by simpa using h3) x hx
        unfold farP at this
        simp at this
        omega
    · simp at h
  · simp at h
theorem lenP_nil (h : (lenP s a).2 ≠ 0) : (lenP s a).1 = [] := by
  unfold lenP at h ⊢
  split
  · rename_i h1
    rw [if_pos h1] at h
    split
    · rename_i h2
      rw [if_pos h2] at h
      split
      · rfl
      · rename_i h3
        rw [if_neg h3] at h
        exact absurd rfl h
    · rfl
  · rfl
theorem lenP_err (hv : validS s = true) (hl : a.length = s.bs.length) : (lenP s a).2 = 0 ∨ (lenP s a).2 = 2 := by
  unfold lenP
  rw [if_pos hv, if_pos hl]
  split <;> simp
theorem lenF_add (hl : a.length = b.length) (r : List Int) (hr : r.length ≤ a.length) : lenF (zipA a b) r = lenF a r + lenF b r := by
  unfold lenF dotN
  rw [← sumN_add]
  refine sumN_congr _ fun k hk => ?_
  have : Lin.at_ (zipA a b) k = Lin.at_ a k + Lin.at_ b k := by
    unfold Lin.at_ zipA
    rw [List.getElem?_zipWith, List.getElem?_eq_getElem (show k < a.length by omega), List.getElem?_eq_getElem (show k < b.length by omega)]
    rfl
  rw [this, Int.mul_add]
theorem len_add (h1 : (lenP s a).2 = 0) (h2 : (lenP s b).2 = 0) (h3 : (lenP s (zipA a b)).2 = 0) (i : Nat) (x y z : Int) (hx : (lenP s a).1[i]? = some x) (hy : (lenP s b).1[i]? = some y) (hz : (lenP s (zipA a b)).1[i]? = some z) : z = x + y := by
  obtain ⟨hv, la, _, ea⟩ := lenP_ok h1
  obtain ⟨_, lb, _, eb⟩ := lenP_ok h2
  obtain ⟨_, _, _, ec⟩ := lenP_ok h3
  have ok := validS_ok hv
  rw [ea, List.getElem?_map] at hx
  rw [eb, List.getElem?_map] at hy
  rw [ec, List.getElem?_map] at hz
  cases hr : (trS s)[i]? with
  | none => rw [hr] at hx; simp at hx
  | some r =>
    rw [hr] at hx hy hz
    simp only [Option.map_some, Option.some.injEq] at hx hy hz
    rw [← hx, ← hy, ← hz]
    exact lenF_add (by omega) r (by rw [(ok.tr_rows r (List.mem_of_getElem? hr)).1]; omega)
theorem len_len (h1 : (lenP s a).2 = 0) : (lenP s a).1.length = s.rs.length := by
  obtain ⟨hv, _, _, ea⟩ := lenP_ok h1
  rw [ea, List.length_map, (validS_ok hv).tr_len]
theorem whole_val (ha : ∀ x ∈ a, -1048576 ≤ x ∧ x ≤ 1048576) : ∀ (k : Nat) (f : Int × Int), (wholeL a)[k]? = some f → Val f (Lin.at_ a k) 1 := fun k f hf => by
  rw [List.getElem?_map] at hf
  cases hx : a[k]? with
  | none => rw [hx] at hf; simp at hf
  | some x =>
    rw [hx] at hf
    simp only [Option.map_some, Option.some.injEq] at hf
    subst hf
    have e : Lin.at_ a k = x := by simp [Lin.at_, hx]
    rw [e]
    exact .one (by have := ha x (List.mem_of_getElem? hx); omega)
/-- The hauls that moves need, and whether no fixed rope moves. -/
def haulL (rs : List Rp) (l : List Int) : List Int := List.zipWith (fun (r : Rp) (n : Int) => if r.hl = true then n else 0) rs l
def fixL (rs : List Rp) (l : List Int) : Bool := (rs.zip l).all fun x => x.1.hl || (x.2 == 0)
theorem len_check (h1 : (lenP s a).2 = 0) : (chkM s (haulL s.rs (lenP s a).1) (wholeL a)).2 = 2 ∨ chkM s (haulL s.rs (lenP s a).1) (wholeL a) = (fixL s.rs (lenP s a).1, 0) := by
  obtain ⟨hv, la, ha, ea⟩ := lenP_ok h1
  have ok := validS_ok hv
  have hll := len_len h1
  have tl := ok.tr_len
  obtain ⟨tv, tw⟩ := ok.tr_valid
  obtain ⟨_, _, t3⟩ := validP_iff.1 tv
  have hal := whole_val ha
  have hav := allV_of hal
  have hlv : (wholeL a).length = s.bs.length := by simpa using la
  generalize hL : (lenP s a).1 = l at *
  have hhl : (haulL s.rs l).length = s.rs.length := by simp [haulL]; omega
  by_cases hr : rangedP s.rs (haulL s.rs l) = true
  rotate_left 1
  · left
    unfold chkM
    rw [if_pos ⟨hv, hav⟩, if_pos ⟨hhl, hlv⟩, if_neg hr]
  right
  have hg : givH s (haulL s.rs l) = 0 := by unfold givH; rw [if_pos hv, if_pos hhl, if_pos hr]
  have h0 : (chkM s (haulL s.rs l) (wholeL a)).2 = 0 := by
    rw [chkM_is hg hav hlv]
    have : (prodA (wholeL a) [] (trS s)).2 = 0 := by
      have main : ∀ (m : List (List Int)) (acc : List (Int × Int)), (∀ r ∈ m, (dotF r (wholeL a) (0, 1)).2 = 0) → (prodA (wholeL a) acc m).2 = 0 := by
        intro m
        induction m with
        | nil => intro acc _; rfl
        | cons r m ih =>
          intro acc hm
          simp only [prodA]
          rw [if_pos (hm r (by simp))]
          exact ih _ fun q hq => hm q (List.mem_cons_of_mem _ hq)
      refine main _ _ fun r hrm => dot_ints r a 0 (t3 r hrm).2 ha ?_
      have := (ok.tr_rows r hrm).1
      have := ok.b6
      simp only [Int.natAbs_zero]
      omega
    rw [if_pos this]
  refine Prod.ext ?_ h0
  rw [Bool.eq_iff_iff, chkM_iff hg hav hlv h0 (by decide) hal]
  unfold fixL
  rw [List.all_eq_true]
  have hat : ∀ (i : Nat) (r : List Int), (trS s)[i]? = some r → l[i]? = some (sumN (fun k => Lin.at_ r k * Lin.at_ a k) (wid (trS s))) := fun i r hi => by
    rw [ea, List.getElem?_map, hi, Option.map_some]
    unfold lenF dotN
    rw [(t3 r (List.mem_of_getElem? hi)).1]
  constructor
  · rintro hs ⟨r, n⟩ hx
    obtain ⟨i, hi⟩ := List.mem_iff_getElem?.1 hx
    rw [List.getElem?_zip_eq_some] at hi
    obtain ⟨i1, i2⟩ := hi
    simp only at i1 i2 ⊢
    have hil := (List.getElem?_eq_some_iff.1 i2).1
    obtain ⟨q, hq⟩ : ∃ q, (trS s)[i]? = some q := ⟨_, List.getElem?_eq_getElem (by omega)⟩
    have h2 := hat i q hq
    rw [i2, Option.some.injEq] at h2
    have hb : (haulL s.rs l)[i]? = some (if r.hl = true then n else 0) := by
      unfold haulL
      rw [List.getElem?_zipWith, i1, i2]
    have := hs i q _ hq hb
    rw [← h2] at this
    cases hh : r.hl
    · rw [hh] at this
      simp at this
      simp [this]
    · rfl
  · intro hs i q b hq hb
    rw [← Option.some.inj (show some b = some b from rfl)]
    have h2 := hat i q hq
    have hil : i < s.rs.length := by have := (List.getElem?_eq_some_iff.1 hq).1; omega
    obtain ⟨r, hr'⟩ : ∃ r, s.rs[i]? = some r := ⟨_, List.getElem?_eq_getElem hil⟩
    have hb' : (haulL s.rs l)[i]? = some (if r.hl = true then (sumN (fun k => Lin.at_ q k * Lin.at_ a k) (wid (trS s))) else 0) := by
      unfold haulL
      rw [List.getElem?_zipWith, hr', h2]
    rw [hb, Option.some.injEq] at hb'
    rw [hb', Int.one_mul]
    have := hs _ (List.mem_of_getElem? (zip_at hr' h2))
    simp only [Bool.or_eq_true, beq_iff_eq] at this
    cases hh : r.hl
    · rw [hh] at this
      simpa using this
    · simp
/-- The travel of a block that moves alone. -/
theorem len_travel (h1 : (lenP s [1]).2 = 0) {b0 : Bk} (hb : s.bs = [b0]) (h2 : (travP s b0.nm).2 = 0) : ∃ (i : Nat) (n : Int), hix s = (i : Int) ∧ (lenP s [1]).1[i]? = some n ∧ (travP s b0.nm).1 = (n, 1) := by
  obtain ⟨hv, _, _, ea⟩ := lenP_ok h1
  have ok := validS_ok hv
  have hf : findB s.bs b0.nm = 0 := by rw [hb]; simp [findB, idx]
  have et : travP s b0.nm = if hix s < 0 then ((0, 0), 11) else if (speedsP s (unitH s)).2 = 0 then divP (1, 1) ((speedsP s (unitH s)).1.getD 0 (0, 0)) else ((0, 0), (speedsP s (unitH s)).2) := by
    unfold travP
    rw [if_pos hv, hf, if_neg (by decide)]
    rfl
  rw [et] at h2 ⊢
  split at h2
  · simp at h2
  rename_i hh
  rw [if_neg hh]
  split at h2
  rotate_left 1
  · rename_i h3; exact absurd h2 h3
  rename_i h3
  rw [if_pos h3]
  obtain ⟨i, r, hi, hri, _⟩ := hix_hit hh
  obtain ⟨X, D, hD, hX, hl, hXv⟩ := speedsP_val h3
  have hil := (List.getElem?_eq_some_iff.1 hri).1
  have hl1 : (speedsP s (unitH s)).1.length = 1 := by rw [hl, hb]; rfl
  obtain ⟨f, hf0⟩ : ∃ f, (speedsP s (unitH s)).1[0]? = some f := ⟨_, List.getElem?_eq_getElem (by omega)⟩
  rw [List.getD_eq_getElem?_getD, hf0, Option.getD_some] at h2 ⊢
  have hfv := hXv 0 f hf0
  have tl := ok.tr_len
  obtain ⟨tv, tw⟩ := ok.tr_valid
  obtain ⟨q, hq⟩ : ∃ q, (trS s)[i]? = some q := ⟨_, List.getElem?_eq_getElem (by omega)⟩
  have hu : (unitH s)[i]? = some 1 := by
    unfold unitH
    rw [hi, Int.toNat_natCast, List.getElem?_set_self (by simpa using hil)]
  have hs := hX i q 1 hq hu
  have hw1 : wid (trS s) = 1 := by rw [tw, hb]; rfl
  have hql : q.length = 1 := by rw [(ok.tr_rows q (List.mem_of_getElem? hq)).1, hb]; rfl
  rw [hw1] at hs
  simp only [sumN, Int.add_zero] at hs
  have e1 : lenF [1] q = Lin.at_ q 0 := by
    unfold lenF dotN
    rw [hql]
    simp [sumN, Lin.at_]
  refine ⟨i, Lin.at_ q 0, hi, by rw [ea, List.getElem?_map, hq, Option.map_some, e1], ?_⟩
  have h11 : Val (1, 1) 1 1 := .one (by omega)
  have ed : divP (1, 1) f = divR (1, 1) f := by unfold divP; rw [if_pos ⟨h11.v, hfv.v⟩]
  rw [ed] at h2 ⊢
  rcases divR_err h11.v hfv.v with ⟨_, e⟩ | ⟨hn0, _⟩
  · rw [e] at h2; simp at h2
  refine (h11.div hfv hn0 h2).int ?_
  rw [Int.one_mul, Int.one_mul, hs, Int.mul_one]
end
end Go.Proofs.Ytifmgjieplmbnaa.T
