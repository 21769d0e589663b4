import Derived.Test.YtifmgjieplmbnaaLHF
import Derived.Test.YtifmgjieplmbnaaSQS
set_option linter.all false
section
namespace Go.Proofs.Ytifmgjieplmbnaa.T
open Go Go.RowKit Lin
set_option linter.unusedSimpArgs false

/-! What fractions are worth (plain): x in lowest terms is p over q. -/
structure Val (x : Int × Int) (p q : Int) : Prop where
  v : vfrac x.1 x.2 = true
  n0 : q ≠ 0
  e : x.1 * q = p * x.2
theorem vfrac_ne {x : Int × Int} (h : vfrac x.1 x.2 = true) : x.2 ≠ 0 := by
  have := (fr_bounds h).1
  omega
theorem Val.self {x : Int × Int} (h : vfrac x.1 x.2 = true) : Val x x.1 x.2 := ⟨h, vfrac_ne h, rfl⟩
theorem Val.one {n : Int} (h : -1152921504606846976 ≤ n ∧ n ≤ 1152921504606846976) : Val (n, 1) n 1 := ⟨vfrac_one h, by decide, rfl⟩
theorem Val.d {x : Int × Int} {p q : Int} (h : Val x p q) : x.2 ≠ 0 := vfrac_ne h.v
theorem Val.same {x : Int × Int} {p q r s : Int} (h : Val x p q) (k : Val x r s) : p * s = r * q := by
  refine cancel (c := x.2) h.d ?_
  have h1 := h.e
  have h2 := k.e
  grind
theorem Val.eq {x y : Int × Int} {p q r s : Int} (h : Val x p q) (k : Val y r s) (e : p * s = r * q) : x = y := by
  refine frac_eq h.v k.v (cancel (c := q * s) (Int.mul_ne_zero h.n0 k.n0) ?_)
  have h1 := h.e
  have h2 := k.e
  calc x.1 * y.2 * (q * s) = (x.1 * q) * (y.2 * s) := by ac_rfl
    _ = (p * x.2) * (y.2 * s) := by rw [h1]
    _ = (p * s) * (x.2 * y.2) := by ac_rfl
    _ = (r * q) * (x.2 * y.2) := by rw [e]
    _ = (r * y.2) * (q * x.2) := by ac_rfl
    _ = (y.1 * s) * (q * x.2) := by rw [h2]
    _ = y.1 * x.2 * (q * s) := by ac_rfl
theorem Val.to {x : Int × Int} {p q r s : Int} (h : Val x p q) (hs : s ≠ 0) (e : p * s = r * q) : Val x r s := by
  refine ⟨h.v, hs, cancel (c := q) h.n0 ?_⟩
  have h1 := h.e
  calc x.1 * s * q = (x.1 * q) * s := by ac_rfl
    _ = (p * x.2) * s := by rw [h1]
    _ = (p * s) * x.2 := by ac_rfl
    _ = (r * q) * x.2 := by rw [e]
    _ = r * x.2 * q := by ac_rfl
theorem Val.scale {x : Int × Int} {p q k : Int} (h : Val x p q) (hk : k ≠ 0) : Val x (p * k) (q * k) := h.to (Int.mul_ne_zero h.n0 hk) (by ac_rfl)
theorem Val.add {a b : Int × Int} {p q r s : Int} (h : Val a p q) (k : Val b r s) (ok : (addR a b).2 = 0) : Val (addR a b).1 (p * s + r * q) (q * s) := by
  have hq := add_q h.v k.v ok
  refine ⟨addR_valid h.v k.v ok, Int.mul_ne_zero h.n0 k.n0, cancel (c := a.2 * b.2) (Int.mul_ne_zero h.d k.d) ?_⟩
  generalize (addR a b).1 = c at *
  have h1 := h.e
  have h2 := k.e
  calc c.1 * (q * s) * (a.2 * b.2) = (c.1 * (a.2 * b.2)) * (q * s) := by ac_rfl
    _ = ((a.1 * b.2 + b.1 * a.2) * c.2) * (q * s) := by rw [hq]
    _ = ((a.1 * q) * (b.2 * s) + (b.1 * s) * (a.2 * q)) * c.2 := by grind
    _ = ((p * a.2) * (b.2 * s) + (r * b.2) * (a.2 * q)) * c.2 := by rw [h1, h2]
    _ = (p * s + r * q) * c.2 * (a.2 * b.2) := by grind
theorem Val.neg {a : Int × Int} {p q : Int} (h : Val a p q) : Val (-a.1, a.2) (-p) q := ⟨vfrac_neg h.v, h.n0, by have := h.e; simp only [Int.neg_mul, this]⟩
theorem subP_ok {a b : Int × Int} (ha : vfrac a.1 a.2 = true) (hb : vfrac b.1 b.2 = true) : subP a b = addR a (-b.1, b.2) := by unfold subP; rw [if_pos ⟨ha, hb⟩]
theorem Val.sub {a b : Int × Int} {p q r s : Int} (h : Val a p q) (k : Val b r s) (ok : (subP a b).2 = 0) : Val (subP a b).1 (p * s - r * q) (q * s) := by
  rw [subP_ok h.v k.v] at ok ⊢
  exact (h.add k.neg ok).to (Int.mul_ne_zero h.n0 k.n0) (by rw [Int.neg_mul, Int.sub_eq_add_neg])
theorem Val.mul {a b : Int × Int} {p q r s : Int} (h : Val a p q) (k : Val b r s) (ok : (mulR a b).2 = 0) : Val (mulR a b).1 (p * r) (q * s) := by
  have hq := mul_q h.v k.v ok
  refine ⟨mulR_valid h.v k.v ok, Int.mul_ne_zero h.n0 k.n0, cancel (c := a.2 * b.2) (Int.mul_ne_zero h.d k.d) ?_⟩
  generalize (mulR a b).1 = c at *
  have h1 := h.e
  have h2 := k.e
  calc c.1 * (q * s) * (a.2 * b.2) = (c.1 * (a.2 * b.2)) * (q * s) := by ac_rfl
    _ = (a.1 * b.1 * c.2) * (q * s) := by rw [hq]
    _ = ((a.1 * q) * (b.1 * s)) * c.2 := by ac_rfl
    _ = ((p * a.2) * (r * b.2)) * c.2 := by rw [h1, h2]
    _ = (p * r) * c.2 * (a.2 * b.2) := by ac_rfl
theorem madeP_err {a d : Nat} {b : Bool} (hd : 0 < d) : (madeP a b d).2 = 0 ∨ (madeP a b d).2 = 5 := by
  unfold madeP signP
  rw [if_neg (by omega)]
  split <;> simp
theorem mulR_err {a b : Int × Int} (ha : vfrac a.1 a.2 = true) (hb : vfrac b.1 b.2 = true) : (mulR a b).2 = 0 ∨ (mulR a b).2 = 5 := by
  have h1 := (fr_bounds ha).1
  have h2 := (fr_bounds hb).1
  exact madeP_err (Nat.mul_pos (by omega) (by omega))
theorem addR_err {a b : Int × Int} (ha : vfrac a.1 a.2 = true) (hb : vfrac b.1 b.2 = true) : (addR a b).2 = 0 ∨ (addR a b).2 = 5 := by
  have h1 := (fr_bounds ha).1
  have h2 := (fr_bounds hb).1
  have hp : 0 < a.2.natAbs * b.2.natAbs := Nat.mul_pos (by omega) (by omega)
  unfold addR
  split
  · exact madeP_err hp
  · split <;> exact madeP_err hp
theorem subP_err {a b : Int × Int} (ha : vfrac a.1 a.2 = true) (hb : vfrac b.1 b.2 = true) : (subP a b).2 = 0 ∨ (subP a b).2 = 5 := by
  rw [subP_ok ha hb]
  exact addR_err ha (vfrac_neg hb)
theorem Val.int {x : Int × Int} {p q n : Int} (h : Val x p q) (e : p = n * q) : x = (n, 1) := by
  refine whole h.v h.n0 ?_
  rw [h.e, e]
/-- One denominator for all. -/
theorem dens : ∀ (x : List (Int × Int)), allV x = true → ∃ (X : Nat → Int) (D : Int), D ≠ 0 ∧ ∀ (k : Nat) (f : Int × Int), x[k]? = some f → Val f (X k) D
  | [], _ => ⟨fun _ => 0, 1, by decide, fun k f h => by simp at h⟩
  | f :: x, h => by
    have hxs : allV (f :: x) = (vfrac f.1 f.2 && allV x) := rfl
    rw [hxs, Bool.and_eq_true] at h
    obtain ⟨X, D, hD, hX⟩ := dens x h.2
    have hf := vfrac_ne h.1
    refine ⟨fun k => match k with | 0 => f.1 * D | k + 1 => f.2 * X k, f.2 * D, Int.mul_ne_zero hf hD, fun k g hg => ?_⟩
    cases k with
    | zero =>
      simp only [List.getElem?_cons_zero, Option.some.injEq] at hg
      subst hg
      exact (Val.self h.1).scale hD
    | succ k =>
      simp only [List.getElem?_cons_succ] at hg
      have := (hX k g hg).scale hf
      rw [Int.mul_comm (X k), Int.mul_comm D] at this
      exact this
theorem allV_of {x : List (Int × Int)} {X : Nat → Int} {D : Int} (h : ∀ (k : Nat) (f : Int × Int), x[k]? = some f → Val f (X k) D) : allV x = true := by
  unfold allV
  rw [List.all_eq_true]
  intro f hf
  obtain ⟨k, hk⟩ := List.mem_iff_getElem?.1 hf
  exact (h k f hk).v
theorem dot_vals {D : Int} : ∀ (r : List Int) (x : List (Int × Int)) (X : Nat → Int) (s : Int × Int) (S : Int), r.length = x.length → (∀ n ∈ r, -1000 ≤ n ∧ n ≤ 1000) → (∀ (k : Nat) (f : Int × Int), x[k]? = some f → Val f (X k) D) → Val s S D →
    ((dotF r x s).2 = 0 ∧ Val (dotF r x s).1 (S + sumN (fun k => Lin.at_ r k * X k) r.length) D) ∨ (dotF r x s).2 = 5
  | [], [], X, s, S, _, _, _, hs => .inl ⟨rfl, by simp only [dotF, List.length_nil, sumN, Int.add_zero]; exact hs⟩
  | [], _ :: _, _, _, _, h, _, _, _ => by simp at h
  | _ :: _, [], _, _, _, h, _, _, _ => by simp at h
  | n :: r, f :: x, X, s, S, hl, hr, hx, hs => by
    have hn : Val (n, 1) n 1 := .one (by have := hr n (by simp); omega)
    have hf := hx 0 f (by simp)
    simp only [dotF]
    rw [mulP_ok (a := (n, 1)) hn.v hf.v]
    rcases mulR_err hn.v hf.v with z1 | z1
    rotate_left 1
    · rw [if_neg (by omega)]
      exact .inr z1
    rw [if_pos z1]
    have ht := hn.mul hf z1
    generalize (mulR (n, 1) f).1 = t at *
    rw [addP_ok hs.v ht.v]
    rcases addR_err hs.v ht.v with z2 | z2
    rotate_left 1
    · rw [if_neg (by omega)]
      exact .inr z2
    rw [if_pos z2]
    have hw := (hs.add ht z2).to (r := S + n * X 0) hs.n0 (by grind)
    generalize (addR s t).1 = w at *
    have ih := dot_vals r x (fun k => X (k + 1)) w (S + n * X 0) (by simpa using hl) (fun y hy => hr y (List.mem_cons_of_mem _ hy)) (fun k g hg => hx (k + 1) g (by simpa using hg)) hw
    refine ih.imp ?_ id
    rintro ⟨k1, k2⟩
    refine ⟨k1, ?_⟩
    rw [List.length_cons, sumN_head]
    have e0 : Lin.at_ (n :: r) 0 = n := rfl
    have e1 : (fun k => Lin.at_ (n :: r) (k + 1) * X (k + 1)) = fun k => Lin.at_ r k * X (k + 1) := by
      funext k; simp [Lin.at_]
    rw [e0, e1, ← Int.add_assoc]
    exact k2
theorem dot_val {r : List Int} {x : List (Int × Int)} {X : Nat → Int} {D : Int} (hD : D ≠ 0) (hl : r.length = x.length) (hr : ∀ n ∈ r, -1000 ≤ n ∧ n ≤ 1000) (hx : ∀ (k : Nat) (f : Int × Int), x[k]? = some f → Val f (X k) D) :
    ((dotF r x (0, 1)).2 = 0 ∧ Val (dotF r x (0, 1)).1 (sumN (fun k => Lin.at_ r k * X k) r.length) D) ∨ (dotF r x (0, 1)).2 = 5 := by
  have := dot_vals r x X (0, 1) 0 hl hr hx ⟨vfrac_one (by omega), hD, by simp⟩
  rwa [Int.zero_add] at this
/-- Numbers over D that solve the equations. -/
def SolQ (m : List (List Int)) (right : List Int) (Z : Nat → Int) (D : Int) : Prop := ∀ (i : Nat) (r : List Int) (b : Int), m[i]? = some r → right[i]? = some b → sumN (fun k => Lin.at_ r k * Z k) (wid m) = D * b
section
variable {m : List (List Int)} {right : List Int}
theorem SolQ.phi (hv : validP m = true) (hr : right.length = m.length) {Z : Nat → Int} {D : Int} (h : SolQ m right Z D) : ∀ s ∈ copyP m right, T.phi Z D (wid m) (Lin.at_ s) = 0 := fun s hs => by
  obtain ⟨_, _, h3⟩ := validP_iff.1 hv
  obtain ⟨i, r, b, hi, hb, rfl⟩ := copy_row hr hs
  rw [phi_row (h3 r (List.mem_of_getElem? hi)).1, h i r b hi hb]
  omega
theorem van_of_sol {M : List (List Int)} {n : Nat} {f : Frm} (h : Lin.Inv M (n + 1) n f) {Z : Nat → Int} {D : Int} (hD : D ≠ 0) (hZ : ∀ s ∈ M, T.phi Z D n (Lin.at_ s) = 0) : Van (M.map Lin.at_) (SS M f) (CC f) n := by
  have hSS : ∀ r ∈ SS M f, T.phi Z D n r = 0 := fun r hr => by
    obtain ⟨s, hs, rfl⟩ := SS_mem h r hr
    exact hZ s hs
  intro r hr
  obtain ⟨s, hs, rfl⟩ := List.mem_map.1 hr
  have hsp : Span (Lin.at_ s :: SS M f) fun j => E (SS M f) (CC f) (Lin.at_ s) j := w_span (Lin.at_ s :: SS M f) (CC f)
  have h0 := phi_span hsp fun x hx => by
    rcases List.mem_cons.1 hx with rfl | hx
    · exact hZ s hs
    · exact hSS x hx
  unfold T.phi at h0
  simp only at h0
  rw [sumN_congr (G := fun _ => 0) n fun j hj => by
    rw [h.van_lt hj (Lin.at_ s) hr, Int.zero_mul], sumN_zero] at h0
  have : D * E (SS M f) (CC f) (Lin.at_ s) n = 0 := by omega
  rcases Int.mul_eq_zero.1 this with e | e
  · exact absurd e hD
  · exact e
/-- A solution, where no row is left over: the free ones 0. -/
def solZ (f : Frm) (n : Nat) (j : Nat) : Int := sumN (fun k => if (f.pivots[k]?).getD 0 = j then Lin.at_ (Lin.row f.rows k) n else 0) f.pivots.length
theorem sumN_swap (F : Nat → Nat → Int) (n : Nat) : ∀ k, sumN (fun j => sumN (fun i => F i j) k) n = sumN (fun i => sumN (fun j => F i j) n) k
  | 0 => by simp only [sumN]; exact sumN_zero n
  | k + 1 => by simp only [sumN]; rw [sumN_add, sumN_swap F n k]
theorem sumN_pick (g : Nat → Int) (c : Nat) (d : Int) (n : Nat) (h : c < n) : sumN (fun j => g j * (if c = j then d else 0)) n = g c * d := by
  rw [← sumN_one g c d n h]
  exact sumN_congr n fun j _ => by
    by_cases e : j = c
    · subst e; simp
    · rw [if_neg e, if_neg (Ne.symm e)]
theorem sol_exists {M : List (List Int)} {n : Nat} {f : Frm} (h : Lin.Inv M (n + 1) n f) (hv : Van (M.map Lin.at_) (SS M f) (CC f) n) : ∀ s ∈ M, T.phi (solZ f n) f.den n (Lin.at_ s) = 0 := fun s hs => by
  have hsum := van_sum h (Nat.lt_succ_self n) hv hs
  unfold T.phi
  have e : sumN (fun k => Lin.at_ s k * solZ f n k) n = sumN (fun k => Lin.at_ s ((f.pivots[k]?).getD 0) * Lin.at_ (Lin.row f.rows k) n) f.pivots.length := by
    have e1 : ∀ j, j < n → Lin.at_ s j * solZ f n j = sumN (fun k => Lin.at_ s j * (if (f.pivots[k]?).getD 0 = j then Lin.at_ (Lin.row f.rows k) n else 0)) f.pivots.length := fun j _ => by
      unfold solZ
      rw [sumN_mul]
    rw [sumN_congr n e1, sumN_swap]
    refine sumN_congr _ fun k hk => ?_
    have hp : f.pivots[k]? = some f.pivots[k] := List.getElem?_eq_getElem hk
    rw [hp, Option.getD_some]
    exact sumN_pick (Lin.at_ s) _ _ n (h.lt _ (List.getElem_mem hk))
  rw [e, ← hsum, Int.mul_comm]
  omega
theorem SolQ.of_phi (hv : validP m = true) {Z : Nat → Int} {D : Int} (h : ∀ s ∈ copyP m right, T.phi Z D (wid m) (Lin.at_ s) = 0) : SolQ m right Z D := fun i r b hi hb => by
  obtain ⟨_, _, h3⟩ := validP_iff.1 hv
  have := h _ (copy_mem hi hb)
  rw [phi_row (h3 r (List.mem_of_getElem? hi)).1] at this
  omega
variable (hv : validP m = true) (hr : right.length = m.length) (hw : withinP right 67108864 = true)
include hv hr hw
theorem van_left : (((solM m right).rows.drop (solM m right).pivots.length).any fun r => Lin.at_ r (wid m) != 0) = false ↔ ∃ Z D, D ≠ 0 ∧ SolQ m right Z D := by
  have iv := sol_inv hv hr hw
  rw [any_drop, iv.nr, ← iv.van (by omega)]
  constructor
  · intro h
    exact ⟨_, _, iv.den0, .of_phi hv (sol_exists iv h)⟩
  · rintro ⟨Z, D, hD, hZ⟩
    exact van_of_sol iv hD (hZ.phi hv hr)
/-- What Solve answers. -/
theorem solve_gap : (solveP m right).2 = 22 ↔ ¬ ∃ Z D, D ≠ 0 ∧ SolQ m right Z D := by
  rw [solveP_in hv hr hw, ← van_left hv hr hw]
  unfold solF
  split
  · rename_i h; simp [h]
  · rename_i h
    split <;> simp [h]
theorem solve_free : (solveP m right).2 = 21 ↔ (∃ Z D, D ≠ 0 ∧ SolQ m right Z D) ∧ rankP m (wid m) < wid m := by
  have hb : (solM m right).pivots.length = rankP m (wid m) := both_rank hv hr hw
  rw [solveP_in hv hr hw, ← van_left hv hr hw, ← hb]
  unfold solF
  split
  · rename_i h; simp [h]
  · rename_i h
    split
    · rename_i h2; simp [h]; omega
    · rename_i h2; simp [h]; omega
theorem solve_ok : (solveP m right).2 = 0 ↔ (∃ Z D, D ≠ 0 ∧ SolQ m right Z D) ∧ ¬ rankP m (wid m) < wid m := by
  have hb : (solM m right).pivots.length = rankP m (wid m) := both_rank hv hr hw
  rw [solveP_in hv hr hw, ← van_left hv hr hw, ← hb]
  unfold solF
  split
  · rename_i h; simp [h]
  · rename_i h
    split
    · rename_i h2; simp [h]; omega
    · rename_i h2; simp [h]; omega
theorem solve_cases : (solveP m right).2 = 0 ∨ (solveP m right).2 = 21 ∨ (solveP m right).2 = 22 := by
  rw [solveP_in hv hr hw]
  unfold solF
  split
  · simp
  · split <;> simp
theorem solve_nil (h : (solveP m right).2 ≠ 0) : (solveP m right).1 = [] := by
  rw [solveP_in hv hr hw] at h ⊢
  unfold solF at h ⊢
  split
  · rfl
  · rename_i h1
    rw [if_neg h1] at h
    split
    · rfl
    · rename_i h2
      rw [if_neg h2] at h
      exact absurd rfl h
theorem rank_le : rankP m (wid m) ≤ wid m := by
  have iv := sol_inv hv hr hw
  rw [← both_rank hv hr hw]
  have nd : (solM m right).pivots.Nodup := iv.nd.imp fun hlt => Nat.ne_of_lt hlt
  have hle := nd.length_le_of_subset (l₂ := List.range (wid m)) fun x hx => List.mem_range.2 (iv.lt x hx)
  simpa using hle
/-- The solution is worth numbers that solve the equations. -/
theorem solve_val (h : (solveP m right).2 = 0) : ∃ Z D, D ≠ 0 ∧ SolQ m right Z D ∧ (solveP m right).1.length = wid m ∧ ∀ (k : Nat) (f : Int × Int), (solveP m right).1[k]? = some f → Val f (Z k) D := by
  have hn := h
  rw [solveP_in hv hr hw] at h
  obtain ⟨s1, s2, s3⟩ := sol_eq hv hr hw h
  have iv := sol_inv hv hr hw
  have hb := both_small hv hr hw
  have in2 := iv.small2 hb (Nat.le_refl _)
  have hd2 := iv.den_small2 hb (Nat.le_refl _)
  refine ⟨solX m right, (solM m right).den, iv.den0, s2, by rw [solveP_in hv hr hw, s3]; simp, fun k f hf => ?_⟩
  rw [solveP_in hv hr hw, s3] at hf
  have hkl : k < wid m := by have := (List.getElem?_eq_some_iff.1 hf).1; simpa using this
  rw [List.getElem?_map, List.getElem?_range hkl] at hf
  simp only [Option.map_some, Option.some.injEq] at hf
  subst hf
  have hq := makeP_q iv.den0 (makeP_ok (in2 k (wid m) (by omega) (by omega)) hd2 iv.den0)
  exact ⟨hq.1, iv.den0, hq.2⟩
/-- There is one solution. -/
theorem sol_uniq (hfull : ¬ rankP m (wid m) < wid m) {Z Z' : Nat → Int} {D D' : Int} (hD : D ≠ 0) (hD' : D' ≠ 0) (hZ : SolQ m right Z D) (hZ' : SolQ m right Z' D') : ∀ k, k < wid m → Z k * D' = Z' k * D := fun k hk => by
  have hf : rankP m (wid m) = wid m := by have := rank_le hv hr hw; omega
  have a1 := (sol_of hv hr hw hf hD hZ).2 k hk
  have a2 := (sol_of hv hr hw hf hD' hZ').2 k hk
  have iv := sol_inv hv hr hw
  refine cancel (c := (solM m right).den) iv.den0 ?_
  calc Z k * D' * (solM m right).den = (Z k * (solM m right).den) * D' := by ac_rfl
    _ = (D * solX m right k) * D' := by rw [a1]
    _ = (D' * solX m right k) * D := by ac_rfl
    _ = (Z' k * (solM m right).den) * D := by rw [a2]
    _ = Z' k * D * (solM m right).den := by ac_rfl
/-- Fractions that solve the equations are the solution. -/
theorem solve_is (h : (solveP m right).2 = 0) {x : List (Int × Int)} (hx : x.length = wid m) {Z : Nat → Int} {D : Int} (hD : D ≠ 0) (hZ : SolQ m right Z D) (hX : ∀ (k : Nat) (f : Int × Int), x[k]? = some f → Val f (Z k) D) : (solveP m right).1 = x := by
  obtain ⟨Z', D', hD', hZ', hl, hX'⟩ := solve_val hv hr hw h
  have hfull := ((solve_ok hv hr hw).1 h).2
  refine List.ext_getElem? fun k => ?_
  by_cases hk : k < wid m
  · have e1 : (solveP m right).1[k]? = some (solveP m right).1[k] := List.getElem?_eq_getElem (by omega)
    have e2 : x[k]? = some x[k] := List.getElem?_eq_getElem (by omega)
    rw [e1, e2]
    exact congrArg some ((hX' k _ e1).eq (hX k _ e2) (sol_uniq hv hr hw hfull hD' hD hZ' hZ k hk))
  · rw [List.getElem?_eq_none (by omega), List.getElem?_eq_none (by omega)]
end
end Go.Proofs.Ytifmgjieplmbnaa.T
end

section
namespace Go.Proofs.Ytifmgjieplmbnaa.T
open Go Go.RowKit Lin
set_option linter.unusedSimpArgs false

/-! Equilibrium (plain). -/
theorem sub_same {w : Int} (h : vfrac w 1 = true) : subP (w, 1) (w, 1) = ((0, 1), 0) := by
  rw [subP_ok h h]
  unfold addR
  simp only
  by_cases h1 : w < 0
  · have h2 : ¬ (-w < 0) := by omega
    rw [decide_eq_true h1, decide_eq_false h2, if_neg (by decide), if_neg (by rw [Int.natAbs_neg]; exact Nat.lt_irrefl _)]
    simp [madeP, signP]
  · by_cases h3 : w = 0
    · subst h3; decide
    · have h2 : -w < 0 := by omega
      rw [decide_eq_false h1, decide_eq_true h2, if_neg (by decide), if_neg (by rw [Int.natAbs_neg]; exact Nat.lt_irrefl _)]
      simp [madeP, signP]
theorem resA_hold {l : List (Int × Int)} : ∀ (m : List (List Int)) (ws : List Int) (acc : List (Int × Int)), m.length = ws.length → (∀ w ∈ ws, vfrac w 1 = true) → (∀ (i : Nat) (r : List Int) (b : Int), m[i]? = some r → ws[i]? = some b → dotF r l (0, 1) = ((b, 1), 0) ∨ (dotF r l (0, 1)).2 = 5) →
    resA l m ws acc = (acc ++ List.replicate m.length (0, 1), 0) ∨ resA l m ws acc = ([], 5)
  | [], [], acc, _, _, _ => .inl (by simp [resA])
  | [], _ :: _, _, h, _, _ => by simp at h
  | _ :: _, [], _, h, _, _ => by simp at h
  | r :: m, w :: ws, acc, hl, hw, h => by
    simp only [resA]
    rcases h 0 r w (by simp) (by simp) with e | e
    · rw [e, if_pos rfl]
      simp only
      rw [sub_same (hw w (by simp)), if_pos rfl]
      have ih := resA_hold (l := l) m ws (acc ++ [(0, 1)]) (by simpa using hl) (fun y hy => hw y (List.mem_cons_of_mem _ hy)) fun (i : Nat) (r' : List Int) (b' : Int) h1 h2 => h (i + 1) r' b' (by simpa using h1) (by simpa using h2)
      refine ih.imp (fun e => ?_) id
      rw [e, List.length_cons, List.replicate_succ]
      simp
    · rw [e, if_neg (by decide)]
      exact .inr rfl
theorem resA_keeps {l : List (Int × Int)} : ∀ (m : List (List Int)) (ws : List Int) (acc : List (Int × Int)), (resA l m ws acc).2 = 0 → (resA l m ws acc).1.any (fun x => x.1 != 0) = false → acc.any (fun x => x.1 != 0) = false
  | [], ws, acc, _, h => by simpa only [resA] using h
  | r :: m, [], acc, _, h => by simpa only [resA] using h
  | r :: m, w :: ws, acc, h0, h => by
    simp only [resA] at h0 h
    split at h
    · rename_i h1
      rw [if_pos h1] at h0
      split at h
      · rename_i h2
        rw [if_pos h2] at h0
        have := resA_keeps m ws _ h0 h
        rw [List.any_append, Bool.or_eq_false_iff] at this
        exact this.1
      · rename_i h2
        rw [if_neg h2] at h0
        exact absurd h0 h2
    · rename_i h1
      rw [if_neg h1] at h0
      exact absurd h0 h1
theorem resA_inv {l : List (Int × Int)} (ha : allV l = true) : ∀ (m : List (List Int)) (ws : List Int) (acc : List (Int × Int)), (∀ r ∈ m, ∀ n ∈ r, -1000 ≤ n ∧ n ≤ 1000) → (∀ w ∈ ws, vfrac w 1 = true) → (resA l m ws acc).2 = 0 → (resA l m ws acc).1.any (fun x => x.1 != 0) = false →
    ∀ (i : Nat) (r : List Int) (b : Int), m[i]? = some r → ws[i]? = some b → dotF r l (0, 1) = ((b, 1), 0)
  | [], ws, acc, _, _, _, _, i, r, b, hr, _ => by simp at hr
  | r :: m, [], acc, _, _, _, _, i, r', b, _, hb => by simp at hb
  | r :: m, w :: ws, acc, hm, hw, h0, h, i, r', b, hr, hb => by
    simp only [resA] at h0 h
    split at h
    rotate_left 1
    · rename_i h1
      rw [if_neg h1] at h0
      exact absurd h0 h1
    rename_i h1
    rw [if_pos h1] at h0
    split at h
    rotate_left 1
    · rename_i h2
      rw [if_neg h2] at h0
      exact absurd h0 h2
    rename_i h2
    rw [if_pos h2] at h0
    cases i with
    | succ i => exact resA_inv ha m ws _ (fun x hx => hm x (List.mem_cons_of_mem _ hx)) (fun x hx => hw x (List.mem_cons_of_mem _ hx)) h0 h i r' b (by simpa using hr) (by simpa using hb)
    | zero =>
      simp only [List.getElem?_cons_zero, Option.some.injEq] at hr hb
      subst hr
      subst hb
      have hk := resA_keeps m ws _ h0 h
      rw [List.any_append, Bool.or_eq_false_iff] at hk
      have hz : (subP (w, 1) (dotF r l (0, 1)).1).1.1 = 0 := by simpa using hk.2
      have hv := dotF_valid (hm r (by simp)) ha (by decide) h1
      have hy := Val.self hv
      have hwv : Val (w, 1) w 1 := ⟨hw w (by simp), by decide, rfl⟩
      have hs := hwv.sub hy h2
      generalize hY : dotF r l (0, 1) = Y at *
      have he := hs.e
      rw [hz, Int.zero_mul] at he
      have h3 : w * Y.1.2 - Y.1.1 * 1 = 0 := (Int.mul_eq_zero.1 he.symm).resolve_right hs.d
      refine Prod.ext (hy.int ?_) h1
      omega
theorem OkS.rows {s : Sy} (ok : OkS s) : ∀ r ∈ matS s, r.length = wid (matS s) ∧ ∀ x ∈ r, -1000 ≤ x ∧ x ≤ 1000 := fun r hr => by
  obtain ⟨_, _, h3⟩ := validP_iff.1 ok.mat_valid
  refine ⟨(h3 r hr).1, fun x hx => ?_⟩
  have := (h3 r hr).2 x hx
  omega
theorem OkS.wv {s : Sy} (ok : OkS s) : ∀ w ∈ wtsS s, vfrac w 1 = true := fun w hw => vfrac_one (by have := withinP_spec ok.wts_in w hw; omega)
theorem OkS.len {s : Sy} (ok : OkS s) : (wtsS s).length = (matS s).length := by rw [ok.wts_len, ok.mat_len]
/-- What Check says of tensions. -/
theorem chk_iff {s : Sy} {l : List (Int × Int)} (hg : givE s l = 0) (h0 : (chkP s l).2 = 0) {Z : Nat → Int} {D : Int} (hD : D ≠ 0) (hZ : ∀ (k : Nat) (f : Int × Int), l[k]? = some f → Val f (Z k) D) : (chkP s l).1 = true ↔ SolQ (matS s) (wtsS s) Z D := by
  obtain ⟨hv, ha, hz⟩ := givE_zero hg
  have ok := validS_ok hv
  have hrow := ok.rows
  have hwv := ok.wv
  have hll := ok.len
  have hw : wid (matS s) = l.length := by rw [ok.mat_wid, hz]
  have er : resP s l = resA l (matS s) (wtsS s) [] := by unfold resP; rw [if_pos hg]
  unfold chkP at h0 ⊢
  rw [er] at h0 ⊢
  have hdv : ∀ r ∈ matS s, _ := fun r hr => dot_val (r := r) hD (by rw [(hrow r hr).1, hw]) (hrow r hr).2 hZ
  by_cases h1 : (resA l (matS s) (wtsS s) []).2 = 0
  rotate_left 1
  · rw [if_neg h1] at h0
    exact absurd h0 h1
  rw [if_pos h1]
  simp only [Bool.not_eq_true']
  constructor
  · intro h i r b hi hb
    have e := resA_inv ha _ _ _ (fun r hr => (hrow r hr).2) hwv h1 h i r b hi hb
    have hr := List.mem_of_getElem? hi
    rcases hdv r hr with ⟨_, k⟩ | k
    · rw [e] at k
      have hb1 : Val (b, 1) b 1 := ⟨hwv b (List.mem_of_getElem? hb), by decide, rfl⟩
      have := k.same hb1
      rw [(hrow r hr).1] at this
      rw [Int.mul_comm D]
      omega
    · rw [e] at k; simp at k
  · intro h
    rcases resA_hold (l := l) (matS s) (wtsS s) [] hll.symm hwv (fun i r b hi hb => by
      have hr := List.mem_of_getElem? hi
      rcases hdv r hr with ⟨k1, k⟩ | k
      · rw [(hrow r hr).1, h i r b hi hb] at k
        exact .inl (Prod.ext (k.int (Int.mul_comm _ _)) k1)
      · exact .inr k) with e | e
    · rw [e]
      simp
    · rw [e] at h1; simp at h1
theorem chk_err {s : Sy} {l : List (Int × Int)} (hg : givE s l = 0) : (chkP s l).2 = 0 ∨ (chkP s l).2 = 5 := by
  obtain ⟨hv, ha, hz⟩ := givE_zero hg
  have ok := validS_ok hv
  have hrow := ok.rows
  have hwv := ok.wv
  have er : resP s l = resA l (matS s) (wtsS s) [] := by unfold resP; rw [if_pos hg]
  have main : ∀ (m : List (List Int)) (ws : List Int) (acc : List (Int × Int)), (∀ r ∈ m, r.length = l.length ∧ ∀ n ∈ r, -1000 ≤ n ∧ n ≤ 1000) → (∀ w ∈ ws, vfrac w 1 = true) → (resA l m ws acc).2 = 0 ∨ (resA l m ws acc).2 = 5 := by
    obtain ⟨Z, D, hD, hZ⟩ := dens l ha
    intro m
    induction m with
    | nil => intro ws acc _ _; simp [resA]
    | cons r m ih =>
      intro ws acc hr hw
      cases ws with
      | nil => simp [resA]
      | cons w ws =>
        simp only [resA]
        rcases dot_val (r := r) hD (hr r (by simp)).1 (hr r (by simp)).2 hZ with ⟨k1, k⟩ | k
        · rw [if_pos k1]
          rcases subP_err (a := (w, 1)) (hw w (by simp)) k.v with h2 | h2
          · rw [if_pos h2]
            exact ih ws _ (fun x hx => hr x (List.mem_cons_of_mem _ hx)) (fun x hx => hw x (List.mem_cons_of_mem _ hx))
          · rw [if_neg (by omega)]
            exact .inr h2
        · rw [if_neg (by omega)]
          exact .inr k
  have := main (matS s) (wtsS s) [] (fun r hr => ⟨by rw [(hrow r hr).1, ok.mat_wid, hz], (hrow r hr).2⟩) hwv
  unfold chkP
  rw [er]
  rcases this with e | e
  · rw [if_pos e]; exact .inl rfl
  · rw [if_neg (by omega)]; exact .inr e
/-- The tensions hold. -/
theorem tens_own {s : Sy} (h : (tensP s).2 = 0) : givE s (tensP s).1 = 0 ∧ ∃ Z D, D ≠ 0 ∧ SolQ (matS s) (wtsS s) Z D ∧ ∀ (k : Nat) (f : Int × Int), (tensP s).1[k]? = some f → Val f (Z k) D := by
  obtain ⟨hv, hl⟩ := tensP_len h
  have ok := validS_ok hv
  have e : tensP s = solveP (matS s) (wtsS s) := by unfold tensP; rw [if_pos hv]
  rw [e] at h hl ⊢
  obtain ⟨Z, D, hD, hZ, _, hX⟩ := solve_val ok.mat_valid ok.len ok.wts_in h
  exact ⟨by unfold givE; rw [if_pos ⟨hv, allV_of hX⟩, if_pos hl], Z, D, hD, hZ, hX⟩
theorem hold_own {s : Sy} (h : (tensP s).2 = 0) : chkP s (tensP s).1 = (true, 0) ∨ (chkP s (tensP s).1).2 = 5 := by
  obtain ⟨hg, Z, D, hD, hZ, hX⟩ := tens_own h
  rcases chk_err hg with h0 | h0
  · exact .inl (Prod.ext ((chk_iff hg h0 hD hX).2 hZ) h0)
  · exact .inr h0
theorem chk_given {s : Sy} {l : List (Int × Int)} (h0 : (chkP s l).2 = 0) : givE s l = 0 := by
  unfold chkP at h0
  by_cases hg : givE s l = 0
  · exact hg
  · have er : resP s l = ([], givE s l) := by unfold resP; rw [if_neg hg]
    rw [er] at h0
    simp only at h0
    rw [if_neg hg] at h0
    exact absurd h0 hg
/-- With no others. -/
theorem hold_only {s : Sy} {l : List (Int × Int)} (h : (tensP s).2 = 0) (h0 : (chkP s l).2 = 0) : (chkP s l).1 = (l == (tensP s).1) := by
  have hg := chk_given h0
  obtain ⟨hv, ha, hz⟩ := givE_zero hg
  have ok := validS_ok hv
  obtain ⟨_, Z, D, hD, hZ, hX⟩ := tens_own h
  obtain ⟨Z', D', hD', hZ'⟩ := dens l ha
  rw [Bool.eq_iff_iff, beq_iff_eq]
  constructor
  · intro hc
    have hs := (chk_iff hg h0 hD' hZ').1 hc
    have e : tensP s = solveP (matS s) (wtsS s) := by unfold tensP; rw [if_pos hv]
    rw [e] at h ⊢
    exact (solve_is ok.mat_valid ok.len ok.wts_in h (by rw [ok.mat_wid, hz]) hD' hs hZ').symm
  · intro e
    subst e
    exact (chk_iff hg h0 hD hX).2 hZ
/-- Tensions that are found in another way. -/
theorem hold_none {s : Sy} {l : List (Int × Int)} (h : (tensP s).2 ≠ 0) : (tensP s).1 = [] ∧ ((chkP s l).2 = 0 → (chkP s l).1 = true → (tensP s).2 = 21) := by
  by_cases hv : validS s = true
  · have ok := validS_ok hv
    have e : tensP s = solveP (matS s) (wtsS s) := by unfold tensP; rw [if_pos hv]
    rw [e] at h ⊢
    refine ⟨solve_nil ok.mat_valid ok.len ok.wts_in h, fun h0 hc => ?_⟩
    have hg := chk_given h0
    obtain ⟨_, ha, hz⟩ := givE_zero hg
    obtain ⟨Z', D', hD', hZ'⟩ := dens l ha
    have hs := (chk_iff hg h0 hD' hZ').1 hc
    rcases solve_cases ok.mat_valid ok.len ok.wts_in with k | k | k
    · exact absurd k h
    · exact k
    · exact absurd ⟨Z', D', hD', hs⟩ ((solve_gap ok.mat_valid ok.len ok.wts_in).1 k)
  · have e : tensP s = ([], 1) := by unfold tensP; rw [if_neg hv]
    refine ⟨by rw [e], fun h0 => ?_⟩
    have hg := chk_given h0
    exact absurd (givE_zero hg).1 hv
/-- The total is that of the weights. -/
theorem sum_rows {m : List (List Int)} {ws : List Int} {Z : Nat → Int} {D : Int} (n : Nat) (hl : m.length = ws.length) (h : ∀ (i : Nat) (r : List Int) (b : Int), m[i]? = some r → ws[i]? = some b → sumN (fun k => Lin.at_ r k * Z k) n = D * b) : ∀ i, i ≤ m.length → sumN (fun k => pulN m k i * Z k) n = D * (ws.take i).sum
  | 0, _ => by
    rw [sumN_congr (G := fun _ => 0) n fun k _ => by rw [pulN_zero, Int.zero_mul], sumN_zero]
    simp
  | i + 1, hi => by
    obtain ⟨r, hr⟩ : ∃ r, m[i]? = some r := ⟨_, List.getElem?_eq_getElem (by omega)⟩
    obtain ⟨b, hb⟩ : ∃ b, ws[i]? = some b := ⟨_, List.getElem?_eq_getElem (by omega)⟩
    have ih := sum_rows n hl h i (by omega)
    have h1 := h i r b hr hb
    have e : ∀ k, pulN m k (i + 1) = pulN m k i + Lin.at_ r k := fun k => by
      unfold pulN
      rw [List.take_add_one, hr]
      simp [List.getD, Lin.at_]
    rw [sumN_congr n fun k _ => by rw [e k, Int.add_mul], sumN_add, ih, h1, List.take_add_one, hb]
    simp [Int.mul_add]
theorem total_own {s : Sy} (h : (tensP s).2 = 0) : totP s (tensP s).1 = (((wtsS s).sum, 1), 0) ∨ (totP s (tensP s).1).2 = 5 := by
  obtain ⟨hg, Z, D, hD, hZ, hX⟩ := tens_own h
  obtain ⟨hv, ha, hz⟩ := givE_zero hg
  have ok := validS_ok hv
  unfold totP
  rw [if_pos hg]
  have hw := ok.mat_wid
  have h6 := ok.b6
  have hml := ok.mat_len
  obtain ⟨_, _, h3⟩ := validP_iff.1 ok.mat_valid
  have hb : ∀ n ∈ colS (matS s) s.rs.length, -1000 ≤ n ∧ n ≤ 1000 := fun n hn => by
    obtain ⟨k, hk, rfl⟩ := List.mem_map.1 hn
    have := pulN_le (m := matS s) (k := k) (fun r hr => (h3 r hr).2) (fun r hr => by rw [(h3 r hr).1, hw]; exact List.mem_range.1 hk) (matS s).length (Nat.le_refl _)
    omega
  refine (dot_val hD (by rw [colS_len, hz]) hb hX).imp (fun ⟨k1, k⟩ => Prod.ext (k.int ?_) k1) id
  rw [colS_len, sumN_congr (G := fun k => pulN (matS s) k (matS s).length * Z k) _ fun k hk => by
    have : Lin.at_ (colS (matS s) s.rs.length) k = pulN (matS s) k (matS s).length := by unfold Lin.at_; rw [colS_at hk]; rfl
    rw [this]]
  rw [sum_rows s.rs.length ok.len.symm (fun i r b hi hb => by rw [← hw]; exact hZ i r b hi hb) _ (Nat.le_refl _), List.take_of_length_le (by rw [ok.len]; exact Nat.le_refl _), Int.mul_comm]
end Go.Proofs.Ytifmgjieplmbnaa.T
end

section
namespace Go.Proofs.Ytifmgjieplmbnaa.T
open Go Go.RowKit Lin
set_option linter.unusedSimpArgs false

/-! The rank by what vanishes; the order of rows and columns (plain). -/
def Ker (m : List (List Int)) (Z : Nat → Int) : Prop := ∀ r ∈ m, sumN (fun k => Lin.at_ r k * Z k) (wid m) = 0
theorem nX_one {f : Frm} {c : Nat} (hc : f.pivots.contains c = false) : ∀ k, k ≤ f.pivots.length → nX f c k c = f.den
  | 0, _ => by simp [nX]
  | k + 1, hk => by
    simp only [nX]
    rw [if_neg, nX_one hc k (by omega)]
    intro e
    rw [List.getElem?_eq_getElem (show k < f.pivots.length by omega), Option.getD_some] at e
    have : f.pivots.contains c = true := List.contains_iff_mem.2 (by rw [e]; exact List.getElem_mem _)
    rw [hc] at this; cases this
theorem free_col {l : List Nat} {n : Nat} (h : l.length < n) : ∃ c, c < n ∧ l.contains c = false := Classical.byContradiction fun hno => by
  have hs : List.range n ⊆ l := fun c hc => by
    refine Classical.byContradiction fun hne => hno ⟨c, List.mem_range.1 hc, ?_⟩
    rw [← Bool.not_eq_true, List.contains_iff_mem]
    exact hne
  have := (List.nodup_range (n := n)).length_le_of_subset hs
  simp at this
  omega
theorem ker_sol {m : List (List Int)} {Z : Nat → Int} (h : Ker m Z) : SolQ m (List.replicate m.length 0) Z 1 := fun i r b hi hb => by
  have : b = 0 := by
    have := List.mem_of_getElem? hb
    exact List.eq_of_mem_replicate this
  rw [h r (List.mem_of_getElem? hi), this]
  rfl
theorem rank_null {m : List (List Int)} (hv : validP m = true) : rankP m (wid m) < wid m ↔ ∃ Z, Ker m Z ∧ ∃ k, k < wid m ∧ Z k ≠ 0 := by
  have hs := valid_small hv
  have iv := elim_inv (ups_mover m (wid m)) hs.lens (wid m) (Nat.le_refl _)
  rw [← elim_by] at iv
  constructor
  · intro h
    unfold rankP at h
    generalize elim m (wid m) = f at *
    obtain ⟨c, hcn, hc⟩ := free_col h
    refine ⟨nX f c f.pivots.length, fun r hr => ?_, c, hcn, ?_⟩
    · rw [nX_sum iv hcn hc (Lin.at_ r) f.pivots.length (Nat.le_refl _), van_sum iv hcn (iv.van_lt hcn) hr]
      omega
    · rw [nX_one hc _ (Nat.le_refl _)]
      exact iv.den0
  · rintro ⟨Z, hZ, k, hk, hne⟩
    refine Nat.lt_of_not_le fun hge => hne ?_
    have hw0 : withinP (List.replicate m.length (0 : Int)) 67108864 = true := withinP_of fun n hn => by rw [List.eq_of_mem_replicate hn]; omega
    have h0 : Ker m (fun _ => 0) := fun r _ => by
      rw [sumN_congr (G := fun _ => 0) _ fun k _ => Int.mul_zero _]
      exact sumN_zero _
    have := sol_uniq hv (by simp) hw0 (by omega) (by decide) (by decide) (ker_sol hZ) (ker_sol h0) k hk
    simpa using this
theorem sumN_rev (F : Nat → Int) : ∀ n, sumN (fun k => F (n - 1 - k)) n = sumN F n
  | 0 => rfl
  | n + 1 => by
    rw [sumN_head]
    simp only [sumN, Nat.add_sub_cancel, Nat.sub_zero]
    rw [← sumN_rev F n]
    congr 1
    exact sumN_congr n fun k hk => by rw [show n - (k + 1) = n - 1 - k by omega]
def revM (m : List (List Int)) : List (List Int) := (m.map List.reverse).reverse
theorem revM_len (m : List (List Int)) : (revM m).length = m.length := by simp [revM]
theorem revM_mem {m : List (List Int)} {r : List Int} : r ∈ revM m ↔ ∃ q ∈ m, r = q.reverse := by
  unfold revM
  rw [List.mem_reverse, List.mem_map]
  exact ⟨fun ⟨q, h, e⟩ => ⟨q, h, e.symm⟩, fun ⟨q, h, e⟩ => ⟨q, h, e.symm⟩⟩
theorem revM_valid {m : List (List Int)} (hv : validP m = true) : validP (revM m) = true ∧ wid (revM m) = wid m := by
  obtain ⟨h1, h2, h3⟩ := validP_iff.1 hv
  have hw : wid (revM m) = wid m := by
    have hl := revM_len m
    obtain ⟨r, rs, e⟩ : ∃ r rs, revM m = r :: rs := by
      cases hr : revM m with
      | nil => rw [hr] at hl; simp at hl; omega
      | cons a b => exact ⟨a, b, rfl⟩
    have hm : r ∈ revM m := by rw [e]; simp
    obtain ⟨q, hq, rfl⟩ := revM_mem.1 hm
    unfold wid
    rw [e, List.headD_cons, List.length_reverse]
    exact (h3 q hq).1
  refine ⟨validP_iff.2 ⟨by rw [revM_len]; exact h1, by rw [hw]; exact h2, fun r hr => ?_⟩, hw⟩
  obtain ⟨q, hq, rfl⟩ := revM_mem.1 hr
  rw [hw, List.length_reverse]
  exact ⟨(h3 q hq).1, fun x hx => (h3 q hq).2 x (List.mem_reverse.1 hx)⟩
theorem at_rev {q : List Int} {k : Nat} (h : k < q.length) : Lin.at_ q.reverse k = Lin.at_ q (q.length - 1 - k) := by
  unfold Lin.at_
  rw [List.getElem?_reverse h]
theorem sum_rev {m : List (List Int)} (hv : validP m = true) {q : List Int} (hq : q ∈ m) (Z : Nat → Int) : sumN (fun k => Lin.at_ q.reverse k * Z (wid m - 1 - k)) (wid m) = sumN (fun k => Lin.at_ q k * Z k) (wid m) := by
  obtain ⟨_, _, h3⟩ := validP_iff.1 hv
  rw [← sumN_rev (fun k => Lin.at_ q k * Z k)]
  exact sumN_congr _ fun k hk => by rw [at_rev (by rw [(h3 q hq).1]; exact hk), (h3 q hq).1]
theorem rev_get {α : Type} {l : List α} {i : Nat} {x : α} (h : l.reverse[i]? = some x) : l[l.length - 1 - i]? = some x := by
  have hi := (List.getElem?_eq_some_iff.1 h).1
  rw [List.length_reverse] at hi
  rwa [List.getElem?_reverse hi] at h
theorem SolQ.rev {m : List (List Int)} {right : List Int} (hv : validP m = true) (hr : right.length = m.length) {Z : Nat → Int} {D : Int} (h : SolQ m right Z D) : SolQ (revM m) right.reverse (fun k => Z (wid m - 1 - k)) D := fun i r b hi hb => by
  have h1 := rev_get hi
  have h2 := rev_get hb
  rw [List.length_map] at h1
  rw [List.getElem?_map] at h1
  cases hq : m[m.length - 1 - i]? with
  | none => rw [hq] at h1; simp at h1
  | some q =>
    rw [hq] at h1
    simp only [Option.map_some, Option.some.injEq] at h1
    subst h1
    rw [(revM_valid hv).2, sum_rev hv (List.mem_of_getElem? hq)]
    exact h _ q b hq (by rw [← hr]; exact h2)
theorem revM_rev (m : List (List Int)) : revM (revM m) = m := by
  unfold revM
  rw [List.map_reverse, List.reverse_reverse, List.map_map]
  have : (List.reverse ∘ List.reverse : List Int → List Int) = id := by funext l; simp
  rw [this, List.map_id]
theorem Ker.rev {m : List (List Int)} (hv : validP m = true) {Z : Nat → Int} (h : Ker m Z) : Ker (revM m) (fun k => Z (wid m - 1 - k)) := fun r hr => by
  obtain ⟨q, hq, rfl⟩ := revM_mem.1 hr
  rw [(revM_valid hv).2, sum_rev hv hq]
  exact h q hq
theorem sol_rev_iff {m : List (List Int)} {right : List Int} (hv : validP m = true) (hr : right.length = m.length) : (∃ Z D, D ≠ 0 ∧ SolQ (revM m) right.reverse Z D) ↔ ∃ Z D, D ≠ 0 ∧ SolQ m right Z D := by
  constructor
  · rintro ⟨Z, D, hD, h⟩
    have := h.rev (revM_valid hv).1 (by rw [revM_len]; simpa using hr)
    rw [revM_rev, List.reverse_reverse] at this
    exact ⟨_, D, hD, this⟩
  · rintro ⟨Z, D, hD, h⟩
    exact ⟨_, D, hD, h.rev hv hr⟩
theorem rank_rev {m : List (List Int)} (hv : validP m = true) : rankP (revM m) (wid (revM m)) < wid (revM m) ↔ rankP m (wid m) < wid m := by
  obtain ⟨v2, w2⟩ := revM_valid hv
  rw [rank_null v2, rank_null hv]
  have flip : ∀ {m : List (List Int)}, validP m = true → (∃ Z, Ker m Z ∧ ∃ k, k < wid m ∧ Z k ≠ 0) → ∃ Z, Ker (revM m) Z ∧ ∃ k, k < wid (revM m) ∧ Z k ≠ 0 := fun {m} hv ⟨Z, hZ, k, hk, hne⟩ => by
    refine ⟨_, hZ.rev hv, wid m - 1 - k, by rw [(revM_valid hv).2]; omega, ?_⟩
    rwa [show wid m - 1 - (wid m - 1 - k) = k by omega]
  constructor
  · intro h
    have := flip v2 h
    rwa [revM_rev] at this
  · exact flip hv
theorem within_rev {right : List Int} {x : Int} (h : withinP right x = true) : withinP right.reverse x = true := withinP_of fun n hn => withinP_spec h n (List.mem_reverse.1 hn)
/-- The solution with all in the reverse order. -/
theorem solve_rev {m : List (List Int)} {right : List Int} (hv : validP m = true) (hr : right.length = m.length) (hw : withinP right 67108864 = true) : solveP (revM m) right.reverse = ((solveP m right).1.reverse, (solveP m right).2) := by
  obtain ⟨v2, w2⟩ := revM_valid hv
  have r2 : right.reverse.length = (revM m).length := by rw [revM_len]; simpa using hr
  have hw2 := within_rev hw
  have e2 : (solveP (revM m) right.reverse).2 = (solveP m right).2 := by
    rcases solve_cases hv hr hw with k | k | k
    · rw [k, solve_ok v2 r2 hw2, sol_rev_iff hv hr, rank_rev hv]
      exact (solve_ok hv hr hw).1 k
    · rw [k, solve_free v2 r2 hw2, sol_rev_iff hv hr, rank_rev hv]
      exact (solve_free hv hr hw).1 k
    · rw [k, solve_gap v2 r2 hw2, sol_rev_iff hv hr]
      exact (solve_gap hv hr hw).1 k
  refine Prod.ext ?_ e2
  by_cases h0 : (solveP m right).2 = 0
  · obtain ⟨Z, D, hD, hZ, hl, hX⟩ := solve_val hv hr hw h0
    refine solve_is v2 r2 hw2 (by rw [e2]; exact h0) (by simp only [List.length_reverse]; rw [hl, w2]) hD (hZ.rev hv hr) fun k f hf => ?_
    have := hX _ _ (rev_get hf)
    rwa [hl] at this
  · rw [solve_nil v2 r2 hw2 (by rw [e2]; exact h0), solve_nil hv hr hw h0]
    rfl
end Go.Proofs.Ytifmgjieplmbnaa.T
end

section
namespace Go.Proofs.Ytifmgjieplmbnaa.T
open Go Go.RowKit Lin
set_option linter.unusedSimpArgs false

/-! Valid systems, without an order (plain). -/
theorem nodup_take {l : List ByteArray} : l.Nodup ↔ ∀ (k : Nat) (x : ByteArray), l[k]? = some x → (l.take k).contains x = false := by
  unfold List.Nodup
  rw [List.pairwise_iff_getElem]
  constructor
  · intro h k x hk
    rw [← Bool.not_eq_true, List.contains_iff_mem]
    intro hm
    obtain ⟨i, hi⟩ := List.mem_iff_getElem?.1 hm
    have hik : i < k := by
      have := (List.getElem?_eq_some_iff.1 hi).1
      simp at this; omega
    rw [List.getElem?_take, if_pos hik] at hi
    obtain ⟨hk1, hk2⟩ := List.getElem?_eq_some_iff.1 hk
    obtain ⟨hi1, hi2⟩ := List.getElem?_eq_some_iff.1 hi
    exact h i k hi1 hk1 hik (by rw [hi2, hk2])
  · intro h i j hi hj hij e
    have h1 := h j l[j] (List.getElem?_eq_getElem hj)
    rw [← Bool.not_eq_true, List.contains_iff_mem] at h1
    refine h1 (List.mem_of_getElem? (i := i) ?_)
    rw [List.getElem?_take, if_pos hij, List.getElem?_eq_getElem hi, e]
structure VS (s : Sy) : Prop where
  b : 1 ≤ s.bs.length ∧ s.bs.length ≤ 6
  r : 1 ≤ s.rs.length ∧ s.rs.length ≤ 6
  nd : (bNames s.bs ++ rNames s.rs).Nodup
  bk : ∀ b ∈ s.bs, isNm b.nm = true ∧ 0 ≤ b.w ∧ b.w ≤ 16777216
  rp : ∀ r ∈ s.rs, isNm r.nm = true ∧ okRope s.bs r = true
  h : hauls s.rs ≤ 1
theorem bN_len (l : List Bk) : (bNames l).length = l.length := by simp [bNames]
theorem rN_len (l : List Rp) : (rNames l).length = l.length := by simp [rNames]
theorem bN_take (l : List Bk) (k : Nat) : bNames (l.take k) = (bNames l).take k := by simp [bNames, List.map_take]
theorem rN_take (l : List Rp) (k : Nat) : rNames (l.take k) = (rNames l).take k := by simp [rNames, List.map_take]
theorem validS_iff {s : Sy} : validS s = true ↔ VS s := by
  unfold validS okSize
  simp only [Bool.and_eq_true, List.all_eq_true, List.mem_range, decide_eq_true_eq]
  have hbl := bN_len s.bs
  have hrl := rN_len s.rs
  constructor
  · rintro ⟨⟨⟨⟨b, r⟩, hb⟩, hr⟩, hh⟩
    have hB : ∀ i b, s.bs[i]? = some b → isNm b.nm = true ∧ (bNames (s.bs.take i)).contains b.nm = false ∧ 0 ≤ b.w ∧ b.w ≤ 16777216 := fun i b hi => by
      have := hb i (List.getElem?_eq_some_iff.1 hi).1
      rw [okB_at hi, Bool.and_eq_true, Bool.and_eq_true, Bool.not_eq_true', decide_eq_true_eq] at this
      exact ⟨this.1.1, this.1.2, this.2⟩
    have hR : ∀ i r, s.rs[i]? = some r → isNm r.nm = true ∧ (bNames s.bs ++ rNames (s.rs.take i)).contains r.nm = false ∧ okRope s.bs r = true := fun i r hi => by
      have := hr i (List.getElem?_eq_some_iff.1 hi).1
      rw [okR_at hi, Bool.and_eq_true, Bool.and_eq_true, Bool.not_eq_true'] at this
      exact ⟨this.1.1, this.1.2, this.2⟩
    refine ⟨b, r, nodup_take.2 fun k x hk => ?_, fun x hx => ?_, fun x hx => ?_, hh⟩
    · by_cases hkb : k < s.bs.length
      · rw [List.getElem?_append_left (by omega)] at hk
        rw [List.take_append_of_le_length (by omega)]
        obtain ⟨b, hb'⟩ : ∃ b, s.bs[k]? = some b := ⟨_, List.getElem?_eq_getElem hkb⟩
        have hx : b.nm = x := by simpa [bNames, hb'] using hk
        rw [← hx, ← bN_take]
        exact (hB k b hb').2.1
      · rw [List.getElem?_append_right (by omega), hbl] at hk
        have hlt := (List.getElem?_eq_some_iff.1 hk).1
        obtain ⟨r, hr'⟩ : ∃ r, s.rs[k - s.bs.length]? = some r := ⟨_, List.getElem?_eq_getElem (by omega)⟩
        have hx : r.nm = x := by simpa [rNames, hr'] using hk
        rw [← hx, List.take_append, List.take_of_length_le (by omega), hbl, ← rN_take]
        exact (hR _ r hr').2.1
    · obtain ⟨i, hi⟩ := List.mem_iff_getElem?.1 hx
      exact ⟨(hB i x hi).1, (hB i x hi).2.2⟩
    · obtain ⟨i, hi⟩ := List.mem_iff_getElem?.1 hx
      exact ⟨(hR i x hi).1, (hR i x hi).2.2⟩
  · rintro ⟨b, r, nd, bk, rp, hh⟩
    have hn := nodup_take.1 nd
    refine ⟨⟨⟨⟨b, r⟩, fun i hi => ?_⟩, fun i hi => ?_⟩, hh⟩
    · obtain ⟨b, hb⟩ : ∃ b, s.bs[i]? = some b := ⟨_, List.getElem?_eq_getElem hi⟩
      have h1 := bk b (List.mem_of_getElem? hb)
      have h2 := hn i b.nm (by rw [List.getElem?_append_left (by omega)]; simp [bNames, hb])
      rw [List.take_append_of_le_length (by omega), ← bN_take] at h2
      rw [okB_at hb, h1.1, h2, decide_eq_true h1.2]
      rfl
    · obtain ⟨r, hr⟩ : ∃ r, s.rs[i]? = some r := ⟨_, List.getElem?_eq_getElem hi⟩
      have h1 := rp r (List.mem_of_getElem? hr)
      have h2 := hn (s.bs.length + i) r.nm (by
        rw [List.getElem?_append_right (by omega), hbl, Nat.add_sub_cancel_left]
        simp [rNames, hr])
      rw [List.take_append, List.take_of_length_le (by omega), hbl, Nat.add_sub_cancel_left, ← rN_take] at h2
      rw [okR_at hr, h1.1, h2, h1.2]
      rfl
/-- What a rope needs of the blocks: their names. -/
theorem okHold_names {bs bs' : List Bk} (h : ∀ nm, (bNames bs).contains nm = (bNames bs').contains nm) (x : Hd) (e : Bool) : okHold bs x e = okHold bs' x e := by
  unfold okHold
  rw [findB_ge, findB_ge, h]
theorem okHolds_names {bs bs' : List Bk} (h : ∀ nm, (bNames bs).contains nm = (bNames bs').contains nm) (l : List Hd) : okHolds bs l = okHolds bs' l := by
  unfold okHolds
  congr 1
  funext i
  cases l[i]? with
  | none => rfl
  | some x => exact okHold_names h x _
theorem okRope_names {bs bs' : List Bk} (h : ∀ nm, (bNames bs).contains nm = (bNames bs').contains nm) (r : Rp) : okRope bs r = okRope bs' r := by
  unfold okRope
  rw [okHolds_names h]
/-- Other weights. -/
theorem VS.weights {s t : Sy} (h : VS s) (hr : t.rs = s.rs) (hn : bNames t.bs = bNames s.bs) (hw : ∀ b ∈ t.bs, 0 ≤ b.w ∧ b.w ≤ 16777216) : VS t := by
  have hl : t.bs.length = s.bs.length := by rw [← bN_len, ← bN_len, hn]
  refine ⟨by rw [hl]; exact h.b, by rw [hr]; exact h.r, by rw [hr, hn]; exact h.nd, fun b hb => ⟨?_, hw b hb⟩, fun r hr' => ?_, by rw [hr]; exact h.h⟩
  · have : b.nm ∈ bNames s.bs := by rw [← hn]; exact List.mem_map.2 ⟨b, hb, rfl⟩
    obtain ⟨c, hc, e⟩ := List.mem_map.1 this
    rw [← e]
    exact (h.bk c hc).1
  · rw [hr] at hr'
    rw [okRope_names (bs' := s.bs) (fun nm => by rw [hn])]
    exact h.rp r hr'
theorem matS_names {s t : Sy} (hr : t.rs = s.rs) (hn : bNames t.bs = bNames s.bs) : matS t = matS s := by
  have e : ∀ u : Sy, matS u = (bNames u.bs).map fun nm => u.rs.map fun r => pull nm r.hs := fun u => by unfold matS bNames; rw [List.map_map]; rfl
  rw [e, e, hn, hr]
/-- All in the reverse order. -/
def revS (s : Sy) : Sy := ⟨s.bs.reverse, s.rs.reverse⟩
theorem VS.rev {s : Sy} (h : VS s) : VS (revS s) := by
  refine ⟨by simpa [revS] using h.b, by simpa [revS] using h.r, ?_, fun b hb => h.bk b (List.mem_reverse.1 hb), fun r hr => ?_, ?_⟩
  · have e1 : bNames (revS s).bs = (bNames s.bs).reverse := by simp [revS, bNames]
    have e2 : rNames (revS s).rs = (rNames s.rs).reverse := by simp [revS, rNames]
    rw [e1, e2]
    refine (List.Perm.nodup_iff ?_).1 h.nd
    exact ((List.reverse_perm _).append (List.reverse_perm _)).symm
  · rw [okRope_names (bs' := s.bs) fun nm => by
      rw [Bool.eq_iff_iff, List.contains_iff_mem, List.contains_iff_mem]
      simp [revS, bNames]]
    exact h.rp r (List.mem_reverse.1 hr)
  · have : hauls (revS s).rs = hauls s.rs := by
      unfold hauls revS
      rw [List.filter_reverse, List.length_reverse]
    rw [this]
    exact h.h
theorem matS_rev (s : Sy) : matS (revS s) = revM (matS s) := by
  unfold matS revM revS
  simp only [List.map_reverse, List.map_map]
  rfl
theorem wtsS_rev (s : Sy) : wtsS (revS s) = (wtsS s).reverse := by simp [wtsS, revS]
theorem tens_rev {s : Sy} (hv : validS s = true) : tensP (revS s) = ((tensP s).1.reverse, (tensP s).2) := by
  have h2 := validS_iff.2 (validS_iff.1 hv).rev
  have ok := validS_ok hv
  unfold tensP
  rw [if_pos hv, if_pos h2, matS_rev, wtsS_rev]
  exact solve_rev ok.mat_valid ok.len ok.wts_in
/-- A rope that runs the other way. -/
def backR (r : Rp) : Rp := ⟨r.nm, r.hs.reverse, false⟩
def backS (s : Sy) (i : Nat) : Sy := ⟨s.bs, match s.rs[i]? with | some r => s.rs.set i (backR r) | none => s.rs⟩
theorem okHolds_iff {bs : List Bk} {hs : List Hd} : okHolds bs hs = true ↔ ∀ (i : Nat) (h : Hd), hs[i]? = some h → okHold bs h (endH hs.length i) = true := by
  unfold okHolds
  rw [List.all_eq_true]
  constructor
  · intro h i x hi
    have := h i (List.mem_range.2 (List.getElem?_eq_some_iff.1 hi).1)
    rw [hi] at this
    exact this
  · intro h i hi
    rw [List.mem_range] at hi
    rw [List.getElem?_eq_getElem hi]
    exact h i _ (List.getElem?_eq_getElem hi)
theorem okHolds_rev {bs : List Bk} {hs : List Hd} (h : okHolds bs hs = true) : okHolds bs hs.reverse = true := okHolds_iff.2 fun i x hi => by
  have hl := (List.getElem?_eq_some_iff.1 hi).1
  rw [List.length_reverse] at hl
  have := okHolds_iff.1 h _ x (rev_get hi)
  have e : endH hs.reverse.length i = endH hs.length (hs.length - 1 - i) := by
    unfold endH
    rw [List.length_reverse, Bool.eq_iff_iff]
    simp only [Bool.or_eq_true, beq_iff_eq]
    omega
  rw [e]
  exact this
theorem pull_perm {nm : ByteArray} {a b : List Hd} (h : a.Perm b) : pull nm a = pull nm b := by
  induction h with
  | nil => rfl
  | cons x _ ih => simp only [pull, ih]
  | swap x y l => simp only [pull]; omega
  | trans _ _ h1 h2 => rw [h1, h2]
theorem filter_set_len {l : List Rp} {i : Nat} {x y : Rp} (h : l[i]? = some x) (hy : y.hl = false) : hauls (l.set i y) ≤ hauls l := by
  unfold hauls
  obtain ⟨hi, e⟩ := List.getElem?_eq_some_iff.1 h
  rw [List.set_eq_take_append_cons_drop, if_pos hi]
  conv => rhs; rw [← List.take_append_drop i l, List.drop_eq_getElem_cons hi]
  simp only [List.filter_append, List.length_append, List.filter_cons, hy]
  simp only [Bool.false_eq_true, if_false]
  split <;> simp
theorem VS.back {s : Sy} (h : VS s) (i : Nat) : VS (backS s i) := by
  unfold backS
  cases hi : s.rs[i]? with
  | none => exact h
  | some r =>
    have hil := (List.getElem?_eq_some_iff.1 hi).1
    have hrm := List.mem_of_getElem? hi
    have hnm : rNames (s.rs.set i (backR r)) = rNames s.rs := by
      unfold rNames
      rw [List.map_set]
      refine List.ext_getElem? fun k => ?_
      by_cases e : i = k
      · subst e
        rw [List.getElem?_set_self (by simpa using hil), List.getElem?_map, hi]
        rfl
      · rw [List.getElem?_set_ne e]
    refine ⟨h.b, by simpa using h.r, by show (bNames s.bs ++ rNames (s.rs.set i (backR r))).Nodup; rw [hnm]; exact h.nd, h.bk, fun x hx => ?_, Nat.le_trans (filter_set_len hi rfl) h.h⟩
    rcases List.mem_or_eq_of_mem_set hx with hx | rfl
    · exact h.rp x hx
    · obtain ⟨a1, a2⟩ := h.rp r hrm
      refine ⟨a1, ?_⟩
      unfold okRope at a2 ⊢
      simp only [Bool.and_eq_true, decide_eq_true_eq] at a2 ⊢
      refine ⟨⟨by simpa [backR] using a2.1.1, ?_⟩, rfl⟩
      exact okHolds_rev a2.1.2
theorem matS_back (s : Sy) (i : Nat) : matS (backS s i) = matS s ∧ wtsS (backS s i) = wtsS s := by
  unfold backS
  cases hi : s.rs[i]? with
  | none => exact ⟨rfl, rfl⟩
  | some r =>
    refine ⟨?_, rfl⟩
    unfold matS
    simp only
    refine List.map_congr_left fun b _ => ?_
    rw [List.map_set]
    refine List.ext_getElem? fun k => ?_
    have hil := (List.getElem?_eq_some_iff.1 hi).1
    by_cases e : i = k
    · subst e
      rw [List.getElem?_set_self (by simpa using hil), List.getElem?_map, hi, Option.map_some]
      exact congrArg some (pull_perm (List.reverse_perm _))
    · rw [List.getElem?_set_ne e]
theorem tens_back {s : Sy} (hv : validS s = true) (i : Nat) : tensP (backS s i) = tensP s := by
  have h2 := validS_iff.2 ((validS_iff.1 hv).back i)
  obtain ⟨e1, e2⟩ := matS_back s i
  unfold tensP
  rw [if_pos hv, if_pos h2, e1, e2]
end Go.Proofs.Ytifmgjieplmbnaa.T
end

section
namespace Go.Proofs.Ytifmgjieplmbnaa.T
open Go Go.RowKit Lin
set_option linter.unusedSimpArgs false

/-! Sums of weights; one tension more (plain). -/
abbrev zipA (x y : List Int) : List Int := List.zipWith (· + ·) x y
theorem zip_get {x y : List Int} {i : Nat} {b : Int} (h : (zipA x y)[i]? = some b) : ∃ p q, x[i]? = some p ∧ y[i]? = some q ∧ b = p + q := by
  unfold zipA at h
  rw [List.getElem?_zipWith] at h
  cases hx : x[i]? with
  | none => rw [hx] at h; simp at h
  | some p =>
    cases hy : y[i]? with
    | none => rw [hx, hy] at h; simp at h
    | some q =>
      rw [hx, hy] at h
      exact ⟨p, q, rfl, rfl, by simpa using h.symm⟩
theorem sum_two (g X Y : Nat → Int) (a b : Int) (n : Nat) : sumN (fun k => g k * (X k * a + Y k * b)) n = sumN (fun k => g k * X k) n * a + sumN (fun k => g k * Y k) n * b := by
  rw [Int.mul_comm _ a, Int.mul_comm _ b, ← sumN_mul, ← sumN_mul, ← sumN_add]
  exact sumN_congr n fun k _ => by rw [Int.mul_add]; ac_rfl
section
variable {m : List (List Int)} {right other : List Int}
theorem SolQ.add {Z Y : Nat → Int} {D E : Int} (h : SolQ m right Z D) (k : SolQ m other Y E) : SolQ m (zipA right other) (fun j => Z j * E + Y j * D) (D * E) := fun i r b hi hb => by
  obtain ⟨p, q, hp, hq, rfl⟩ := zip_get hb
  rw [sum_two (Lin.at_ r) Z Y E D, h i r p hi hp, k i r q hi hq, Int.mul_add]
  ac_rfl
theorem SolQ.less (hl : other.length = right.length) {Z Y : Nat → Int} {D E : Int} (h : SolQ m right Z D) (k : SolQ m (zipA right other) Y E) : SolQ m other (fun j => Y j * D + Z j * (-E)) (D * E) := fun i r b hi hb => by
  have hil := (List.getElem?_eq_some_iff.1 hb).1
  obtain ⟨p, hp⟩ : ∃ p, right[i]? = some p := ⟨_, List.getElem?_eq_getElem (by omega)⟩
  have hz : (zipA right other)[i]? = some (p + b) := by
    unfold zipA
    rw [List.getElem?_zipWith, hp, hb]
  rw [sum_two (Lin.at_ r) Y Z D (-E), h i r p hi hp, k i r _ hi hz]
  grind
variable (hv : validP m = true) (hr : right.length = m.length) (ho : other.length = m.length) (hw : withinP right 67108864 = true) (hwo : withinP other 67108864 = true) (hws : withinP (zipA right other) 67108864 = true)
include hv hr ho hw hwo hws
theorem adds_err (h1 : (solveP m right).2 = 0) : ((solveP m other).2 = 0 ∧ (solveP m (zipA right other)).2 = 0) ∨ ((solveP m other).2 = 22 ∧ (solveP m (zipA right other)).2 = 22) := by
  have hz : (zipA right other).length = m.length := by simp [zipA]; omega
  obtain ⟨⟨Z, D, hD, hZ⟩, hfull⟩ := (solve_ok hv hr hw).1 h1
  rcases solve_cases hv ho hwo with k | k | k
  · obtain ⟨⟨Y, E, hE, hY⟩, _⟩ := (solve_ok hv ho hwo).1 k
    exact .inl ⟨k, (solve_ok hv hz hws).2 ⟨⟨_, _, Int.mul_ne_zero hD hE, hZ.add hY⟩, hfull⟩⟩
  · exact absurd ((solve_free hv ho hwo).1 k).2 hfull
  · refine .inr ⟨k, (solve_gap hv hz hws).2 ?_⟩
    rintro ⟨Y, E, hE, hY⟩
    exact (solve_gap hv ho hwo).1 k ⟨_, _, Int.mul_ne_zero hD hE, hZ.less (by omega) hY⟩
theorem adds_at (h1 : (solveP m right).2 = 0) (h2 : (solveP m other).2 = 0) (h3 : (solveP m (zipA right other)).2 = 0) (i : Nat) (x y z : Int × Int) (hx : (solveP m right).1[i]? = some x) (hy : (solveP m other).1[i]? = some y) (hz : (solveP m (zipA right other)).1[i]? = some z) : addP x y = (z, 0) ∨ (addP x y).2 = 5 := by
  have hzl : (zipA right other).length = m.length := by simp [zipA]; omega
  obtain ⟨Z, D, hD, hZ, hl, hX⟩ := solve_val hv hr hw h1
  obtain ⟨Y, E, hE, hY, _, hX2⟩ := solve_val hv ho hwo h2
  obtain ⟨W, F, hF, hW, _, hX3⟩ := solve_val hv hzl hws h3
  have a := hX i x hx
  have b := hX2 i y hy
  have c := hX3 i z hz
  have hi : i < wid m := by have := (List.getElem?_eq_some_iff.1 hx).1; omega
  rw [addP_ok a.v b.v]
  rcases addR_err a.v b.v with k | k
  · left
    refine Prod.ext ((a.add b k).eq c ?_) k
    exact sol_uniq hv hzl hws ((solve_ok hv hr hw).1 h1).2 (Int.mul_ne_zero hD hE) hF (hZ.add hY) hW i hi
  · exact .inr k
end
/-! Residuals, one by one. -/
theorem resA_app {l : List (Int × Int)} : ∀ (m : List (List Int)) (ws : List Int) (acc : List (Int × Int)), (resA l m ws acc).2 = (resA l m ws []).2 ∧ ((resA l m ws []).2 = 0 → (resA l m ws acc).1 = acc ++ (resA l m ws []).1)
  | [], ws, acc => by simp [resA]
  | r :: m, [], acc => by simp [resA]
  | r :: m, w :: ws, acc => by
    simp only [resA]
    split
    · split
      · obtain ⟨a1, a2⟩ := resA_app m ws (acc ++ [(subP (w, 1) (dotF r l (0, 1)).1).1])
        obtain ⟨b1, b2⟩ := resA_app m ws ([] ++ [(subP (w, 1) (dotF r l (0, 1)).1).1])
        refine ⟨by rw [a1, b1], fun h => ?_⟩
        rw [b1] at h
        rw [a2 h, b2 h]
        simp
      · rename_i h2
        exact ⟨rfl, fun h => absurd h h2⟩
    · rename_i h1
      exact ⟨rfl, fun h => absurd h h1⟩
theorem resA_at {l : List (Int × Int)} : ∀ (m : List (List Int)) (ws : List Int), (resA l m ws []).2 = 0 → ∀ (i : Nat) (r : List Int) (w : Int), m[i]? = some r → ws[i]? = some w → (dotF r l (0, 1)).2 = 0 ∧ (subP (w, 1) (dotF r l (0, 1)).1).2 = 0 ∧ (resA l m ws []).1[i]? = some (subP (w, 1) (dotF r l (0, 1)).1).1
  | [], ws, _, i, r, w, hr, _ => by simp at hr
  | r :: m, [], _, i, r', w, _, hw => by simp at hw
  | r :: m, w :: ws, h0, i, r', w', hr, hw => by
    simp only [resA] at h0 ⊢
    split at h0
    rotate_left 1
    · rename_i h1; exact absurd h0 h1
    rename_i h1
    rw [if_pos h1]
    split at h0
    rotate_left 1
    · rename_i h2; exact absurd h0 h2
    rename_i h2
    rw [if_pos h2]
    obtain ⟨a1, a2⟩ := resA_app (l := l) m ws ([] ++ [(subP (w, 1) (dotF r l (0, 1)).1).1])
    rw [a1] at h0
    rw [a2 h0]
    cases i with
    | zero =>
      simp only [List.getElem?_cons_zero, Option.some.injEq] at hr hw
      subst hr
      subst hw
      exact ⟨h1, h2, by simp⟩
    | succ i =>
      have ih := resA_at m ws h0 i r' w' (by simpa using hr) (by simpa using hw)
      refine ⟨ih.1, ih.2.1, ?_⟩
      simpa using ih.2.2
theorem resA_full {l : List (Int × Int)} : ∀ (m : List (List Int)) (ws : List Int), m.length = ws.length → (resA l m ws []).2 = 0 → (resA l m ws []).1.length = m.length
  | [], ws, _, _ => by simp [resA]
  | r :: m, [], h, _ => by simp at h
  | r :: m, w :: ws, hl, h0 => by
    simp only [resA] at h0 ⊢
    split at h0
    rotate_left 1
    · rename_i h1; exact absurd h0 h1
    rename_i h1
    rw [if_pos h1]
    split at h0
    rotate_left 1
    · rename_i h2; exact absurd h0 h2
    rename_i h2
    rw [if_pos h2]
    obtain ⟨a1, a2⟩ := resA_app (l := l) m ws ([] ++ [(subP (w, 1) (dotF r l (0, 1)).1).1])
    rw [a1] at h0
    rw [a2 h0, List.length_append, resA_full m ws (by simpa using hl) h0]
    simp
    omega
theorem resP_err {s : Sy} {l : List (Int × Int)} : ((resP s l).2 ≠ 0 → (resP s l).1 = []) ∧ (givE s l = 0 → (resP s l).2 = 0 ∨ (resP s l).2 = 5) := by
  constructor
  · intro h
    unfold resP at h ⊢
    split at h
    · rename_i hg
      rw [if_pos hg]
      have main : ∀ (m : List (List Int)) (ws : List Int) (acc : List (Int × Int)), (resA l m ws acc).2 ≠ 0 → (resA l m ws acc).1 = [] := by
        intro m
        induction m with
        | nil => intro ws acc h; simp [resA] at h
        | cons r m ih =>
          intro ws acc h
          cases ws with
          | nil => simp [resA] at h
          | cons w ws =>
            simp only [resA] at h ⊢
            split at h
            · rename_i h1
              rw [if_pos h1]
              split at h
              · rename_i h2
                rw [if_pos h2]
                exact ih _ _ h
              · rename_i h2
                rw [if_neg h2]
            · rename_i h1
              rw [if_neg h1]
      exact main _ _ _ h
    · rename_i hg
      rw [if_neg hg]
  · intro hg
    have := chk_err hg
    unfold chkP at this
    by_cases h0 : (resP s l).2 = 0
    · exact .inl h0
    · rw [if_neg h0] at this
      exact this
theorem resP_full {s : Sy} {l : List (Int × Int)} (h0 : (resP s l).2 = 0) : givE s l = 0 ∧ (resP s l).1.length = s.bs.length := by
  by_cases hg : givE s l = 0
  · obtain ⟨hv, _⟩ := givE_zero hg
    have ok := validS_ok hv
    unfold resP at h0 ⊢
    rw [if_pos hg] at h0 ⊢
    exact ⟨hg, by rw [resA_full _ _ ok.len.symm h0, ok.mat_len]⟩
  · unfold resP at h0
    rw [if_neg hg] at h0
    exact absurd h0 hg
/-- One more on one rope. -/
theorem point_at {s : Sy} {l : List (Int × Int)} {i : Nat} {f : Int × Int} (hf : l[i]? = some f) (hx : (addP f (1, 1)).2 = 0) (h1 : (resP s l).2 = 0) (h2 : (resP s (l.set i (addP f (1, 1)).1)).2 = 0) (j : Nat) (b : Bk) (r : Rp) (hb : s.bs[j]? = some b) (hr : s.rs[i]? = some r) :
    ∃ p q, (resP s l).1[j]? = some p ∧ (resP s (l.set i (addP f (1, 1)).1)).1[j]? = some q ∧ (subP p q = ((pull b.nm r.hs, 1), 0) ∨ (subP p q).2 = 5) := by
  obtain ⟨g1, _⟩ := resP_full h1
  obtain ⟨g2, _⟩ := resP_full h2
  obtain ⟨hv, ha, hz⟩ := givE_zero g1
  have ok := validS_ok hv
  have hrow := ok.rows
  obtain ⟨Z, D, hD, hZ⟩ := dens l ha
  have hfv := hZ i f hf
  have h11 : Val (1, 1) 1 1 := .one (by omega)
  rw [addP_ok hfv.v h11.v] at *
  have hxv := (hfv.add h11 hx).to (r := Z i + D) hD (by grind)
  generalize (addR f (1, 1)).1 = x at *
  have hil := (List.getElem?_eq_some_iff.1 hf).1
  have hZ2 : ∀ (k : Nat) (g : Int × Int), (l.set i x)[k]? = some g → Val g (if k = i then Z i + D else Z k) D := fun k g hg => by
    by_cases e : k = i
    · subst e
      rw [List.getElem?_set_self hil, Option.some.injEq] at hg
      subst hg
      rw [if_pos rfl]
      exact hxv
    · rw [List.getElem?_set_ne (Ne.symm e)] at hg
      rw [if_neg e]
      exact hZ k g hg
  unfold resP at h1 h2 ⊢
  rw [if_pos g1] at h1 ⊢
  rw [if_pos g2] at h2 ⊢
  have hm : (matS s)[j]? = some (s.rs.map fun r => pull b.nm r.hs) := by simp [matS, hb]
  have hwj : (wtsS s)[j]? = some b.w := by simp [wtsS, hb]
  have hwv : Val (b.w, 1) b.w 1 := ⟨ok.wv _ (List.mem_of_getElem? hwj), by decide, rfl⟩
  obtain ⟨a1, a2, a3⟩ := resA_at _ _ h1 j _ _ hm hwj
  obtain ⟨b1, b2, b3⟩ := resA_at _ _ h2 j _ _ hm hwj
  refine ⟨_, _, a3, b3, ?_⟩
  obtain ⟨r1, r2⟩ := hrow _ (List.mem_of_getElem? hm)
  have hlw : wid (matS s) = l.length := by rw [ok.mat_wid, hz]
  have hp := dot_val hD (by rw [r1, hlw]) r2 hZ
  have hq := dot_val hD (by rw [r1, List.length_set, hlw]) r2 hZ2
  have hpi : Lin.at_ (s.rs.map fun r => pull b.nm r.hs) i = pull b.nm r.hs := by simp [Lin.at_, hr]
  rw [r1] at hp hq
  rw [sumN_upd (Lin.at_ (s.rs.map fun r => pull b.nm r.hs)) Z i (Z i + D) _ (by omega), hpi] at hq
  have hp := (hp.resolve_right (by omega)).2
  have hq := (hq.resolve_right (by omega)).2
  have hP := hwv.sub hp a2
  have hQ := hwv.sub hq b2
  generalize (subP (b.w, 1) (dotF (s.rs.map fun r => pull b.nm r.hs) l (0, 1)).1).1 = P at *
  generalize (subP (b.w, 1) (dotF (s.rs.map fun r => pull b.nm r.hs) (l.set i x) (0, 1)).1).1 = Q at *
  rcases subP_err hP.v hQ.v with k | k
  · exact .inl (Prod.ext ((hP.sub hQ k).int (by grind)) k)
  · exact .inr k
end Go.Proofs.Ytifmgjieplmbnaa.T
end
