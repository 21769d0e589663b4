import Derived.Test.YtpcakodemleoiaaTLHF
import Derived.Test.YtpcakodemleoiaaTSNQ
import Derived.Test.YtpcakodemleoiaaWC
set_option linter.all false
section
namespace Go.Proofs.Ytpcakodemleoiaa.T
open Go Go.RowKit Lin
set_option linter.unusedSimpArgs false

/-! What fractions are worth (plain): x in lowest terms is p over q. -/
structure Val (x : Int × Int) (p q : Int) : Prop where
  v : vfrac x.1 x.2 = true
  n0 : q ≠ 0
  e : x.1 * q = p * x.2
theorem vfrac_ne {x : Int × Int} (h : vfrac x.1 x.2 = true) : x.2 ≠ 0 := by
  have := (fr_bounds h).1
  omega
theorem Val.self {x : Int × Int} (h : vfrac x.1 x.2 = true) : Val x x.1 x.2 := ⟨h, vfrac_ne h, rfl⟩
theorem Val.one {n : Int} (h : -1152921504606846976 ≤ n ∧ n ≤ 1152921504606846976) : Val (n, 1) n 1 := ⟨vfrac_one h, by decide, rfl⟩
theorem Val.d {x : Int × Int} {p q : Int} (h : Val x p q) : x.2 ≠ 0 := vfrac_ne h.v
theorem Val.same {x : Int × Int} {p q r s : Int} (h : Val x p q) (k : Val x r s) : p * s = r * q := by
  refine cancel (c := x.2) h.d ?_
  have h1 := h.e
  have h2 := k.e
  grind
theorem Val.eq {x y : Int × Int} {p q r s : Int} (h : Val x p q) (k : Val y r s) (e : p * s = r * q) : x = y := by
  refine frac_eq h.v k.v (cancel (c := q * s) (Int.mul_ne_zero h.n0 k.n0) ?_)
  have h1 := h.e
  have h2 := k.e
  calc x.1 * y.2 * (q * s) = (x.1 * q) * (y.2 * s) := by ac_rfl
    _ = (p * x.2) * (y.2 * s) := by rw [h1]
    _ = (p * s) * (x.2 * y.2) := by ac_rfl
    _ = (r * q) * (x.2 * y.2) := by rw [e]
    _ = (r * y.2) * (q * x.2) := by ac_rfl
    _ = (y.1 * s) * (q * x.2) := by rw [h2]
    _ = y.1 * x.2 * (q * s) := by ac_rfl
theorem Val.to {x : Int × Int} {p q r s : Int} (h : Val x p q) (hs : s ≠ 0) (e : p * s = r * q) : Val x r s := by
  refine ⟨h.v, hs, cancel (c := q) h.n0 ?_⟩
  have h1 := h.e
  calc x.1 * s * q = (x.1 * q) * s := by ac_rfl
    _ = (p * x.2) * s := by rw [h1]
    _ = (p * s) * x.2 := by ac_rfl
    _ = (r * q) * x.2 := by rw [e]
    _ = r * x.2 * q := by ac_rfl
theorem Val.scale {x : Int × Int} {p q k : Int} (h : Val x p q) (hk : k ≠ 0) : Val x (p * k) (q * k) := h.to (Int.mul_ne_zero h.n0 hk) (by ac_rfl)
theorem Val.add {a b : Int × Int} {p q r s : Int} (h : Val a p q) (k : Val b r s) (ok : (addR a b).2 = 0) : Val (addR a b).1 (p * s + r * q) (q * s) := by
  have hq := add_q h.v k.v ok
  refine ⟨addR_valid h.v k.v ok, Int.mul_ne_zero h.n0 k.n0, cancel (c := a.2 * b.2) (Int.mul_ne_zero h.d k.d) ?_⟩
  generalize (addR a b).1 = c at *
  have h1 := h.e
  have h2 := k.e
  calc c.1 * (q * s) * (a.2 * b.2) = (c.1 * (a.2 * b.2)) * (q * s) := by ac_rfl
    _ = ((a.1 * b.2 + b.1 * a.2) * c.2) * (q * s) := by rw [hq]
    _ = ((a.1 * q) * (b.2 * s) + (b.1 * s) * (a.2 * q)) * c.2 := by grind
    _ = ((p * a.2) * (b.2 * s) + (r * b.2) * (a.2 * q)) * c.2 := by rw [h1, h2]
    _ = (p * s + r * q) * c.2 * (a.2 * b.2) := by grind
theorem Val.neg {a : Int × Int} {p q : Int} (h : Val a p q) : Val (-a.1, a.2) (-p) q := ⟨vfrac_neg h.v, h.n0, by have := h.e; simp only [Int.neg_mul, this]⟩
theorem subP_ok {a b : Int × Int} (ha : vfrac a.1 a.2 = true) (hb : vfrac b.1 b.2 = true) : subP a b = addR a (-b.1, b.2) := by unfold subP; rw [if_pos ⟨ha, hb⟩]
theorem Val.sub {a b : Int × Int} {p q r s : Int} (h : Val a p q) (k : Val b r s) (ok : (subP a b).2 = 0) : Val (subP a b).1 (p * s - r * q) (q * s) := by
  rw [subP_ok h.v k.v] at ok ⊢
  exact (h.add k.neg ok).to (Int.mul_ne_zero h.n0 k.n0) (by rw [Int.neg_mul, Int.sub_eq_add_neg])
theorem Val.mul {a b : Int × Int} {p q r s : Int} (h : Val a p q) (k : Val b r s) (ok : (mulR a b).2 = 0) : Val (mulR a b).1 (p * r) (q * s) := by
  have hq := mul_q h.v k.v ok
  refine ⟨mulR_valid h.v k.v ok, Int.mul_ne_zero h.n0 k.n0, cancel (c := a.2 * b.2) (Int.mul_ne_zero h.d k.d) ?_⟩
  generalize (mulR a b).1 = c at *
  have h1 := h.e
  have h2 := k.e
  calc c.1 * (q * s) * (a.2 * b.2) = (c.1 * (a.2 * b.2)) * (q * s) := by ac_rfl
    _ = (a.1 * b.1 * c.2) * (q * s) := by rw [hq]
    _ = ((a.1 * q) * (b.1 * s)) * c.2 := by ac_rfl
    _ = ((p * a.2) * (r * b.2)) * c.2 := by rw [h1, h2]
    _ = (p * r) * c.2 * (a.2 * b.2) := by ac_rfl
theorem madeP_err {a d : Nat} {b : Bool} (hd : 0 < d) : (madeP a b d).2 = 0 ∨ (madeP a b d).2 = 5 := by
  unfold madeP signP
  rw [if_neg (by omega)]
  split <;> simp
theorem mulR_err {a b : Int × Int} (ha : vfrac a.1 a.2 = true) (hb : vfrac b.1 b.2 = true) : (mulR a b).2 = 0 ∨ (mulR a b).2 = 5 := by
  have h1 := (fr_bounds ha).1
  have h2 := (fr_bounds hb).1
  exact madeP_err (Nat.mul_pos (by omega) (by omega))
theorem addR_err {a b : Int × Int} (ha : vfrac a.1 a.2 = true) (hb : vfrac b.1 b.2 = true) : (addR a b).2 = 0 ∨ (addR a b).2 = 5 := by
  have h1 := (fr_bounds ha).1
  have h2 := (fr_bounds hb).1
  have hp : 0 < a.2.natAbs * b.2.natAbs := Nat.mul_pos (by omega) (by omega)
  unfold addR
  split
  · exact madeP_err hp
  · split <;> exact madeP_err hp
theorem Val.int {x : Int × Int} {p q n : Int} (h : Val x p q) (e : p = n * q) : x = (n, 1) := by
  refine whole h.v h.n0 ?_
  rw [h.e, e]
/-- One denominator for all. -/
theorem dens : ∀ (x : List (Int × Int)), allV x = true → ∃ (X : Nat → Int) (D : Int), D ≠ 0 ∧ ∀ (k : Nat) (f : Int × Int), x[k]? = some f → Val f (X k) D
  | [], _ => ⟨fun _ => 0, 1, by decide, fun k f h => by simp at h⟩
  | f :: x, h => by
    have hxs : allV (f :: x) = (vfrac f.1 f.2 && allV x) := rfl
    rw [hxs, Bool.and_eq_true] at h
    obtain ⟨X, D, hD, hX⟩ := dens x h.2
    have hf := vfrac_ne h.1
    refine ⟨fun k => match k with | 0 => f.1 * D | k + 1 => f.2 * X k, f.2 * D, Int.mul_ne_zero hf hD, fun k g hg => ?_⟩
    cases k with
    | zero =>
      simp only [List.getElem?_cons_zero, Option.some.injEq] at hg
      subst hg
      exact (Val.self h.1).scale hD
    | succ k =>
      simp only [List.getElem?_cons_succ] at hg
      have := (hX k g hg).scale hf
      rw [Int.mul_comm (X k), Int.mul_comm D] at this
      exact this
theorem dot_valsW {D : Int} : ∀ (r : List Int) (x : List (Int × Int)) (X : Nat → Int) (s : Int × Int) (S : Int), r.length = x.length → (∀ n ∈ r, -1152921504606846976 ≤ n ∧ n ≤ 1152921504606846976) → (∀ (k : Nat) (f : Int × Int), x[k]? = some f → Val f (X k) D) → Val s S D →
    ((dotF r x s).2 = 0 ∧ Val (dotF r x s).1 (S + sumN (fun k => Lin.at_ r k * X k) r.length) D) ∨ (dotF r x s).2 = 5
  | [], [], X, s, S, _, _, _, hs => .inl ⟨rfl, by simp only [dotF, List.length_nil, sumN, Int.add_zero]; exact hs⟩
  | [], _ :: _, _, _, _, h, _, _, _ => by simp at h
  | _ :: _, [], _, _, _, h, _, _, _ => by simp at h
  | n :: r, f :: x, X, s, S, hl, hr, hx, hs => by
    have hn : Val (n, 1) n 1 := .one (hr n (by simp))
    have hf := hx 0 f (by simp)
    simp only [dotF]
    rw [mulP_ok (a := (n, 1)) hn.v hf.v]
    rcases mulR_err hn.v hf.v with z1 | z1
    rotate_left 1
    · rw [if_neg (by omega)]
      exact .inr z1
    rw [if_pos z1]
    have ht := hn.mul hf z1
    generalize (mulR (n, 1) f).1 = t at *
    rw [addP_ok hs.v ht.v]
    rcases addR_err hs.v ht.v with z2 | z2
    rotate_left 1
    · rw [if_neg (by omega)]
      exact .inr z2
    rw [if_pos z2]
    have hw := (hs.add ht z2).to (r := S + n * X 0) hs.n0 (by grind)
    generalize (addR s t).1 = w at *
    have ih := dot_valsW r x (fun k => X (k + 1)) w (S + n * X 0) (by simpa using hl) (fun y hy => hr y (List.mem_cons_of_mem _ hy)) (fun k g hg => hx (k + 1) g (by simpa using hg)) hw
    refine ih.imp ?_ id
    rintro ⟨k1, k2⟩
    refine ⟨k1, ?_⟩
    rw [List.length_cons, sumN_head]
    have e0 : Lin.at_ (n :: r) 0 = n := rfl
    have e1 : (fun k => Lin.at_ (n :: r) (k + 1) * X (k + 1)) = fun k => Lin.at_ r k * X (k + 1) := by
      funext k; simp [Lin.at_]
    rw [e0, e1, ← Int.add_assoc]
    exact k2
theorem dot_vals {D : Int} : ∀ (r : List Int) (x : List (Int × Int)) (X : Nat → Int) (s : Int × Int) (S : Int), r.length = x.length → (∀ n ∈ r, -1000 ≤ n ∧ n ≤ 1000) → (∀ (k : Nat) (f : Int × Int), x[k]? = some f → Val f (X k) D) → Val s S D →
    ((dotF r x s).2 = 0 ∧ Val (dotF r x s).1 (S + sumN (fun k => Lin.at_ r k * X k) r.length) D) ∨ (dotF r x s).2 = 5 := fun r x X s S hl hr hx hs => dot_valsW r x X s S hl (fun n hn => by have := hr n hn; omega) hx hs
theorem dot_val {r : List Int} {x : List (Int × Int)} {X : Nat → Int} {D : Int} (hD : D ≠ 0) (hl : r.length = x.length) (hr : ∀ n ∈ r, -1000 ≤ n ∧ n ≤ 1000) (hx : ∀ (k : Nat) (f : Int × Int), x[k]? = some f → Val f (X k) D) :
    ((dotF r x (0, 1)).2 = 0 ∧ Val (dotF r x (0, 1)).1 (sumN (fun k => Lin.at_ r k * X k) r.length) D) ∨ (dotF r x (0, 1)).2 = 5 := by
  have := dot_vals r x X (0, 1) 0 hl hr hx ⟨vfrac_one (by omega), hD, by simp⟩
  rwa [Int.zero_add] at this
/-- Numbers over D that solve the equations. -/
def SolQ (m : List (List Int)) (right : List Int) (Z : Nat → Int) (D : Int) : Prop := ∀ (i : Nat) (r : List Int) (b : Int), m[i]? = some r → right[i]? = some b → sumN (fun k => Lin.at_ r k * Z k) (wid m) = D * b
section
variable {m : List (List Int)} {right : List Int}
theorem SolQ.phi (hv : validP m = true) (hr : right.length = m.length) {Z : Nat → Int} {D : Int} (h : SolQ m right Z D) : ∀ s ∈ copyP m right, T.phi Z D (wid m) (Lin.at_ s) = 0 := fun s hs => by
  obtain ⟨_, _, h3⟩ := validP_iff.1 hv
  obtain ⟨i, r, b, hi, hb, rfl⟩ := copy_row hr hs
  rw [phi_row (h3 r (List.mem_of_getElem? hi)).1, h i r b hi hb]
  omega
theorem van_of_sol {M : List (List Int)} {n : Nat} {f : Frm} (h : Lin.Inv M (n + 1) n f) {Z : Nat → Int} {D : Int} (hD : D ≠ 0) (hZ : ∀ s ∈ M, T.phi Z D n (Lin.at_ s) = 0) : Van (M.map Lin.at_) (SS M f) (CC f) n := by
  have hSS : ∀ r ∈ SS M f, T.phi Z D n r = 0 := fun r hr => by
    obtain ⟨s, hs, rfl⟩ := SS_mem h r hr
    exact hZ s hs
  intro r hr
  obtain ⟨s, hs, rfl⟩ := List.mem_map.1 hr
  have hsp : Span (Lin.at_ s :: SS M f) fun j => E (SS M f) (CC f) (Lin.at_ s) j := w_span (Lin.at_ s :: SS M f) (CC f)
  have h0 := phi_span hsp fun x hx => by
    rcases List.mem_cons.1 hx with rfl | hx
    · exact hZ s hs
    · exact hSS x hx
  unfold T.phi at h0
  simp only at h0
  rw [sumN_congr (G := fun _ => 0) n fun j hj => by
    rw [h.van_lt hj (Lin.at_ s) hr, Int.zero_mul], sumN_zero] at h0
  have : D * E (SS M f) (CC f) (Lin.at_ s) n = 0 := by omega
  rcases Int.mul_eq_zero.1 this with e | e
  · exact absurd e hD
  · exact e
/-- A solution, where no row is left over: the free ones 0. -/
def solZ (f : Frm) (n : Nat) (j : Nat) : Int := sumN (fun k => if (f.pivots[k]?).getD 0 = j then Lin.at_ (Lin.row f.rows k) n else 0) f.pivots.length
theorem sumN_swap (F : Nat → Nat → Int) (n : Nat) : ∀ k, sumN (fun j => sumN (fun i => F i j) k) n = sumN (fun i => sumN (fun j => F i j) n) k
  | 0 => by simp only [sumN]; exact sumN_zero n
  | k + 1 => by simp only [sumN]; rw [sumN_add, sumN_swap F n k]
theorem sumN_pick (g : Nat → Int) (c : Nat) (d : Int) (n : Nat) (h : c < n) : sumN (fun j => g j * (if c = j then d else 0)) n = g c * d := by
  rw [← sumN_one g c d n h]
  exact sumN_congr n fun j _ => by
    by_cases e : j = c
    · subst e; simp
    · rw [if_neg e, if_neg (Ne.symm e)]
theorem sol_exists {M : List (List Int)} {n : Nat} {f : Frm} (h : Lin.Inv M (n + 1) n f) (hv : Van (M.map Lin.at_) (SS M f) (CC f) n) : ∀ s ∈ M, T.phi (solZ f n) f.den n (Lin.at_ s) = 0 := fun s hs => by
  have hsum := van_sum h (Nat.lt_succ_self n) hv hs
  unfold T.phi
  have e : sumN (fun k => Lin.at_ s k * solZ f n k) n = sumN (fun k => Lin.at_ s ((f.pivots[k]?).getD 0) * Lin.at_ (Lin.row f.rows k) n) f.pivots.length := by
    have e1 : ∀ j, j < n → Lin.at_ s j * solZ f n j = sumN (fun k => Lin.at_ s j * (if (f.pivots[k]?).getD 0 = j then Lin.at_ (Lin.row f.rows k) n else 0)) f.pivots.length := fun j _ => by
      unfold solZ
      rw [sumN_mul]
    rw [sumN_congr n e1, sumN_swap]
    refine sumN_congr _ fun k hk => ?_
    have hp : f.pivots[k]? = some f.pivots[k] := List.getElem?_eq_getElem hk
    rw [hp, Option.getD_some]
    exact sumN_pick (Lin.at_ s) _ _ n (h.lt _ (List.getElem_mem hk))
  rw [e, ← hsum, Int.mul_comm]
  omega
theorem SolQ.of_phi (hv : validP m = true) {Z : Nat → Int} {D : Int} (h : ∀ s ∈ copyP m right, T.phi Z D (wid m) (Lin.at_ s) = 0) : SolQ m right Z D := fun i r b hi hb => by
  obtain ⟨_, _, h3⟩ := validP_iff.1 hv
  have := h _ (copy_mem hi hb)
  rw [phi_row (h3 r (List.mem_of_getElem? hi)).1] at this
  omega
variable (hv : validP m = true) (hr : right.length = m.length) (hw : withinP right 67108864 = true)
include hv hr hw
theorem van_left : (((solM m right).rows.drop (solM m right).pivots.length).any fun r => Lin.at_ r (wid m) != 0) = false ↔ ∃ Z D, D ≠ 0 ∧ SolQ m right Z D := by
  have iv := sol_inv hv hr hw
  rw [any_drop, iv.nr, ← iv.van (by omega)]
  constructor
  · intro h
    exact ⟨_, _, iv.den0, .of_phi hv (sol_exists iv h)⟩
  · rintro ⟨Z, D, hD, hZ⟩
    exact van_of_sol iv hD (hZ.phi hv hr)
/-- What Solve answers. -/
theorem solve_gap : (solveP m right).2 = 22 ↔ ¬ ∃ Z D, D ≠ 0 ∧ SolQ m right Z D := by
  rw [solveP_in hv hr hw, ← van_left hv hr hw]
  unfold solF
  split
  · rename_i h; simp [h]
  · rename_i h
    split <;> simp [h]
theorem solve_free : (solveP m right).2 = 21 ↔ (∃ Z D, D ≠ 0 ∧ SolQ m right Z D) ∧ rankP m (wid m) < wid m := by
  have hb : (solM m right).pivots.length = rankP m (wid m) := both_rank hv hr hw
  rw [solveP_in hv hr hw, ← van_left hv hr hw, ← hb]
  unfold solF
  split
  · rename_i h; simp [h]
  · rename_i h
    split
    · rename_i h2; simp [h]; omega
    · rename_i h2; simp [h]; omega
theorem solve_ok : (solveP m right).2 = 0 ↔ (∃ Z D, D ≠ 0 ∧ SolQ m right Z D) ∧ ¬ rankP m (wid m) < wid m := by
  have hb : (solM m right).pivots.length = rankP m (wid m) := both_rank hv hr hw
  rw [solveP_in hv hr hw, ← van_left hv hr hw, ← hb]
  unfold solF
  split
  · rename_i h; simp [h]
  · rename_i h
    split
    · rename_i h2; simp [h]; omega
    · rename_i h2; simp [h]; omega
theorem solve_cases : (solveP m right).2 = 0 ∨ (solveP m right).2 = 21 ∨ (solveP m right).2 = 22 := by
  rw [solveP_in hv hr hw]
  unfold solF
  split
  · simp
  · split <;> simp
theorem solve_nil (h : (solveP m right).2 ≠ 0) : (solveP m right).1 = [] := by
  rw [solveP_in hv hr hw] at h ⊢
  unfold solF at h ⊢
  split
  · rfl
  · rename_i h1
    rw [if_neg h1] at h
    split
    · rfl
    · rename_i h2
      rw [if_neg h2] at h
      exact absurd rfl h
theorem rank_le : rankP m (wid m) ≤ wid m := by
  have iv := sol_inv hv hr hw
  rw [← both_rank hv hr hw]
  have nd : (solM m right).pivots.Nodup := iv.nd.imp fun hlt => Nat.ne_of_lt hlt
  have hle := nd.length_le_of_subset (l₂ := List.range (wid m)) fun x hx => List.mem_range.2 (iv.lt x hx)
  simpa using hle
/-- The solution is worth numbers that solve the equations. -/
theorem solve_val (h : (solveP m right).2 = 0) : ∃ Z D, D ≠ 0 ∧ SolQ m right Z D ∧ (solveP m right).1.length = wid m ∧ ∀ (k : Nat) (f : Int × Int), (solveP m right).1[k]? = some f → Val f (Z k) D := by
  have hn := h
  rw [solveP_in hv hr hw] at h
  obtain ⟨s1, s2, s3⟩ := sol_eq hv hr hw h
  have iv := sol_inv hv hr hw
  have hb := both_small hv hr hw
  have in2 := iv.small2 hb (Nat.le_refl _)
  have hd2 := iv.den_small2 hb (Nat.le_refl _)
  refine ⟨solX m right, (solM m right).den, iv.den0, s2, by rw [solveP_in hv hr hw, s3]; simp, fun k f hf => ?_⟩
  rw [solveP_in hv hr hw, s3] at hf
  have hkl : k < wid m := by have := (List.getElem?_eq_some_iff.1 hf).1; simpa using this
  rw [List.getElem?_map, List.getElem?_range hkl] at hf
  simp only [Option.map_some, Option.some.injEq] at hf
  subst hf
  have hq := makeP_q iv.den0 (makeP_ok (in2 k (wid m) (by omega) (by omega)) hd2 iv.den0)
  exact ⟨hq.1, iv.den0, hq.2⟩
/-- There is one solution. -/
theorem sol_uniq (hfull : ¬ rankP m (wid m) < wid m) {Z Z' : Nat → Int} {D D' : Int} (hD : D ≠ 0) (hD' : D' ≠ 0) (hZ : SolQ m right Z D) (hZ' : SolQ m right Z' D') : ∀ k, k < wid m → Z k * D' = Z' k * D := fun k hk => by
  have hf : rankP m (wid m) = wid m := by have := rank_le hv hr hw; omega
  have a1 := (sol_of hv hr hw hf hD hZ).2 k hk
  have a2 := (sol_of hv hr hw hf hD' hZ').2 k hk
  have iv := sol_inv hv hr hw
  refine cancel (c := (solM m right).den) iv.den0 ?_
  calc Z k * D' * (solM m right).den = (Z k * (solM m right).den) * D' := by ac_rfl
    _ = (D * solX m right k) * D' := by rw [a1]
    _ = (D' * solX m right k) * D := by ac_rfl
    _ = (Z' k * (solM m right).den) * D := by rw [a2]
    _ = Z' k * D * (solM m right).den := by ac_rfl
/-- Fractions that solve the equations are the solution. -/
theorem solve_is (h : (solveP m right).2 = 0) {x : List (Int × Int)} (hx : x.length = wid m) {Z : Nat → Int} {D : Int} (hD : D ≠ 0) (hZ : SolQ m right Z D) (hX : ∀ (k : Nat) (f : Int × Int), x[k]? = some f → Val f (Z k) D) : (solveP m right).1 = x := by
  obtain ⟨Z', D', hD', hZ', hl, hX'⟩ := solve_val hv hr hw h
  have hfull := ((solve_ok hv hr hw).1 h).2
  refine List.ext_getElem? fun k => ?_
  by_cases hk : k < wid m
  · have e1 : (solveP m right).1[k]? = some (solveP m right).1[k] := List.getElem?_eq_getElem (by omega)
    have e2 : x[k]? = some x[k] := List.getElem?_eq_getElem (by omega)
    rw [e1, e2]
    exact congrArg some ((hX' k _ e1).eq (hX k _ e2) (sol_uniq hv hr hw hfull hD' hD hZ' hZ k hk))
  · rw [List.getElem?_eq_none (by omega), List.getElem?_eq_none (by omega)]
end
end Go.Proofs.Ytpcakodemleoiaa.T
end

section
namespace Go.Proofs.Ytpcakodemleoiaa.T
open Go Go.RowKit Lin
set_option linter.unusedSimpArgs false

/-! The rank by what vanishes; the order of rows and columns (plain). -/
def Ker (m : List (List Int)) (Z : Nat → Int) : Prop := ∀ r ∈ m, sumN (fun k => Lin.at_ r k * Z k) (wid m) = 0
theorem nX_one {f : Frm} {c : Nat} (hc : f.pivots.contains c = false) : ∀ k, k ≤ f.pivots.length → nX f c k c = f.den
  | 0, _ => by simp [nX]
  | k + 1, hk => by
    simp only [nX]
    rw [if_neg, nX_one hc k (by omega)]
    intro e
    rw [List.getElem?_eq_getElem (show k < f.pivots.length by omega), Option.getD_some] at e
    have : f.pivots.contains c = true := List.contains_iff_mem.2 (by rw [e]; exact List.getElem_mem _)
    rw [hc] at this; cases this
theorem free_col {l : List Nat} {n : Nat} (h : l.length < n) : ∃ c, c < n ∧ l.contains c = false := Classical.byContradiction fun hno => by
  have hs : List.range n ⊆ l := fun c hc => by
    refine Classical.byContradiction fun hne => hno ⟨c, List.mem_range.1 hc, ?_⟩
    rw [← Bool.not_eq_true, List.contains_iff_mem]
    exact hne
  have := (List.nodup_range (n := n)).length_le_of_subset hs
  simp at this
  omega
theorem ker_sol {m : List (List Int)} {Z : Nat → Int} (h : Ker m Z) : SolQ m (List.replicate m.length 0) Z 1 := fun i r b hi hb => by
  have : b = 0 := by
    have := List.mem_of_getElem? hb
    exact List.eq_of_mem_replicate this
  rw [h r (List.mem_of_getElem? hi), this]
  rfl
theorem rank_null {m : List (List Int)} (hv : validP m = true) : rankP m (wid m) < wid m ↔ ∃ Z, Ker m Z ∧ ∃ k, k < wid m ∧ Z k ≠ 0 := by
  have hs := valid_small hv
  have iv := elim_inv (ups_mover m (wid m)) hs.lens (wid m) (Nat.le_refl _)
  rw [← elim_by] at iv
  constructor
  · intro h
    unfold rankP at h
    generalize elim m (wid m) = f at *
    obtain ⟨c, hcn, hc⟩ := free_col h
    refine ⟨nX f c f.pivots.length, fun r hr => ?_, c, hcn, ?_⟩
    · rw [nX_sum iv hcn hc (Lin.at_ r) f.pivots.length (Nat.le_refl _), van_sum iv hcn (iv.van_lt hcn) hr]
      omega
    · rw [nX_one hc _ (Nat.le_refl _)]
      exact iv.den0
  · rintro ⟨Z, hZ, k, hk, hne⟩
    refine Nat.lt_of_not_le fun hge => hne ?_
    have hw0 : withinP (List.replicate m.length (0 : Int)) 67108864 = true := withinP_of fun n hn => by rw [List.eq_of_mem_replicate hn]; omega
    have h0 : Ker m (fun _ => 0) := fun r _ => by
      rw [sumN_congr (G := fun _ => 0) _ fun k _ => Int.mul_zero _]
      exact sumN_zero _
    have := sol_uniq hv (by simp) hw0 (by omega) (by decide) (by decide) (ker_sol hZ) (ker_sol h0) k hk
    simpa using this
theorem sumN_rev (F : Nat → Int) : ∀ n, sumN (fun k => F (n - 1 - k)) n = sumN F n
  | 0 => rfl
  | n + 1 => by
    rw [sumN_head]
    simp only [sumN, Nat.add_sub_cancel, Nat.sub_zero]
    rw [← sumN_rev F n]
    congr 1
    exact sumN_congr n fun k hk => by rw [show n - (k + 1) = n - 1 - k by omega]
def revM (m : List (List Int)) : List (List Int) := (m.map List.reverse).reverse
theorem revM_len (m : List (List Int)) : (revM m).length = m.length := by simp [revM]
theorem revM_mem {m : List (List Int)} {r : List Int} : r ∈ revM m ↔ ∃ q ∈ m, r = q.reverse := by
  unfold revM
  rw [List.mem_reverse, List.mem_map]
  exact ⟨fun ⟨q, h, e⟩ => ⟨q, h, e.symm⟩, fun ⟨q, h, e⟩ => ⟨q, h, e.symm⟩⟩
theorem revM_valid {m : List (List Int)} (hv : validP m = true) : validP (revM m) = true ∧ wid (revM m) = wid m := by
  obtain ⟨h1, h2, h3⟩ := validP_iff.1 hv
  have hw : wid (revM m) = wid m := by
    have hl := revM_len m
    obtain ⟨r, rs, e⟩ : ∃ r rs, revM m = r :: rs := by
      cases hr : revM m with
      | nil => rw [hr] at hl; simp at hl; omega
      | cons a b => exact ⟨a, b, rfl⟩
    have hm : r ∈ revM m := by rw [e]; simp
    obtain ⟨q, hq, rfl⟩ := revM_mem.1 hm
    unfold wid
    rw [e, List.headD_cons, List.length_reverse]
    exact (h3 q hq).1
  refine ⟨validP_iff.2 ⟨by rw [revM_len]; exact h1, by rw [hw]; exact h2, fun r hr => ?_⟩, hw⟩
  obtain ⟨q, hq, rfl⟩ := revM_mem.1 hr
  rw [hw, List.length_reverse]
  exact ⟨(h3 q hq).1, fun x hx => (h3 q hq).2 x (List.mem_reverse.1 hx)⟩
theorem at_rev {q : List Int} {k : Nat} (h : k < q.length) : Lin.at_ q.reverse k = Lin.at_ q (q.length - 1 - k) := by
  unfold Lin.at_
  rw [List.getElem?_reverse h]
theorem sum_rev {m : List (List Int)} (hv : validP m = true) {q : List Int} (hq : q ∈ m) (Z : Nat → Int) : sumN (fun k => Lin.at_ q.reverse k * Z (wid m - 1 - k)) (wid m) = sumN (fun k => Lin.at_ q k * Z k) (wid m) := by
  obtain ⟨_, _, h3⟩ := validP_iff.1 hv
  rw [← sumN_rev (fun k => Lin.at_ q k * Z k)]
  exact sumN_congr _ fun k hk => by rw [at_rev (by rw [(h3 q hq).1]; exact hk), (h3 q hq).1]
theorem rev_get {α : Type} {l : List α} {i : Nat} {x : α} (h : l.reverse[i]? = some x) : l[l.length - 1 - i]? = some x := by
  have hi := (List.getElem?_eq_some_iff.1 h).1
  rw [List.length_reverse] at hi
  rwa [List.getElem?_reverse hi] at h
theorem SolQ.rev {m : List (List Int)} {right : List Int} (hv : validP m = true) (hr : right.length = m.length) {Z : Nat → Int} {D : Int} (h : SolQ m right Z D) : SolQ (revM m) right.reverse (fun k => Z (wid m - 1 - k)) D := fun i r b hi hb => by
  have h1 := rev_get hi
  have h2 := rev_get hb
  rw [List.length_map] at h1
  rw [List.getElem?_map] at h1
  cases hq : m[m.length - 1 - i]? with
  | none => rw [hq] at h1; simp at h1
  | some q =>
    rw [hq] at h1
    simp only [Option.map_some, Option.some.injEq] at h1
    subst h1
    rw [(revM_valid hv).2, sum_rev hv (List.mem_of_getElem? hq)]
    exact h _ q b hq (by rw [← hr]; exact h2)
theorem revM_rev (m : List (List Int)) : revM (revM m) = m := by
  unfold revM
  rw [List.map_reverse, List.reverse_reverse, List.map_map]
  have : (List.reverse ∘ List.reverse : List Int → List Int) = id := by funext l; simp
  rw [this, List.map_id]
theorem Ker.rev {m : List (List Int)} (hv : validP m = true) {Z : Nat → Int} (h : Ker m Z) : Ker (revM m) (fun k => Z (wid m - 1 - k)) := fun r hr => by
  obtain ⟨q, hq, rfl⟩ := revM_mem.1 hr
  rw [(revM_valid hv).2, sum_rev hv hq]
  exact h q hq
theorem sol_rev_iff {m : List (List Int)} {right : List Int} (hv : validP m = true) (hr : right.length = m.length) : (∃ Z D, D ≠ 0 ∧ SolQ (revM m) right.reverse Z D) ↔ ∃ Z D, D ≠ 0 ∧ SolQ m right Z D := by
  constructor
  · rintro ⟨Z, D, hD, h⟩
    have := h.rev (revM_valid hv).1 (by rw [revM_len]; simpa using hr)
    rw [revM_rev, List.reverse_reverse] at this
    exact ⟨_, D, hD, this⟩
  · rintro ⟨Z, D, hD, h⟩
    exact ⟨_, D, hD, h.rev hv hr⟩
theorem rank_rev {m : List (List Int)} (hv : validP m = true) : rankP (revM m) (wid (revM m)) < wid (revM m) ↔ rankP m (wid m) < wid m := by
  obtain ⟨v2, w2⟩ := revM_valid hv
  rw [rank_null v2, rank_null hv]
  have flip : ∀ {m : List (List Int)}, validP m = true → (∃ Z, Ker m Z ∧ ∃ k, k < wid m ∧ Z k ≠ 0) → ∃ Z, Ker (revM m) Z ∧ ∃ k, k < wid (revM m) ∧ Z k ≠ 0 := fun {m} hv ⟨Z, hZ, k, hk, hne⟩ => by
    refine ⟨_, hZ.rev hv, wid m - 1 - k, by rw [(revM_valid hv).2]; omega, ?_⟩
    rwa [show wid m - 1 - (wid m - 1 - k) = k by omega]
  constructor
  · intro h
    have := flip v2 h
    rwa [revM_rev] at this
  · exact flip hv
theorem within_rev {right : List Int} {x : Int} (h : withinP right x = true) : withinP right.reverse x = true := withinP_of fun n hn => withinP_spec h n (List.mem_reverse.1 hn)
/-- The solution with all in the reverse order. -/
theorem solve_rev {m : List (List Int)} {right : List Int} (hv : validP m = true) (hr : right.length = m.length) (hw : withinP right 67108864 = true) : solveP (revM m) right.reverse = ((solveP m right).1.reverse, (solveP m right).2) := by
  obtain ⟨v2, w2⟩ := revM_valid hv
  have r2 : right.reverse.length = (revM m).length := by rw [revM_len]; simpa using hr
  have hw2 := within_rev hw
  have e2 : (solveP (revM m) right.reverse).2 = (solveP m right).2 := by
    rcases solve_cases hv hr hw with k | k | k
    · rw [k, solve_ok v2 r2 hw2, sol_rev_iff hv hr, rank_rev hv]
      exact (solve_ok hv hr hw).1 k
    · rw [k, solve_free v2 r2 hw2, sol_rev_iff hv hr, rank_rev hv]
      exact (solve_free hv hr hw).1 k
    · rw [k, solve_gap v2 r2 hw2, sol_rev_iff hv hr]
      exact (solve_gap hv hr hw).1 k
  refine Prod.ext ?_ e2
  by_cases h0 : (solveP m right).2 = 0
  · obtain ⟨Z, D, hD, hZ, hl, hX⟩ := solve_val hv hr hw h0
    refine solve_is v2 r2 hw2 (by rw [e2]; exact h0) (by simp only [List.length_reverse]; rw [hl, w2]) hD (hZ.rev hv hr) fun k f hf => ?_
    have := hX _ _ (rev_get hf)
    rwa [hl] at this
  · rw [solve_nil v2 r2 hw2 (by rw [e2]; exact h0), solve_nil hv hr hw h0]
    rfl
end Go.Proofs.Ytpcakodemleoiaa.T
end

section
namespace Go.Proofs.Ytpcakodemleoiaa.T
open Go Go.RowKit Lin
theorem plainL_frC (l : List (Int × Int)) : plainL (frC l) = true := by
  induction l with
  | nil => rfl
  | cons x r ih => simp only [frC, List.flatMap_cons, List.cons_append, List.nil_append, plainL, plainD, Bool.true_and] at ih ⊢; exact ih
end Go.Proofs.Ytpcakodemleoiaa.T
end

section
namespace Go.Proofs.Ytpcakodemleoiaa.T
open Go Go.RowKit Lin
theorem OkS.rows {s : Sy} (ok : OkS s) : ∀ r ∈ matS s, r.length = wid (matS s) ∧ ∀ x ∈ r, -1000 ≤ x ∧ x ≤ 1000 := fun r hr => by
  obtain ⟨_, _, h3⟩ := validP_iff.1 ok.mat_valid
  refine ⟨(h3 r hr).1, fun x hx => ?_⟩
  have := (h3 r hr).2 x hx
  omega
theorem OkS.wv {s : Sy} (ok : OkS s) : ∀ w ∈ wtsS s, vfrac w 1 = true := fun w hw => vfrac_one (by have := withinP_spec ok.wts_in w hw; omega)
theorem OkS.len {s : Sy} (ok : OkS s) : (wtsS s).length = (matS s).length := by rw [ok.wts_len, ok.mat_len]
abbrev zipA (x y : List Int) : List Int := List.zipWith (· + ·) x y
theorem zip_get {x y : List Int} {i : Nat} {b : Int} (h : (zipA x y)[i]? = some b) : ∃ p q, x[i]? = some p ∧ y[i]? = some q ∧ b = p + q := by
  unfold zipA at h
  rw [List.getElem?_zipWith] at h
  cases hx : x[i]? with
  | none => rw [hx] at h; simp at h
  | some p =>
    cases hy : y[i]? with
    | none => rw [hx, hy] at h; simp at h
    | some q =>
      rw [hx, hy] at h
      exact ⟨p, q, rfl, rfl, by simpa using h.symm⟩
theorem sum_two (g X Y : Nat → Int) (a b : Int) (n : Nat) : sumN (fun k => g k * (X k * a + Y k * b)) n = sumN (fun k => g k * X k) n * a + sumN (fun k => g k * Y k) n * b := by
  rw [Int.mul_comm _ a, Int.mul_comm _ b, ← sumN_mul, ← sumN_mul, ← sumN_add]
  exact sumN_congr n fun k _ => by rw [Int.mul_add]; ac_rfl
end Go.Proofs.Ytpcakodemleoiaa.T
end

