import Derived.Test.YtpcakodemleoiaaOLHF
import Derived.Test.YtpcakodemleoiaaOSNQ
import Derived.Test.YtpcakodemleoiaaWC
set_option linter.all false
section
namespace Go.Proofs.Ytpcakodemleoiaa.T
open Go Go.RowKit Lin
set_option linter.unusedSimpArgs false

/-! What fractions are worth (plain): x in lowest terms is p over q. -/
structure Val (x : Int × Int) (p q : Int) : Prop where
  v : vfrac x.1 x.2 = true
  n0 : q ≠ 0
  e : x.1 * q = p * x.2
theorem vfrac_ne {x : Int × Int} (h : vfrac x.1 x.2 = true) : x.2 ≠ 0 := by
  have := (fr_bounds h).1
  omega
theorem Val.one {n : Int} (h : -1152921504606846976 ≤ n ∧ n ≤ 1152921504606846976) : Val (n, 1) n 1 := ⟨vfrac_one h, by decide, rfl⟩
theorem Val.d {x : Int × Int} {p q : Int} (h : Val x p q) : x.2 ≠ 0 := vfrac_ne h.v
theorem Val.same {x : Int × Int} {p q r s : Int} (h : Val x p q) (k : Val x r s) : p * s = r * q := by
  refine cancel (c := x.2) h.d ?_
  have h1 := h.e
  have h2 := k.e
  grind
theorem Val.eq {x y : Int × Int} {p q r s : Int} (h : Val x p q) (k : Val y r s) (e : p * s = r * q) : x = y := by
  refine frac_eq h.v k.v (cancel (c := q * s) (Int.mul_ne_zero h.n0 k.n0) ?_)
  have h1 := h.e
  have h2 := k.e
  calc x.1 * y.2 * (q * s) = (x.1 * q) * (y.2 * s) := by ac_rfl
    _ = (p * x.2) * (y.2 * s) := by rw [h1]
    _ = (p * s) * (x.2 * y.2) := by ac_rfl
    _ = (r * q) * (x.2 * y.2) := by rw [e]
    _ = (r * y.2) * (q * x.2) := by ac_rfl
    _ = (y.1 * s) * (q * x.2) := by rw [h2]
    _ = y.1 * x.2 * (q * s) := by ac_rfl
theorem Val.to {x : Int × Int} {p q r s : Int} (h : Val x p q) (hs : s ≠ 0) (e : p * s = r * q) : Val x r s := by
  refine ⟨h.v, hs, cancel (c := q) h.n0 ?_⟩
  have h1 := h.e
  calc x.1 * s * q = (x.1 * q) * s := by ac_rfl
    _ = (p * x.2) * s := by rw [h1]
    _ = (p * s) * x.2 := by ac_rfl
    _ = (r * q) * x.2 := by rw [e]
    _ = r * x.2 * q := by ac_rfl
theorem Val.add {a b : Int × Int} {p q r s : Int} (h : Val a p q) (k : Val b r s) (ok : (addR a b).2 = 0) : Val (addR a b).1 (p * s + r * q) (q * s) := by
  have hq := add_q h.v k.v ok
  refine ⟨addR_valid h.v k.v ok, Int.mul_ne_zero h.n0 k.n0, cancel (c := a.2 * b.2) (Int.mul_ne_zero h.d k.d) ?_⟩
  generalize (addR a b).1 = c at *
  have h1 := h.e
  have h2 := k.e
  calc c.1 * (q * s) * (a.2 * b.2) = (c.1 * (a.2 * b.2)) * (q * s) := by ac_rfl
    _ = ((a.1 * b.2 + b.1 * a.2) * c.2) * (q * s) := by rw [hq]
    _ = ((a.1 * q) * (b.2 * s) + (b.1 * s) * (a.2 * q)) * c.2 := by grind
    _ = ((p * a.2) * (b.2 * s) + (r * b.2) * (a.2 * q)) * c.2 := by rw [h1, h2]
    _ = (p * s + r * q) * c.2 * (a.2 * b.2) := by grind
theorem Val.neg {a : Int × Int} {p q : Int} (h : Val a p q) : Val (-a.1, a.2) (-p) q := ⟨vfrac_neg h.v, h.n0, by have := h.e; simp only [Int.neg_mul, this]⟩
theorem subP_ok {a b : Int × Int} (ha : vfrac a.1 a.2 = true) (hb : vfrac b.1 b.2 = true) : subP a b = addR a (-b.1, b.2) := by unfold subP; rw [if_pos ⟨ha, hb⟩]
theorem Val.sub {a b : Int × Int} {p q r s : Int} (h : Val a p q) (k : Val b r s) (ok : (subP a b).2 = 0) : Val (subP a b).1 (p * s - r * q) (q * s) := by
  rw [subP_ok h.v k.v] at ok ⊢
  exact (h.add k.neg ok).to (Int.mul_ne_zero h.n0 k.n0) (by rw [Int.neg_mul, Int.sub_eq_add_neg])
theorem Val.mul {a b : Int × Int} {p q r s : Int} (h : Val a p q) (k : Val b r s) (ok : (mulR a b).2 = 0) : Val (mulR a b).1 (p * r) (q * s) := by
  have hq := mul_q h.v k.v ok
  refine ⟨mulR_valid h.v k.v ok, Int.mul_ne_zero h.n0 k.n0, cancel (c := a.2 * b.2) (Int.mul_ne_zero h.d k.d) ?_⟩
  generalize (mulR a b).1 = c at *
  have h1 := h.e
  have h2 := k.e
  calc c.1 * (q * s) * (a.2 * b.2) = (c.1 * (a.2 * b.2)) * (q * s) := by ac_rfl
    _ = (a.1 * b.1 * c.2) * (q * s) := by rw [hq]
    _ = ((a.1 * q) * (b.1 * s)) * c.2 := by ac_rfl
    _ = ((p * a.2) * (r * b.2)) * c.2 := by rw [h1, h2]
    _ = (p * r) * c.2 * (a.2 * b.2) := by ac_rfl
theorem Val.int {x : Int × Int} {p q n : Int} (h : Val x p q) (e : p = n * q) : x = (n, 1) := by
  refine whole h.v h.n0 ?_
  rw [h.e, e]
theorem allV_of {x : List (Int × Int)} {X : Nat → Int} {D : Int} (h : ∀ (k : Nat) (f : Int × Int), x[k]? = some f → Val f (X k) D) : allV x = true := by
  unfold allV
  rw [List.all_eq_true]
  intro f hf
  obtain ⟨k, hk⟩ := List.mem_iff_getElem?.1 hf
  exact (h k f hk).v
/-- Numbers over D that solve the equations. -/
def SolQ (m : List (List Int)) (right : List Int) (Z : Nat → Int) (D : Int) : Prop := ∀ (i : Nat) (r : List Int) (b : Int), m[i]? = some r → right[i]? = some b → sumN (fun k => Lin.at_ r k * Z k) (wid m) = D * b
section
variable {m : List (List Int)} {right : List Int}
theorem SolQ.phi (hv : validP m = true) (hr : right.length = m.length) {Z : Nat → Int} {D : Int} (h : SolQ m right Z D) : ∀ s ∈ copyP m right, T.phi Z D (wid m) (Lin.at_ s) = 0 := fun s hs => by
  obtain ⟨_, _, h3⟩ := validP_iff.1 hv
  obtain ⟨i, r, b, hi, hb, rfl⟩ := copy_row hr hs
  rw [phi_row (h3 r (List.mem_of_getElem? hi)).1, h i r b hi hb]
  omega
theorem van_of_sol {M : List (List Int)} {n : Nat} {f : Frm} (h : Lin.Inv M (n + 1) n f) {Z : Nat → Int} {D : Int} (hD : D ≠ 0) (hZ : ∀ s ∈ M, T.phi Z D n (Lin.at_ s) = 0) : Van (M.map Lin.at_) (SS M f) (CC f) n := by
  have hSS : ∀ r ∈ SS M f, T.phi Z D n r = 0 := fun r hr => by
    obtain ⟨s, hs, rfl⟩ := SS_mem h r hr
    exact hZ s hs
  intro r hr
  obtain ⟨s, hs, rfl⟩ := List.mem_map.1 hr
  have hsp : Span (Lin.at_ s :: SS M f) fun j => E (SS M f) (CC f) (Lin.at_ s) j := w_span (Lin.at_ s :: SS M f) (CC f)
  have h0 := phi_span hsp fun x hx => by
    rcases List.mem_cons.1 hx with rfl | hx
    · exact hZ s hs
    · exact hSS x hx
  unfold T.phi at h0
  simp only at h0
  rw [sumN_congr (G := fun _ => 0) n fun j hj => by
    rw [h.van_lt hj (Lin.at_ s) hr, Int.zero_mul], sumN_zero] at h0
  have : D * E (SS M f) (CC f) (Lin.at_ s) n = 0 := by omega
  rcases Int.mul_eq_zero.1 this with e | e
  · exact absurd e hD
  · exact e
/-- A solution, where no row is left over: the free ones 0. -/
def solZ (f : Frm) (n : Nat) (j : Nat) : Int := sumN (fun k => if (f.pivots[k]?).getD 0 = j then Lin.at_ (Lin.row f.rows k) n else 0) f.pivots.length
theorem sumN_swap (F : Nat → Nat → Int) (n : Nat) : ∀ k, sumN (fun j => sumN (fun i => F i j) k) n = sumN (fun i => sumN (fun j => F i j) n) k
  | 0 => by simp only [sumN]; exact sumN_zero n
  | k + 1 => by simp only [sumN]; rw [sumN_add, sumN_swap F n k]
theorem sumN_pick (g : Nat → Int) (c : Nat) (d : Int) (n : Nat) (h : c < n) : sumN (fun j => g j * (if c = j then d else 0)) n = g c * d := by
  rw [← sumN_one g c d n h]
  exact sumN_congr n fun j _ => by
    by_cases e : j = c
    · subst e; simp
    · rw [if_neg e, if_neg (Ne.symm e)]
theorem sol_exists {M : List (List Int)} {n : Nat} {f : Frm} (h : Lin.Inv M (n + 1) n f) (hv : Van (M.map Lin.at_) (SS M f) (CC f) n) : ∀ s ∈ M, T.phi (solZ f n) f.den n (Lin.at_ s) = 0 := fun s hs => by
  have hsum := van_sum h (Nat.lt_succ_self n) hv hs
  unfold T.phi
  have e : sumN (fun k => Lin.at_ s k * solZ f n k) n = sumN (fun k => Lin.at_ s ((f.pivots[k]?).getD 0) * Lin.at_ (Lin.row f.rows k) n) f.pivots.length := by
    have e1 : ∀ j, j < n → Lin.at_ s j * solZ f n j = sumN (fun k => Lin.at_ s j * (if (f.pivots[k]?).getD 0 = j then Lin.at_ (Lin.row f.rows k) n else 0)) f.pivots.length := fun j _ => by
      unfold solZ
      rw [sumN_mul]
    rw [sumN_congr n e1, sumN_swap]
    refine sumN_congr _ fun k hk => ?_
    have hp : f.pivots[k]? = some f.pivots[k] := List.getElem?_eq_getElem hk
    rw [hp, Option.getD_some]
    exact sumN_pick (Lin.at_ s) _ _ n (h.lt _ (List.getElem_mem hk))
  rw [e, ← hsum, Int.mul_comm]
  omega
theorem SolQ.of_phi (hv : validP m = true) {Z : Nat → Int} {D : Int} (h : ∀ s ∈ copyP m right, T.phi Z D (wid m) (Lin.at_ s) = 0) : SolQ m right Z D := fun i r b hi hb => by
  obtain ⟨_, _, h3⟩ := validP_iff.1 hv
  have := h _ (copy_mem hi hb)
  rw [phi_row (h3 r (List.mem_of_getElem? hi)).1] at this
  omega
variable (hv : validP m = true) (hr : right.length = m.length) (hw : withinP right 67108864 = true)
include hv hr hw
theorem van_left : (((solM m right).rows.drop (solM m right).pivots.length).any fun r => Lin.at_ r (wid m) != 0) = false ↔ ∃ Z D, D ≠ 0 ∧ SolQ m right Z D := by
  have iv := sol_inv hv hr hw
  rw [any_drop, iv.nr, ← iv.van (by omega)]
  constructor
  · intro h
    exact ⟨_, _, iv.den0, .of_phi hv (sol_exists iv h)⟩
  · rintro ⟨Z, D, hD, hZ⟩
    exact van_of_sol iv hD (hZ.phi hv hr)
theorem solve_ok : (solveP m right).2 = 0 ↔ (∃ Z D, D ≠ 0 ∧ SolQ m right Z D) ∧ ¬ rankP m (wid m) < wid m := by
  have hb : (solM m right).pivots.length = rankP m (wid m) := both_rank hv hr hw
  rw [solveP_in hv hr hw, ← van_left hv hr hw, ← hb]
  unfold solF
  split
  · rename_i h; simp [h]
  · rename_i h
    split
    · rename_i h2; simp [h]; omega
    · rename_i h2; simp [h]; omega
theorem rank_le : rankP m (wid m) ≤ wid m := by
  have iv := sol_inv hv hr hw
  rw [← both_rank hv hr hw]
  have nd : (solM m right).pivots.Nodup := iv.nd.imp fun hlt => Nat.ne_of_lt hlt
  have hle := nd.length_le_of_subset (l₂ := List.range (wid m)) fun x hx => List.mem_range.2 (iv.lt x hx)
  simpa using hle
/-- The solution is worth numbers that solve the equations. -/
theorem solve_val (h : (solveP m right).2 = 0) : ∃ Z D, D ≠ 0 ∧ SolQ m right Z D ∧ (solveP m right).1.length = wid m ∧ ∀ (k : Nat) (f : Int × Int), (solveP m right).1[k]? = some f → Val f (Z k) D := by
  have hn := h
  rw [solveP_in hv hr hw] at h
  obtain ⟨s1, s2, s3⟩ := sol_eq hv hr hw h
  have iv := sol_inv hv hr hw
  have hb := both_small hv hr hw
  have in2 := iv.small2 hb (Nat.le_refl _)
  have hd2 := iv.den_small2 hb (Nat.le_refl _)
  refine ⟨solX m right, (solM m right).den, iv.den0, s2, by rw [solveP_in hv hr hw, s3]; simp, fun k f hf => ?_⟩
  rw [solveP_in hv hr hw, s3] at hf
  have hkl : k < wid m := by have := (List.getElem?_eq_some_iff.1 hf).1; simpa using this
  rw [List.getElem?_map, List.getElem?_range hkl] at hf
  simp only [Option.map_some, Option.some.injEq] at hf
  subst hf
  have hq := makeP_q iv.den0 (makeP_ok (in2 k (wid m) (by omega) (by omega)) hd2 iv.den0)
  exact ⟨hq.1, iv.den0, hq.2⟩
/-- There is one solution. -/
theorem sol_uniq (hfull : ¬ rankP m (wid m) < wid m) {Z Z' : Nat → Int} {D D' : Int} (hD : D ≠ 0) (hD' : D' ≠ 0) (hZ : SolQ m right Z D) (hZ' : SolQ m right Z' D') : ∀ k, k < wid m → Z k * D' = Z' k * D := fun k hk => by
  have hf : rankP m (wid m) = wid m := by have := rank_le hv hr hw; omega
  have a1 := (sol_of hv hr hw hf hD hZ).2 k hk
  have a2 := (sol_of hv hr hw hf hD' hZ').2 k hk
  have iv := sol_inv hv hr hw
  refine cancel (c := (solM m right).den) iv.den0 ?_
  calc Z k * D' * (solM m right).den = (Z k * (solM m right).den) * D' := by ac_rfl
    _ = (D * solX m right k) * D' := by rw [a1]
    _ = (D' * solX m right k) * D := by ac_rfl
    _ = (Z' k * (solM m right).den) * D := by rw [a2]
    _ = Z' k * D * (solM m right).den := by ac_rfl
end
end Go.Proofs.Ytpcakodemleoiaa.T
end

section
namespace Go.Proofs.Ytpcakodemleoiaa.T
open Go Go.RowKit Lin
set_option linter.unusedSimpArgs false

/-! The rank by what vanishes; the order of rows and columns (plain). -/
theorem rev_get {α : Type} {l : List α} {i : Nat} {x : α} (h : l.reverse[i]? = some x) : l[l.length - 1 - i]? = some x := by
  have hi := (List.getElem?_eq_some_iff.1 h).1
  rw [List.length_reverse] at hi
  rwa [List.getElem?_reverse hi] at h
end Go.Proofs.Ytpcakodemleoiaa.T
end

section
namespace Go.Proofs.Ytpcakodemleoiaa.T
open Go Go.RowKit Lin
end Go.Proofs.Ytpcakodemleoiaa.T
end

section
namespace Go.Proofs.Ytpcakodemleoiaa.T
open Go Go.RowKit Lin
theorem OkS.rows {s : Sy} (ok : OkS s) : ∀ r ∈ matS s, r.length = wid (matS s) ∧ ∀ x ∈ r, -1000 ≤ x ∧ x ≤ 1000 := fun r hr => by
  obtain ⟨_, _, h3⟩ := validP_iff.1 ok.mat_valid
  refine ⟨(h3 r hr).1, fun x hx => ?_⟩
  have := (h3 r hr).2 x hx
  omega
theorem OkS.len {s : Sy} (ok : OkS s) : (wtsS s).length = (matS s).length := by rw [ok.wts_len, ok.mat_len]
/-- The tensions hold. -/
theorem tens_own {s : Sy} (h : (tensP s).2 = 0) : givE s (tensP s).1 = 0 ∧ ∃ Z D, D ≠ 0 ∧ SolQ (matS s) (wtsS s) Z D ∧ ∀ (k : Nat) (f : Int × Int), (tensP s).1[k]? = some f → Val f (Z k) D := by
  obtain ⟨hv, hl⟩ := tensP_len h
  have ok := validS_ok hv
  have e : tensP s = solveP (matS s) (wtsS s) := by unfold tensP; rw [if_pos hv]
  rw [e] at h hl ⊢
  obtain ⟨Z, D, hD, hZ, _, hX⟩ := solve_val ok.mat_valid ok.len ok.wts_in h
  exact ⟨by unfold givE; rw [if_pos ⟨hv, allV_of hX⟩, if_pos hl], Z, D, hD, hZ, hX⟩
abbrev zipA (x y : List Int) : List Int := List.zipWith (· + ·) x y
theorem zip_get {x y : List Int} {i : Nat} {b : Int} (h : (zipA x y)[i]? = some b) : ∃ p q, x[i]? = some p ∧ y[i]? = some q ∧ b = p + q := by
  unfold zipA at h
  rw [List.getElem?_zipWith] at h
  cases hx : x[i]? with
  | none => rw [hx] at h; simp at h
  | some p =>
    cases hy : y[i]? with
    | none => rw [hx, hy] at h; simp at h
    | some q =>
      rw [hx, hy] at h
      exact ⟨p, q, rfl, rfl, by simpa using h.symm⟩
theorem sum_two (g X Y : Nat → Int) (a b : Int) (n : Nat) : sumN (fun k => g k * (X k * a + Y k * b)) n = sumN (fun k => g k * X k) n * a + sumN (fun k => g k * Y k) n * b := by
  rw [Int.mul_comm _ a, Int.mul_comm _ b, ← sumN_mul, ← sumN_mul, ← sumN_add]
  exact sumN_congr n fun k _ => by rw [Int.mul_add]; ac_rfl
end Go.Proofs.Ytpcakodemleoiaa.T
end

