import Derived.Test.YtpcakodemleoiaaRLHF
import Derived.Test.YtpcakodemleoiaaRSNQ
import Derived.Test.YtpcakodemleoiaaWC
set_option linter.all false
section
namespace Go.Proofs.Ytpcakodemleoiaa.T
open Go Go.RowKit Lin
set_option linter.unusedSimpArgs false

/-! What fractions are worth (plain): x in lowest terms is p over q. -/
structure Val (x : Int × Int) (p q : Int) : Prop where
  v : vfrac x.1 x.2 = true
  n0 : q ≠ 0
  e : x.1 * q = p * x.2
theorem vfrac_ne {x : Int × Int} (h : vfrac x.1 x.2 = true) : x.2 ≠ 0 := by
  have := (fr_bounds h).1
  omega
theorem Val.self {x : Int × Int} (h : vfrac x.1 x.2 = true) : Val x x.1 x.2 := ⟨h, vfrac_ne h, rfl⟩
theorem Val.one {n : Int} (h : -1152921504606846976 ≤ n ∧ n ≤ 1152921504606846976) : Val (n, 1) n 1 := ⟨vfrac_one h, by decide, rfl⟩
theorem Val.d {x : Int × Int} {p q : Int} (h : Val x p q) : x.2 ≠ 0 := vfrac_ne h.v
theorem Val.same {x : Int × Int} {p q r s : Int} (h : Val x p q) (k : Val x r s) : p * s = r * q := by
  refine cancel (c := x.2) h.d ?_
  have h1 := h.e
  have h2 := k.e
  grind
theorem Val.eq {x y : Int × Int} {p q r s : Int} (h : Val x p q) (k : Val y r s) (e : p * s = r * q) : x = y := by
  refine frac_eq h.v k.v (cancel (c := q * s) (Int.mul_ne_zero h.n0 k.n0) ?_)
  have h1 := h.e
  have h2 := k.e
  calc x.1 * y.2 * (q * s) = (x.1 * q) * (y.2 * s) := by ac_rfl
    _ = (p * x.2) * (y.2 * s) := by rw [h1]
    _ = (p * s) * (x.2 * y.2) := by ac_rfl
    _ = (r * q) * (x.2 * y.2) := by rw [e]
    _ = (r * y.2) * (q * x.2) := by ac_rfl
    _ = (y.1 * s) * (q * x.2) := by rw [h2]
    _ = y.1 * x.2 * (q * s) := by ac_rfl
theorem Val.to {x : Int × Int} {p q r s : Int} (h : Val x p q) (hs : s ≠ 0) (e : p * s = r * q) : Val x r s := by
  refine ⟨h.v, hs, cancel (c := q) h.n0 ?_⟩
  have h1 := h.e
  calc x.1 * s * q = (x.1 * q) * s := by ac_rfl
    _ = (p * x.2) * s := by rw [h1]
    _ = (p * s) * x.2 := by ac_rfl
    _ = (r * q) * x.2 := by rw [e]
    _ = r * x.2 * q := by ac_rfl
theorem Val.add {a b : Int × Int} {p q r s : Int} (h : Val a p q) (k : Val b r s) (ok : (addR a b).2 = 0) : Val (addR a b).1 (p * s + r * q) (q * s) := by
  have hq := add_q h.v k.v ok
  refine ⟨addR_valid h.v k.v ok, Int.mul_ne_zero h.n0 k.n0, cancel (c := a.2 * b.2) (Int.mul_ne_zero h.d k.d) ?_⟩
  generalize (addR a b).1 = c at *
  have h1 := h.e
  have h2 := k.e
  calc c.1 * (q * s) * (a.2 * b.2) = (c.1 * (a.2 * b.2)) * (q * s) := by ac_rfl
    _ = ((a.1 * b.2 + b.1 * a.2) * c.2) * (q * s) := by rw [hq]
    _ = ((a.1 * q) * (b.2 * s) + (b.1 * s) * (a.2 * q)) * c.2 := by grind
    _ = ((p * a.2) * (b.2 * s) + (r * b.2) * (a.2 * q)) * c.2 := by rw [h1, h2]
    _ = (p * s + r * q) * c.2 * (a.2 * b.2) := by grind
theorem Val.neg {a : Int × Int} {p q : Int} (h : Val a p q) : Val (-a.1, a.2) (-p) q := ⟨vfrac_neg h.v, h.n0, by have := h.e; simp only [Int.neg_mul, this]⟩
theorem subP_ok {a b : Int × Int} (ha : vfrac a.1 a.2 = true) (hb : vfrac b.1 b.2 = true) : subP a b = addR a (-b.1, b.2) := by unfold subP; rw [if_pos ⟨ha, hb⟩]
theorem Val.sub {a b : Int × Int} {p q r s : Int} (h : Val a p q) (k : Val b r s) (ok : (subP a b).2 = 0) : Val (subP a b).1 (p * s - r * q) (q * s) := by
  rw [subP_ok h.v k.v] at ok ⊢
  exact (h.add k.neg ok).to (Int.mul_ne_zero h.n0 k.n0) (by rw [Int.neg_mul, Int.sub_eq_add_neg])
theorem Val.mul {a b : Int × Int} {p q r s : Int} (h : Val a p q) (k : Val b r s) (ok : (mulR a b).2 = 0) : Val (mulR a b).1 (p * r) (q * s) := by
  have hq := mul_q h.v k.v ok
  refine ⟨mulR_valid h.v k.v ok, Int.mul_ne_zero h.n0 k.n0, cancel (c := a.2 * b.2) (Int.mul_ne_zero h.d k.d) ?_⟩
  generalize (mulR a b).1 = c at *
  have h1 := h.e
  have h2 := k.e
  calc c.1 * (q * s) * (a.2 * b.2) = (c.1 * (a.2 * b.2)) * (q * s) := by ac_rfl
    _ = (a.1 * b.1 * c.2) * (q * s) := by rw [hq]
    _ = ((a.1 * q) * (b.1 * s)) * c.2 := by ac_rfl
    _ = ((p * a.2) * (r * b.2)) * c.2 := by rw [h1, h2]
    _ = (p * r) * c.2 * (a.2 * b.2) := by ac_rfl
theorem madeP_err {a d : Nat} {b : Bool} (hd : 0 < d) : (madeP a b d).2 = 0 ∨ (madeP a b d).2 = 5 := by
  unfold madeP signP
  rw [if_neg (by omega)]
  split <;> simp
theorem mulR_err {a b : Int × Int} (ha : vfrac a.1 a.2 = true) (hb : vfrac b.1 b.2 = true) : (mulR a b).2 = 0 ∨ (mulR a b).2 = 5 := by
  have h1 := (fr_bounds ha).1
  have h2 := (fr_bounds hb).1
  exact madeP_err (Nat.mul_pos (by omega) (by omega))
theorem addR_err {a b : Int × Int} (ha : vfrac a.1 a.2 = true) (hb : vfrac b.1 b.2 = true) : (addR a b).2 = 0 ∨ (addR a b).2 = 5 := by
  have h1 := (fr_bounds ha).1
  have h2 := (fr_bounds hb).1
  have hp : 0 < a.2.natAbs * b.2.natAbs := Nat.mul_pos (by omega) (by omega)
  unfold addR
  split
  · exact madeP_err hp
  · split <;> exact madeP_err hp
theorem Val.int {x : Int × Int} {p q n : Int} (h : Val x p q) (e : p = n * q) : x = (n, 1) := by
  refine whole h.v h.n0 ?_
  rw [h.e, e]
/-- Numbers over D that solve the equations. -/
def SolQ (m : List (List Int)) (right : List Int) (Z : Nat → Int) (D : Int) : Prop := ∀ (i : Nat) (r : List Int) (b : Int), m[i]? = some r → right[i]? = some b → sumN (fun k => Lin.at_ r k * Z k) (wid m) = D * b
section
variable {m : List (List Int)} {right : List Int}
theorem SolQ.phi (hv : validP m = true) (hr : right.length = m.length) {Z : Nat → Int} {D : Int} (h : SolQ m right Z D) : ∀ s ∈ copyP m right, T.phi Z D (wid m) (Lin.at_ s) = 0 := fun s hs => by
  obtain ⟨_, _, h3⟩ := validP_iff.1 hv
  obtain ⟨i, r, b, hi, hb, rfl⟩ := copy_row hr hs
  rw [phi_row (h3 r (List.mem_of_getElem? hi)).1, h i r b hi hb]
  omega
variable (hv : validP m = true) (hr : right.length = m.length) (hw : withinP right 67108864 = true)
include hv hr hw
/-- The solution is worth numbers that solve the equations. -/
theorem solve_val (h : (solveP m right).2 = 0) : ∃ Z D, D ≠ 0 ∧ SolQ m right Z D ∧ (solveP m right).1.length = wid m ∧ ∀ (k : Nat) (f : Int × Int), (solveP m right).1[k]? = some f → Val f (Z k) D := by
  have hn := h
  rw [solveP_in hv hr hw] at h
  obtain ⟨s1, s2, s3⟩ := sol_eq hv hr hw h
  have iv := sol_inv hv hr hw
  have hb := both_small hv hr hw
  have in2 := iv.small2 hb (Nat.le_refl _)
  have hd2 := iv.den_small2 hb (Nat.le_refl _)
  refine ⟨solX m right, (solM m right).den, iv.den0, s2, by rw [solveP_in hv hr hw, s3]; simp, fun k f hf => ?_⟩
  rw [solveP_in hv hr hw, s3] at hf
  have hkl : k < wid m := by have := (List.getElem?_eq_some_iff.1 hf).1; simpa using this
  rw [List.getElem?_map, List.getElem?_range hkl] at hf
  simp only [Option.map_some, Option.some.injEq] at hf
  subst hf
  have hq := makeP_q iv.den0 (makeP_ok (in2 k (wid m) (by omega) (by omega)) hd2 iv.den0)
  exact ⟨hq.1, iv.den0, hq.2⟩
end
end Go.Proofs.Ytpcakodemleoiaa.T
end

section
namespace Go.Proofs.Ytpcakodemleoiaa.T
open Go Go.RowKit Lin
set_option linter.unusedSimpArgs false

/-! The rank by what vanishes; the order of rows and columns (plain). -/
def Ker (m : List (List Int)) (Z : Nat → Int) : Prop := ∀ r ∈ m, sumN (fun k => Lin.at_ r k * Z k) (wid m) = 0
theorem rev_get {α : Type} {l : List α} {i : Nat} {x : α} (h : l.reverse[i]? = some x) : l[l.length - 1 - i]? = some x := by
  have hi := (List.getElem?_eq_some_iff.1 h).1
  rw [List.length_reverse] at hi
  rwa [List.getElem?_reverse hi] at h
end Go.Proofs.Ytpcakodemleoiaa.T
end

section
namespace Go.Proofs.Ytpcakodemleoiaa.T
open Go Go.RowKit Lin
end Go.Proofs.Ytpcakodemleoiaa.T
end

section
namespace Go.Proofs.Ytpcakodemleoiaa.T
open Go Go.RowKit Lin
theorem OkS.rows {s : Sy} (ok : OkS s) : ∀ r ∈ matS s, r.length = wid (matS s) ∧ ∀ x ∈ r, -1000 ≤ x ∧ x ≤ 1000 := fun r hr => by
  obtain ⟨_, _, h3⟩ := validP_iff.1 ok.mat_valid
  refine ⟨(h3 r hr).1, fun x hx => ?_⟩
  have := (h3 r hr).2 x hx
  omega
theorem OkS.len {s : Sy} (ok : OkS s) : (wtsS s).length = (matS s).length := by rw [ok.wts_len, ok.mat_len]
abbrev zipA (x y : List Int) : List Int := List.zipWith (· + ·) x y
theorem zip_get {x y : List Int} {i : Nat} {b : Int} (h : (zipA x y)[i]? = some b) : ∃ p q, x[i]? = some p ∧ y[i]? = some q ∧ b = p + q := by
  unfold zipA at h
  rw [List.getElem?_zipWith] at h
  cases hx : x[i]? with
  | none => rw [hx] at h; simp at h
  | some p =>
    cases hy : y[i]? with
    | none => rw [hx, hy] at h; simp at h
    | some q =>
      rw [hx, hy] at h
      exact ⟨p, q, rfl, rfl, by simpa using h.symm⟩
theorem sum_two (g X Y : Nat → Int) (a b : Int) (n : Nat) : sumN (fun k => g k * (X k * a + Y k * b)) n = sumN (fun k => g k * X k) n * a + sumN (fun k => g k * Y k) n * b := by
  rw [Int.mul_comm _ a, Int.mul_comm _ b, ← sumN_mul, ← sumN_mul, ← sumN_add]
  exact sumN_congr n fun k _ => by rw [Int.mul_add]; ac_rfl
end Go.Proofs.Ytpcakodemleoiaa.T
end

