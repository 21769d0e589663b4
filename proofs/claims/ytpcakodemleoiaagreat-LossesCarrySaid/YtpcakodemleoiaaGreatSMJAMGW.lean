import Derived.Test.YtpcakodemleoiaaGreatSWN
import Derived.Test.YtpcakodemleoiaaGreatSWX
import Derived.Test.YtpcakodemleoiaaGreatSLHFSKM
import Derived.Test.YtpcakodemleoiaaGreatSSFJ
import Derived.Test.YtpcakodemleoiaaGreatSSHJ
import Derived.Test.YtpcakodemleoiaaGreatSWPJ
import Derived.Test.YtpcakodemleoiaaGreatSWC
import Derived.Test.YtpcakodemleoiaaGreatSLSJ
import Derived.Test.YtpcakodemleoiaaGreatSWOP
set_option linter.all false
namespace Go.Proofs.YtpcakodemleoiaaGreat.T
open Go Go.RowKit Lin
def trS (s : Sy) : List (List Int) := turnP (matS s) s.rs.length
theorem OkS.tr_len {s : Sy} (_ok : OkS s) : (trS s).length = s.rs.length := turnP_len _ _
theorem OkS.tr_valid {s : Sy} (ok : OkS s) : validP (trS s) = true ∧ wid (trS s) = s.bs.length := by
  obtain ⟨m1, m2, m3⟩ := validP_iff.1 ok.mat_valid
  have ml := ok.mat_len
  have mw := ok.mat_wid
  have b1 := ok.b1
  have b6 := ok.b6
  have r1 := ok.r1
  have r6 := ok.r6
  have hrow : ∀ r ∈ trS s, r.length = s.bs.length ∧ ∀ x ∈ r, -32 ≤ x ∧ x ≤ 32 := fun r hr => by
    obtain ⟨j, hj, rfl⟩ := List.mem_map.1 hr
    refine ⟨by simp [colP, ml], fun x hx => ?_⟩
    obtain ⟨q, hq, rfl⟩ := List.mem_map.1 hx
    exact at_bound (by decide) (m3 q hq).2 j
  have hl := ok.tr_len
  have hw : wid (trS s) = s.bs.length := by
    obtain ⟨r, rs, e⟩ : ∃ r rs, trS s = r :: rs := by
      cases hr : trS s with
      | nil => rw [hr] at hl; simp at hl; omega
      | cons a b => exact ⟨a, b, rfl⟩
    unfold wid
    rw [e, List.headD_cons]
    exact (hrow r (by rw [e]; simp)).1
  exact ⟨validP_iff.2 ⟨by omega, by omega, fun r hr => ⟨by rw [hw]; exact (hrow r hr).1, (hrow r hr).2⟩⟩, hw⟩
theorem tidy_frss (l : List (List (Int × Int))) : tidyL (l.map frs) = true := tidyL_all fun d hd => by
  obtain ⟨x, _, rfl⟩ := List.mem_map.1 hd
  simp only [tidyD, tidy_fr, Bool.not_false, Bool.and_self]
end Go.Proofs.YtpcakodemleoiaaGreat.T

section
section
namespace Go.Proofs.YtpcakodemleoiaaGreat.T
open Go Go.RowKit Lin
theorem vfrac_neg {a b : Int} (h : vfrac a b = true) : vfrac (-a) b = true := by
  unfold vfrac at h ⊢
  simp only [Bool.and_eq_true, decide_eq_true_eq, Int.natAbs_neg] at h ⊢
  omega
def subP (a b : Int × Int) : (Int × Int) × Int := if vfrac a.1 a.2 = true ∧ vfrac b.1 b.2 = true then addR a (-b.1, b.2) else ((0, 0), 1)
theorem rSub (a b : Int × Int) : PRet Tryz.prog 36 [frD a, frD b] (fe (subP a b)) := by
  refine PRet.intro 1 fun t => ACall.enter tab_ok Tryz.func36 rfl rfl Tryz.ntmps36 (by simp) ?_
  simp only [enterTM]
  have h1 := rValid a.1 a.2
  have h2 := rValid b.1 b.2
  cases ha : vfrac a.1 a.2
  · rw [ha] at h1
    have e : subP a b = ((0, 0), 1) := by unfold subP; rw [if_neg (by simp [ha])]
    ((refine gga1 h1 ?_))
    ((repeat refine AW_seq ?_); (refine wta ?_); simp (disch := omega) only [retQ, resD, oneD, rsv, rs, rsL, rsL_eq_map, List.map_map, bb, bt, zDs, zD, eqCells, simprocAttr, Tryz.results36, e])
  rw [ha] at h1
  cases hb : vfrac b.1 b.2
  · rw [hb] at h2
    have e : subP a b = ((0, 0), 1) := by unfold subP; rw [if_neg (by simp [hb])]
    ((refine gga2 h1 h2 ?_))
    ((repeat refine AW_seq ?_); (refine wta ?_); simp (disch := omega) only [retQ, resD, oneD, rsv, rs, rsL, rsL_eq_map, List.map_map, bb, bt, zDs, zD, eqCells, simprocAttr, Tryz.results36, e])
  rw [hb] at h2
  have e : subP a b = addP a (-b.1, b.2) := by unfold subP; rw [if_pos ⟨ha, hb⟩, addP_ok ha (vfrac_neg hb)]
  have hB := fr_bounds hb
  have hA := rAdd a (-b.1, b.2)
  rw [← e] at hA
  ((refine gga3 h1 h2 hA ?_))
  ((repeat refine AW_seq ?_); (refine wta ?_); simp (disch := omega) only [retQ, resD, oneD, rsv, rs, rsL, rsL_eq_map, List.map_map, bb, bt, zDs, zD, eqCells, simprocAttr, Tryz.results36])
theorem subP_valid {a b : Int × Int} (ha : vfrac a.1 a.2 = true) (hb : vfrac b.1 b.2 = true) (h : (subP a b).2 = 0) : vfrac (subP a b).1.1 (subP a b).1.2 = true := by
  unfold subP at h ⊢
  rw [if_pos ⟨ha, hb⟩] at h ⊢
  exact addR_valid ha (vfrac_neg hb) h
theorem allV_at {l : List (Int × Int)} {k : Nat} {f : Int × Int} (h : allV l = true) (hk : l[k]? = some f) : vfrac f.1 f.2 = true := by
  unfold allV at h
  rw [List.all_eq_true] at h
  exact h f (List.mem_of_getElem? hk)
def givE (s : Sy) (l : List (Int × Int)) : Int := if validS s = true ∧ allV l = true then (if l.length = s.rs.length then 0 else 3) else 1
end Go.Proofs.YtpcakodemleoiaaGreat.T
end
section
namespace Go.Proofs.YtpcakodemleoiaaGreat.T
open Go Go.RowKit Lin
end Go.Proofs.YtpcakodemleoiaaGreat.T
end
section
namespace Go.Proofs.YtpcakodemleoiaaGreat.T
open Go Go.RowKit Lin
theorem fz_frS (b g : Nat) (cs : List D) : ∀ l : List (Int × Int), fzL b g cs (frC l) = frC l
  | [] => by simp only [frC, List.flatMap_nil, fzL]
  | x :: l => by have := fz_frS b g cs l; simp only [frC, List.flatMap_cons, List.cons_append, List.nil_append, fzL, fz] at this ⊢; rw [this]
end Go.Proofs.YtpcakodemleoiaaGreat.T
end
section
namespace Go.Proofs.YtpcakodemleoiaaGreat.T
open Go Go.RowKit Lin
end Go.Proofs.YtpcakodemleoiaaGreat.T
end
end
section
section
namespace Go.Proofs.YtpcakodemleoiaaGreat.T
open Go Go.RowKit Lin
end Go.Proofs.YtpcakodemleoiaaGreat.T
end
section
namespace Go.Proofs.YtpcakodemleoiaaGreat.T
open Go Go.RowKit Lin
end Go.Proofs.YtpcakodemleoiaaGreat.T
end
section
namespace Go.Proofs.YtpcakodemleoiaaGreat.T
open Go Go.RowKit Lin
end Go.Proofs.YtpcakodemleoiaaGreat.T
end
section
namespace Go.Proofs.YtpcakodemleoiaaGreat.T
open Go Go.RowKit Lin
end Go.Proofs.YtpcakodemleoiaaGreat.T
end
section
namespace Go.Proofs.YtpcakodemleoiaaGreat.T
open Go Go.RowKit Lin
end Go.Proofs.YtpcakodemleoiaaGreat.T
end
section
namespace Go.Proofs.YtpcakodemleoiaaGreat.T
open Go Go.RowKit Lin
end Go.Proofs.YtpcakodemleoiaaGreat.T
end
end

section
namespace Go.Proofs.YtpcakodemleoiaaGreat.T
open Go Go.RowKit Lin
structure Val (x : Int × Int) (p q : Int) : Prop where
  v : vfrac x.1 x.2 = true
  n0 : q ≠ 0
  e : x.1 * q = p * x.2
theorem vfrac_ne {x : Int × Int} (h : vfrac x.1 x.2 = true) : x.2 ≠ 0 := by
  have := (fr_bounds h).1
  omega
theorem Val.self {x : Int × Int} (h : vfrac x.1 x.2 = true) : Val x x.1 x.2 := ⟨h, vfrac_ne h, rfl⟩
theorem Val.one {n : Int} (h : -1152921504606846976 ≤ n ∧ n ≤ 1152921504606846976) : Val (n, 1) n 1 := ⟨vfrac_one h, by decide, rfl⟩
theorem Val.d {x : Int × Int} {p q : Int} (h : Val x p q) : x.2 ≠ 0 := vfrac_ne h.v
theorem Val.same {x : Int × Int} {p q r s : Int} (h : Val x p q) (k : Val x r s) : p * s = r * q := by
  refine cancel (c := x.2) h.d ?_
  have h1 := h.e
  have h2 := k.e
  grind
theorem Val.eq {x y : Int × Int} {p q r s : Int} (h : Val x p q) (k : Val y r s) (e : p * s = r * q) : x = y := by
  refine frac_eq h.v k.v (cancel (c := q * s) (Int.mul_ne_zero h.n0 k.n0) ?_)
  have h1 := h.e
  have h2 := k.e
  calc x.1 * y.2 * (q * s) = (x.1 * q) * (y.2 * s) := by ac_rfl
    _ = (p * x.2) * (y.2 * s) := by rw [h1]
    _ = (p * s) * (x.2 * y.2) := by ac_rfl
    _ = (r * q) * (x.2 * y.2) := by rw [e]
    _ = (r * y.2) * (q * x.2) := by ac_rfl
    _ = (y.1 * s) * (q * x.2) := by rw [h2]
    _ = y.1 * x.2 * (q * s) := by ac_rfl
theorem Val.to {x : Int × Int} {p q r s : Int} (h : Val x p q) (hs : s ≠ 0) (e : p * s = r * q) : Val x r s := by
  refine ⟨h.v, hs, cancel (c := q) h.n0 ?_⟩
  have h1 := h.e
  calc x.1 * s * q = (x.1 * q) * s := by ac_rfl
    _ = (p * x.2) * s := by rw [h1]
    _ = (p * s) * x.2 := by ac_rfl
    _ = (r * q) * x.2 := by rw [e]
    _ = r * x.2 * q := by ac_rfl
theorem Val.scale {x : Int × Int} {p q k : Int} (h : Val x p q) (hk : k ≠ 0) : Val x (p * k) (q * k) := h.to (Int.mul_ne_zero h.n0 hk) (by ac_rfl)
theorem Val.add {a b : Int × Int} {p q r s : Int} (h : Val a p q) (k : Val b r s) (ok : (addR a b).2 = 0) : Val (addR a b).1 (p * s + r * q) (q * s) := by
  have hq := add_q h.v k.v ok
  refine ⟨addR_valid h.v k.v ok, Int.mul_ne_zero h.n0 k.n0, cancel (c := a.2 * b.2) (Int.mul_ne_zero h.d k.d) ?_⟩
  generalize (addR a b).1 = c at *
  have h1 := h.e
  have h2 := k.e
  calc c.1 * (q * s) * (a.2 * b.2) = (c.1 * (a.2 * b.2)) * (q * s) := by ac_rfl
    _ = ((a.1 * b.2 + b.1 * a.2) * c.2) * (q * s) := by rw [hq]
    _ = ((a.1 * q) * (b.2 * s) + (b.1 * s) * (a.2 * q)) * c.2 := by grind
    _ = ((p * a.2) * (b.2 * s) + (r * b.2) * (a.2 * q)) * c.2 := by rw [h1, h2]
    _ = (p * s + r * q) * c.2 * (a.2 * b.2) := by grind
theorem Val.neg {a : Int × Int} {p q : Int} (h : Val a p q) : Val (-a.1, a.2) (-p) q := ⟨vfrac_neg h.v, h.n0, by have := h.e; simp only [Int.neg_mul, this]⟩
theorem subP_ok {a b : Int × Int} (ha : vfrac a.1 a.2 = true) (hb : vfrac b.1 b.2 = true) : subP a b = addR a (-b.1, b.2) := by unfold subP; rw [if_pos ⟨ha, hb⟩]
theorem Val.sub {a b : Int × Int} {p q r s : Int} (h : Val a p q) (k : Val b r s) (ok : (subP a b).2 = 0) : Val (subP a b).1 (p * s - r * q) (q * s) := by
  rw [subP_ok h.v k.v] at ok ⊢
  exact (h.add k.neg ok).to (Int.mul_ne_zero h.n0 k.n0) (by rw [Int.neg_mul, Int.sub_eq_add_neg])
theorem Val.mul {a b : Int × Int} {p q r s : Int} (h : Val a p q) (k : Val b r s) (ok : (mulR a b).2 = 0) : Val (mulR a b).1 (p * r) (q * s) := by
  have hq := mul_q h.v k.v ok
  refine ⟨mulR_valid h.v k.v ok, Int.mul_ne_zero h.n0 k.n0, cancel (c := a.2 * b.2) (Int.mul_ne_zero h.d k.d) ?_⟩
  generalize (mulR a b).1 = c at *
  have h1 := h.e
  have h2 := k.e
  calc c.1 * (q * s) * (a.2 * b.2) = (c.1 * (a.2 * b.2)) * (q * s) := by ac_rfl
    _ = (a.1 * b.1 * c.2) * (q * s) := by rw [hq]
    _ = ((a.1 * q) * (b.1 * s)) * c.2 := by ac_rfl
    _ = ((p * a.2) * (r * b.2)) * c.2 := by rw [h1, h2]
    _ = (p * r) * c.2 * (a.2 * b.2) := by ac_rfl
theorem madeP_err {a d : Nat} {b : Bool} (hd : 0 < d) : (madeP a b d).2 = 0 ∨ (madeP a b d).2 = 5 := by
  unfold madeP signP
  rw [if_neg (by omega)]
  split <;> simp
theorem mulR_err {a b : Int × Int} (ha : vfrac a.1 a.2 = true) (hb : vfrac b.1 b.2 = true) : (mulR a b).2 = 0 ∨ (mulR a b).2 = 5 := by
  have h1 := (fr_bounds ha).1
  have h2 := (fr_bounds hb).1
  exact madeP_err (Nat.mul_pos (by omega) (by omega))
theorem addR_err {a b : Int × Int} (ha : vfrac a.1 a.2 = true) (hb : vfrac b.1 b.2 = true) : (addR a b).2 = 0 ∨ (addR a b).2 = 5 := by
  have h1 := (fr_bounds ha).1
  have h2 := (fr_bounds hb).1
  have hp : 0 < a.2.natAbs * b.2.natAbs := Nat.mul_pos (by omega) (by omega)
  unfold addR
  split
  · exact madeP_err hp
  · split <;> exact madeP_err hp
theorem subP_err {a b : Int × Int} (ha : vfrac a.1 a.2 = true) (hb : vfrac b.1 b.2 = true) : (subP a b).2 = 0 ∨ (subP a b).2 = 5 := by
  rw [subP_ok ha hb]
  exact addR_err ha (vfrac_neg hb)
theorem Val.int {x : Int × Int} {p q n : Int} (h : Val x p q) (e : p = n * q) : x = (n, 1) := by
  refine whole h.v h.n0 ?_
  rw [h.e, e]
theorem dens : ∀ (x : List (Int × Int)), allV x = true → ∃ (X : Nat → Int) (D : Int), D ≠ 0 ∧ ∀ (k : Nat) (f : Int × Int), x[k]? = some f → Val f (X k) D
  | [], _ => ⟨fun _ => 0, 1, by decide, fun k f h => by simp at h⟩
  | f :: x, h => by
    have hxs : allV (f :: x) = (vfrac f.1 f.2 && allV x) := rfl
    rw [hxs, Bool.and_eq_true] at h
    obtain ⟨X, D, hD, hX⟩ := dens x h.2
    have hf := vfrac_ne h.1
    refine ⟨fun k => match k with | 0 => f.1 * D | k + 1 => f.2 * X k, f.2 * D, Int.mul_ne_zero hf hD, fun k g hg => ?_⟩
    cases k with
    | zero =>
      simp only [List.getElem?_cons_zero, Option.some.injEq] at hg
      subst hg
      exact (Val.self h.1).scale hD
    | succ k =>
      simp only [List.getElem?_cons_succ] at hg
      have := (hX k g hg).scale hf
      rw [Int.mul_comm (X k), Int.mul_comm D] at this
      exact this
theorem allV_of {x : List (Int × Int)} {X : Nat → Int} {D : Int} (h : ∀ (k : Nat) (f : Int × Int), x[k]? = some f → Val f (X k) D) : allV x = true := by
  unfold allV
  rw [List.all_eq_true]
  intro f hf
  obtain ⟨k, hk⟩ := List.mem_iff_getElem?.1 hf
  exact (h k f hk).v
def SolQ (m : List (List Int)) (right : List Int) (Z : Nat → Int) (D : Int) : Prop := ∀ (i : Nat) (r : List Int) (b : Int), m[i]? = some r → right[i]? = some b → sumN (fun k => Lin.at_ r k * Z k) (wid m) = D * b
section
variable {m : List (List Int)} {right : List Int}
theorem SolQ.phi (hv : validP m = true) (hr : right.length = m.length) {Z : Nat → Int} {D : Int} (h : SolQ m right Z D) : ∀ s ∈ copyP m right, T.phi Z D (wid m) (Lin.at_ s) = 0 := fun s hs => by
  obtain ⟨_, _, h3⟩ := validP_iff.1 hv
  obtain ⟨i, r, b, hi, hb, rfl⟩ := copy_row hr hs
  rw [phi_row (h3 r (List.mem_of_getElem? hi)).1, h i r b hi hb]
  omega
theorem sumN_swap (F : Nat → Nat → Int) (n : Nat) : ∀ k, sumN (fun j => sumN (fun i => F i j) k) n = sumN (fun i => sumN (fun j => F i j) n) k
  | 0 => by simp only [sumN]; exact sumN_zero n
  | k + 1 => by simp only [sumN]; rw [sumN_add, sumN_swap F n k]
variable (hv : validP m = true) (hr : right.length = m.length) (hw : withinP right 67108864 = true)
include hv hr hw
theorem solve_val (h : (solveP m right).2 = 0) : ∃ Z D, D ≠ 0 ∧ SolQ m right Z D ∧ (solveP m right).1.length = wid m ∧ ∀ (k : Nat) (f : Int × Int), (solveP m right).1[k]? = some f → Val f (Z k) D := by
  have hn := h
  rw [solveP_in hv hr hw] at h
  obtain ⟨s1, s2, s3⟩ := sol_eq hv hr hw h
  have iv := sol_inv hv hr hw
  have hb := both_small hv hr hw
  have in2 := iv.small2 hb (Nat.le_refl _)
  have hd2 := iv.den_small2 hb (Nat.le_refl _)
  refine ⟨solX m right, (solM m right).den, iv.den0, s2, by rw [solveP_in hv hr hw, s3]; simp, fun k f hf => ?_⟩
  rw [solveP_in hv hr hw, s3] at hf
  have hkl : k < wid m := by have := (List.getElem?_eq_some_iff.1 hf).1; simpa using this
  rw [List.getElem?_map, List.getElem?_range hkl] at hf
  simp only [Option.map_some, Option.some.injEq] at hf
  subst hf
  have hq := makeP_q iv.den0 (makeP_ok (in2 k (wid m) (by omega) (by omega)) hd2 iv.den0)
  exact ⟨hq.1, iv.den0, hq.2⟩
end
end Go.Proofs.YtpcakodemleoiaaGreat.T
end
section
namespace Go.Proofs.YtpcakodemleoiaaGreat.T
open Go Go.RowKit Lin
def Ker (m : List (List Int)) (Z : Nat → Int) : Prop := ∀ r ∈ m, sumN (fun k => Lin.at_ r k * Z k) (wid m) = 0
end Go.Proofs.YtpcakodemleoiaaGreat.T
end
section
namespace Go.Proofs.YtpcakodemleoiaaGreat.T
open Go Go.RowKit Lin
end Go.Proofs.YtpcakodemleoiaaGreat.T
end
section
namespace Go.Proofs.YtpcakodemleoiaaGreat.T
open Go Go.RowKit Lin
theorem OkS.rows {s : Sy} (ok : OkS s) : ∀ r ∈ matS s, r.length = wid (matS s) ∧ ∀ x ∈ r, -1000 ≤ x ∧ x ≤ 1000 := fun r hr => by
  obtain ⟨_, _, h3⟩ := validP_iff.1 ok.mat_valid
  refine ⟨(h3 r hr).1, fun x hx => ?_⟩
  have := (h3 r hr).2 x hx
  omega
theorem OkS.len {s : Sy} (ok : OkS s) : (wtsS s).length = (matS s).length := by rw [ok.wts_len, ok.mat_len]
theorem tens_own {s : Sy} (h : (tensP s).2 = 0) : givE s (tensP s).1 = 0 ∧ ∃ Z D, D ≠ 0 ∧ SolQ (matS s) (wtsS s) Z D ∧ ∀ (k : Nat) (f : Int × Int), (tensP s).1[k]? = some f → Val f (Z k) D := by
  obtain ⟨hv, hl⟩ := tensP_len h
  have ok := validS_ok hv
  have e : tensP s = solveP (matS s) (wtsS s) := by unfold tensP; rw [if_pos hv]
  rw [e] at h hl ⊢
  obtain ⟨Z, D, hD, hZ, _, hX⟩ := solve_val ok.mat_valid ok.len ok.wts_in h
  exact ⟨by unfold givE; rw [if_pos ⟨hv, allV_of hX⟩, if_pos hl], Z, D, hD, hZ, hX⟩
abbrev zipA (x y : List Int) : List Int := List.zipWith (· + ·) x y
theorem zip_get {x y : List Int} {i : Nat} {b : Int} (h : (zipA x y)[i]? = some b) : ∃ p q, x[i]? = some p ∧ y[i]? = some q ∧ b = p + q := by
  unfold zipA at h
  rw [List.getElem?_zipWith] at h
  cases hx : x[i]? with
  | none => rw [hx] at h; simp at h
  | some p =>
    cases hy : y[i]? with
    | none => rw [hx, hy] at h; simp at h
    | some q =>
      rw [hx, hy] at h
      exact ⟨p, q, rfl, rfl, by simpa using h.symm⟩
theorem sum_two (g X Y : Nat → Int) (a b : Int) (n : Nat) : sumN (fun k => g k * (X k * a + Y k * b)) n = sumN (fun k => g k * X k) n * a + sumN (fun k => g k * Y k) n * b := by
  rw [Int.mul_comm _ a, Int.mul_comm _ b, ← sumN_mul, ← sumN_mul, ← sumN_add]
  exact sumN_congr n fun k _ => by rw [Int.mul_add]; ac_rfl
end Go.Proofs.YtpcakodemleoiaaGreat.T
end

section
namespace Go.Proofs.YtpcakodemleoiaaGreat.T
open Go Go.RowKit Lin
def recip (b : Int × Int) : Int × Int := if b.1 < 0 then (-b.2, -b.1) else (b.2, b.1)
def divR (a b : Int × Int) : (Int × Int) × Int := madeP (a.1.natAbs * b.2.natAbs) (decide (a.1 < 0) != decide (b.1 < 0)) (a.2.natAbs * b.1.natAbs)
def divP (a b : Int × Int) : (Int × Int) × Int := if vfrac a.1 a.2 = true ∧ vfrac b.1 b.2 = true then divR a b else ((0, 0), 1)
theorem recip_ok {b : Int × Int} (hb : vfrac b.1 b.2 = true) (h0 : b.1 ≠ 0) : vfrac (recip b).1 (recip b).2 = true := by
  obtain ⟨b1, b2, b3, b4, b5⟩ := fr_bounds hb
  have hc : Nat.gcd b.2.natAbs b.1.natAbs = 1 := by rw [Nat.gcd_comm]; exact b5
  unfold recip
  split
  · unfold vfrac
    simp only [Int.natAbs_neg, hc, Bool.and_eq_true, decide_eq_true_eq]
    refine ⟨⟨⟨⟨?_, ?_⟩, ?_⟩, ?_⟩, ?_⟩ <;> first | omega | trivial
  · unfold vfrac
    simp only [hc, Bool.and_eq_true, decide_eq_true_eq]
    refine ⟨⟨⟨⟨?_, ?_⟩, ?_⟩, ?_⟩, ?_⟩ <;> first | omega | trivial
theorem div_recip {a b : Int × Int} (hb : vfrac b.1 b.2 = true) : divR a b = mulR a (recip b) := by
  obtain ⟨b1, _⟩ := fr_bounds hb
  unfold divR mulR recip
  split
  · rename_i h
    simp only [Int.natAbs_neg]
    rw [decide_eq_true h, decide_eq_true (show -b.2 < 0 by omega)]
  · rename_i h
    simp only
    rw [decide_eq_false h, decide_eq_false (show ¬ b.2 < 0 by omega)]
theorem div_zero {a b : Int × Int} (h0 : b.1 = 0) : divR a b = ((0, 0), 16) := by
  unfold divR madeP
  rw [h0]
  simp
theorem Val.div {a b : Int × Int} {p q r s : Int} (h : Val a p q) (k : Val b r s) (h0 : b.1 ≠ 0) (ok : (divR a b).2 = 0) : Val (divR a b).1 (p * s) (q * r) := by
  have hr : r ≠ 0 := fun e => by
    have := k.e
    rw [e, Int.zero_mul] at this
    rcases Int.mul_eq_zero.1 this with h | h
    · exact h0 h
    · exact k.n0 h
  rw [div_recip k.v] at ok ⊢
  refine h.mul (r := s) (s := r) ⟨recip_ok k.v h0, hr, ?_⟩ ok
  have he := k.e
  unfold recip
  split
  · simp only [Int.neg_mul, Int.mul_neg]
    rw [Int.mul_comm b.2, Int.mul_comm s, he]
  · simp only
    rw [Int.mul_comm b.2, Int.mul_comm s, he]
theorem divR_err {a b : Int × Int} (ha : vfrac a.1 a.2 = true) (hb : vfrac b.1 b.2 = true) : (b.1 = 0 ∧ divR a b = ((0, 0), 16)) ∨ (b.1 ≠ 0 ∧ ((divR a b).2 = 0 ∨ (divR a b).2 = 5)) := by
  by_cases h0 : b.1 = 0
  · exact .inl ⟨h0, div_zero h0⟩
  · refine .inr ⟨h0, ?_⟩
    rw [div_recip hb]
    exact mulR_err ha (recip_ok hb h0)
theorem rDiv (a b : Int × Int) : PRet Tryz.prog 67 [frD a, frD b] (fe (divP a b)) := by
  refine PRet.intro 1 fun t => ACall.enter tab_ok Tryz.func67 rfl rfl Tryz.ntmps67 (by simp) ?_
  simp only [enterTM]
  have h1 := rValid a.1 a.2
  have h2 := rValid b.1 b.2
  cases ha : vfrac a.1 a.2
  · rw [ha] at h1
    have e : divP a b = ((0, 0), 1) := by unfold divP; rw [if_neg (by simp [ha])]
    ((refine gga1 h1 ?_))
    ((repeat refine AW_seq ?_))
    refine AW_block ?_
    ((refine gga1 h1 ?_))
    ((repeat refine AW_seq ?_); (refine wta ?_); simp (disch := omega) only [retQ, resD, oneD, rsv, rs, rsL, rsL_eq_map, List.map_map, bb, bt, zDs, zD, eqCells, simprocAttr, Tryz.results67, e])
  rw [ha] at h1
  cases hb : vfrac b.1 b.2
  · rw [hb] at h2
    have e : divP a b = ((0, 0), 1) := by unfold divP; rw [if_neg (by simp [hb])]
    ((refine gga2 h1 h2 ?_))
    ((repeat refine AW_seq ?_))
    refine AW_block ?_
    ((refine gga2 h1 h2 ?_))
    ((repeat refine AW_seq ?_); (refine wta ?_); simp (disch := omega) only [retQ, resD, oneD, rsv, rs, rsL, rsL_eq_map, List.map_map, bb, bt, zDs, zD, eqCells, simprocAttr, Tryz.results67, e])
  rw [hb] at h2
  have e : divP a b = divR a b := by unfold divP; rw [if_pos ⟨ha, hb⟩]
  have hB := fr_bounds hb
  by_cases h0 : b.1 = 0
  · have e0 : (b.1 == 0) = true := by simp [h0]
    rw [div_zero h0] at e
    ((refine gga2 h1 h2 ?_))
    ((repeat refine AW_seq ?_))
    refine AW_block ?_
    ((refine ggb2 e0 h1 h2 ?_))
    ((repeat refine AW_seq ?_); (refine wta ?_); simp (disch := omega) only [retQ, resD, oneD, rsv, rs, rsL, rsL_eq_map, List.map_map, bb, bt, zDs, zD, eqCells, simprocAttr, Tryz.results67, e])
  have e0 : (b.1 == 0) = false := by simpa using h0
  rw [div_recip hb, ← mulP_ok ha (recip_ok hb h0)] at e
  have hM := rMul a (recip b)
  rw [← e] at hM
  unfold recip at hM
  by_cases hn : b.1 < 0
  · rw [if_pos hn] at hM
    ((refine gga2 h1 h2 ?_))
    ((repeat refine AW_seq ?_))
    refine AW_block ?_
    ((refine ggb3 (F := _∧_) ⟨e0, hn⟩ h1 h2 hM ?_))
    ((repeat refine AW_seq ?_); (refine wta ?_); simp (disch := omega) only [retQ, resD, oneD, rsv, rs, rsL, rsL_eq_map, List.map_map, bb, bt, zDs, zD, eqCells, simprocAttr, Tryz.results67])
  · rw [if_neg hn] at hM
    ((refine gga2 h1 h2 ?_))
    ((repeat refine AW_seq ?_))
    refine AW_block ?_
    ((refine ggb3 (F := _∧_) ⟨e0, hn⟩ h1 h2 hM ?_))
    ((repeat refine AW_seq ?_); (refine wta ?_); simp (disch := omega) only [retQ, resD, oneD, rsv, rs, rsL, rsL_eq_map, List.map_map, bb, bt, zDs, zD, eqCells, simprocAttr, Tryz.results67])
end Go.Proofs.YtpcakodemleoiaaGreat.T
end
section
namespace Go.Proofs.YtpcakodemleoiaaGreat.T
open Go Go.RowKit Lin
end Go.Proofs.YtpcakodemleoiaaGreat.T
end
section
namespace Go.Proofs.YtpcakodemleoiaaGreat.T
open Go Go.RowKit Lin
def ranP (x : Rp × Int) : Bool := decide (-67108864 ≤ x.2 ∧ x.2 ≤ 67108864) && (x.2 == 0 || x.1.hl)
def rangedP (rs : List Rp) (h : List Int) : Bool := (rs.zip h).all ranP
def givH (s : Sy) (h : List Int) : Int := if validS s = true then (if h.length = s.rs.length then (if rangedP s.rs h = true then 0 else 2) else 3) else 1
end Go.Proofs.YtpcakodemleoiaaGreat.T
end
section
namespace Go.Proofs.YtpcakodemleoiaaGreat.T
open Go Go.RowKit Lin
end Go.Proofs.YtpcakodemleoiaaGreat.T
end
section
namespace Go.Proofs.YtpcakodemleoiaaGreat.T
open Go Go.RowKit Lin
end Go.Proofs.YtpcakodemleoiaaGreat.T
end
section
namespace Go.Proofs.YtpcakodemleoiaaGreat.T
open Go Go.RowKit Lin
end Go.Proofs.YtpcakodemleoiaaGreat.T
end

section
namespace Go.Proofs.YtpcakodemleoiaaGreat.T
open Go Go.RowKit Lin
end Go.Proofs.YtpcakodemleoiaaGreat.T
end
section
namespace Go.Proofs.YtpcakodemleoiaaGreat.T
open Go Go.RowKit Lin
section
variable {s : Sy} {h : List Int} {v : List (Int × Int)} (hg : givH s h = 0) (ha : allV v = true) (hl : v.length = s.bs.length)
include hg ha hl
end
end Go.Proofs.YtpcakodemleoiaaGreat.T
end

section
namespace Go.Proofs.YtpcakodemleoiaaGreat.T
open Go Go.RowKit Lin
theorem virtual (F : Nat → Nat → Int) {nb nr : Nat} {w h X Y : Nat → Int} {D E : Int} (h1 : ∀ i, i < nb → sumN (fun k => F i k * Y k) nr = E * w i) (h2 : ∀ k, k < nr → sumN (fun i => F i k * X i) nb = D * h k) :
    sumN (fun i => w i * X i) nb * E = sumN (fun k => h k * Y k) nr * D := by
  have a : sumN (fun i => w i * X i) nb * E = sumN (fun i => sumN (fun k => F i k * Y k * X i) nr) nb := by
    rw [Int.mul_comm, ← sumN_mul]
    refine sumN_congr nb fun i hi => ?_
    rw [← Int.mul_assoc, ← h1 i hi, Int.mul_comm, ← sumN_mul]
    exact sumN_congr nr fun k _ => Int.mul_comm _ _
  have b : sumN (fun k => h k * Y k) nr * D = sumN (fun k => sumN (fun i => F i k * Y k * X i) nb) nr := by
    rw [Int.mul_comm, ← sumN_mul]
    refine sumN_congr nr fun k hk => ?_
    rw [← Int.mul_assoc, ← h2 k hk, Int.mul_comm, ← sumN_mul]
    exact sumN_congr nb fun i _ => by ac_rfl
  rw [a, b, sumN_swap (fun i k => F k i * Y i * X k)]
theorem at_wts {s : Sy} {i : Nat} {b : Bk} (h : s.bs[i]? = some b) : Lin.at_ (wtsS s) i = b.w := by simp [Lin.at_, wtsS, h]
theorem OkS.virtual {s : Sy} (ok : OkS s) {h : List Int} (hl : h.length = s.rs.length) {X Y : Nat → Int} {D E : Int} (h1 : SolQ (matS s) (wtsS s) Y E) (h2 : SolQ (trS s) h X D) :
    sumN (fun i => Lin.at_ (wtsS s) i * X i) s.bs.length * E = sumN (fun k => Lin.at_ h k * Y k) s.rs.length * D := by
  have ml := ok.mat_len
  have mw := ok.mat_wid
  have wl := ok.len
  obtain ⟨tv, tw⟩ := ok.tr_valid
  refine T.virtual (fun i k => Lin.at_ (Lin.row (matS s) i) k) (fun i hi => ?_) fun k hk => ?_
  · have hr : (matS s)[i]? = some (Lin.row (matS s) i) := by
      rw [Lin.row_get (by omega)]
      exact List.getElem?_eq_getElem (by omega)
    have hb : (wtsS s)[i]? = some (Lin.at_ (wtsS s) i) := by
      unfold Lin.at_
      rw [List.getElem?_eq_getElem (show i < (wtsS s).length by omega)]
      rfl
    have := h1 i _ _ hr hb
    rwa [mw] at this
  · have hr : (trS s)[k]? = some (colP (matS s) k) := by
      unfold trS turnP
      rw [List.getElem?_map, List.getElem?_range hk]
      rfl
    have hb : h[k]? = some (Lin.at_ h k) := by
      unfold Lin.at_
      rw [List.getElem?_eq_getElem (show k < h.length by omega)]
      rfl
    have := h2 k _ _ hr hb
    rw [tw] at this
    rw [← this]
    exact sumN_congr _ fun i _ => by rw [at_colP]
end Go.Proofs.YtpcakodemleoiaaGreat.T
end

