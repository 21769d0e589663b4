import Derived.Test.YtpcakodemleoiaaGreatHSFJ
import Derived.Test.YtpcakodemleoiaaGreatHSHJ
import Derived.Test.YtpcakodemleoiaaGreatHWPJ
import Derived.Test.YtpcakodemleoiaaGreatHSKM
import Derived.Test.YtpcakodemleoiaaGreatHLHF
import Derived.Test.YtpcakodemleoiaaGreatHWC
import Derived.Test.YtpcakodemleoiaaGreatHMJA
import Derived.Test.YtpcakodemleoiaaGreatHWX
import Derived.Test.YtpcakodemleoiaaGreatHLSJ
import Derived.Test.YtpcakodemleoiaaGreatHWOP
set_option linter.all false
section
section
namespace Go.Proofs.YtpcakodemleoiaaGreat.T
open Go Go.RowKit Lin
theorem vfrac_neg {a b : Int} (h : vfrac a b = true) : vfrac (-a) b = true := by
 unfold vfrac at h ⊢
 simp only [Bool.and_eq_true, decide_eq_true_eq, Int.natAbs_neg] at h ⊢
 omega
def subP (a b : Int × Int) : (Int × Int) × Int := if vfrac a.1 a.2 = true ∧ vfrac b.1 b.2 = true then addR a (-b.1, b.2) else ((0, 0), 1)
theorem allV_at {l : List (Int × Int)} {k : Nat} {f : Int × Int} (h : allV l = true) (hk : l[k]? = some f) : vfrac f.1 f.2 = true := by
 unfold allV at h
 rw [List.all_eq_true] at h
 exact h f (List.mem_of_getElem? hk)
end Go.Proofs.YtpcakodemleoiaaGreat.T
end
section
namespace Go.Proofs.YtpcakodemleoiaaGreat.T
open Go Go.RowKit Lin
end Go.Proofs.YtpcakodemleoiaaGreat.T
end
section
namespace Go.Proofs.YtpcakodemleoiaaGreat.T
open Go Go.RowKit Lin
theorem Y2b (b g : Nat) (cs : List D) : ∀ l : List (Int × Int), fzL b g cs (frC l) = frC l
 | [] => by simp only [frC, List.flatMap_nil, fzL]
 | x :: l => by have := Y2b b g cs l; simp only [frC, List.flatMap_cons, List.cons_append, List.nil_append, fzL, fz] at this ⊢; rw [this]
end Go.Proofs.YtpcakodemleoiaaGreat.T
end
section
namespace Go.Proofs.YtpcakodemleoiaaGreat.T
open Go Go.RowKit Lin
end Go.Proofs.YtpcakodemleoiaaGreat.T
end
end
section
section
namespace Go.Proofs.YtpcakodemleoiaaGreat.T
open Go Go.RowKit Lin
end Go.Proofs.YtpcakodemleoiaaGreat.T
end
section
namespace Go.Proofs.YtpcakodemleoiaaGreat.T
open Go Go.RowKit Lin
end Go.Proofs.YtpcakodemleoiaaGreat.T
end
section
namespace Go.Proofs.YtpcakodemleoiaaGreat.T
open Go Go.RowKit Lin
end Go.Proofs.YtpcakodemleoiaaGreat.T
end
section
namespace Go.Proofs.YtpcakodemleoiaaGreat.T
open Go Go.RowKit Lin
end Go.Proofs.YtpcakodemleoiaaGreat.T
end
section
namespace Go.Proofs.YtpcakodemleoiaaGreat.T
open Go Go.RowKit Lin
end Go.Proofs.YtpcakodemleoiaaGreat.T
end
section
namespace Go.Proofs.YtpcakodemleoiaaGreat.T
open Go Go.RowKit Lin
end Go.Proofs.YtpcakodemleoiaaGreat.T
end
end

section
namespace Go.Proofs.YtpcakodemleoiaaGreat.T
open Go Go.RowKit Lin
structure Val (x : Int × Int) (p q : Int) : Prop where
 v : vfrac x.1 x.2 = true
 n0 : q ≠ 0
 e : x.1 * q = p * x.2
theorem Ya6 {x : Int × Int} (h : vfrac x.1 x.2 = true) : x.2 ≠ 0 := by
 have := (Y09 h).1
 omega
theorem Val.self {x : Int × Int} (h : vfrac x.1 x.2 = true) : Val x x.1 x.2 := ⟨h, Ya6 h, rfl⟩
theorem Val.one {n : Int} (h : -1152921504606846976 ≤ n ∧ n ≤ 1152921504606846976) : Val (n, 1) n 1 := ⟨Y1t h, by decide, rfl⟩
theorem Val.d {x : Int × Int} {p q : Int} (h : Val x p q) : x.2 ≠ 0 := Ya6 h.v
theorem Val.same {x : Int × Int} {p q r s : Int} (h : Val x p q) (k : Val x r s) : p * s = r * q := by
 refine Y3g (c := x.2) h.d ?_
 have h1 := h.e
 have h2 := k.e
 grind
theorem Val.eq {x y : Int × Int} {p q r s : Int} (h : Val x p q) (k : Val y r s) (e : p * s = r * q) : x = y := by
 refine Yft h.v k.v (Y3g (c := q * s) (Int.mul_ne_zero h.n0 k.n0) ?_)
 have h1 := h.e
 have h2 := k.e
 calc x.1 * y.2 * (q * s) = (x.1 * q) * (y.2 * s) := by ac_rfl
  _ = (p * x.2) * (y.2 * s) := by rw [h1]
  _ = (p * s) * (x.2 * y.2) := by ac_rfl
  _ = (r * q) * (x.2 * y.2) := by rw [e]
  _ = (r * y.2) * (q * x.2) := by ac_rfl
  _ = (y.1 * s) * (q * x.2) := by rw [h2]
  _ = y.1 * x.2 * (q * s) := by ac_rfl
theorem Val.to {x : Int × Int} {p q r s : Int} (h : Val x p q) (hs : s ≠ 0) (e : p * s = r * q) : Val x r s := by
 refine ⟨h.v, hs, Y3g (c := q) h.n0 ?_⟩
 have h1 := h.e
 calc x.1 * s * q = (x.1 * q) * s := by ac_rfl
  _ = (p * x.2) * s := by rw [h1]
  _ = (p * s) * x.2 := by ac_rfl
  _ = (r * q) * x.2 := by rw [e]
  _ = r * x.2 * q := by ac_rfl
theorem Val.scale {x : Int × Int} {p q k : Int} (h : Val x p q) (hk : k ≠ 0) : Val x (p * k) (q * k) := h.to (Int.mul_ne_zero h.n0 hk) (by ac_rfl)
theorem Val.add {a b : Int × Int} {p q r s : Int} (h : Val a p q) (k : Val b r s) (ok : (addR a b).2 = 0) : Val (addR a b).1 (p * s + r * q) (q * s) := by
 have hq := add_q h.v k.v ok
 refine ⟨Y2l h.v k.v ok, Int.mul_ne_zero h.n0 k.n0, Y3g (c := a.2 * b.2) (Int.mul_ne_zero h.d k.d) ?_⟩
 generalize (addR a b).1 = c at *
 have h1 := h.e
 have h2 := k.e
 calc c.1 * (q * s) * (a.2 * b.2) = (c.1 * (a.2 * b.2)) * (q * s) := by ac_rfl
  _ = ((a.1 * b.2 + b.1 * a.2) * c.2) * (q * s) := by rw [hq]
  _ = ((a.1 * q) * (b.2 * s) + (b.1 * s) * (a.2 * q)) * c.2 := by grind
  _ = ((p * a.2) * (b.2 * s) + (r * b.2) * (a.2 * q)) * c.2 := by rw [h1, h2]
  _ = (p * s + r * q) * c.2 * (a.2 * b.2) := by grind
theorem Val.neg {a : Int × Int} {p q : Int} (h : Val a p q) : Val (-a.1, a.2) (-p) q := ⟨vfrac_neg h.v, h.n0, by have := h.e; simp only [Int.neg_mul, this]⟩
theorem subP_ok {a b : Int × Int} (ha : vfrac a.1 a.2 = true) (hb : vfrac b.1 b.2 = true) : subP a b = addR a (-b.1, b.2) := by unfold subP; rw [if_pos ⟨ha, hb⟩]
theorem Val.sub {a b : Int × Int} {p q r s : Int} (h : Val a p q) (k : Val b r s) (ok : (subP a b).2 = 0) : Val (subP a b).1 (p * s - r * q) (q * s) := by
 rw [subP_ok h.v k.v] at ok ⊢
 exact (h.add k.neg ok).to (Int.mul_ne_zero h.n0 k.n0) (by rw [Int.neg_mul, Int.sub_eq_add_neg])
theorem Val.mul {a b : Int × Int} {p q r s : Int} (h : Val a p q) (k : Val b r s) (ok : (mulR a b).2 = 0) : Val (mulR a b).1 (p * r) (q * s) := by
 have hq := mul_q h.v k.v ok
 refine ⟨Y3d h.v k.v ok, Int.mul_ne_zero h.n0 k.n0, Y3g (c := a.2 * b.2) (Int.mul_ne_zero h.d k.d) ?_⟩
 generalize (mulR a b).1 = c at *
 have h1 := h.e
 have h2 := k.e
 calc c.1 * (q * s) * (a.2 * b.2) = (c.1 * (a.2 * b.2)) * (q * s) := by ac_rfl
  _ = (a.1 * b.1 * c.2) * (q * s) := by rw [hq]
  _ = ((a.1 * q) * (b.1 * s)) * c.2 := by ac_rfl
  _ = ((p * a.2) * (r * b.2)) * c.2 := by rw [h1, h2]
  _ = (p * r) * c.2 * (a.2 * b.2) := by ac_rfl
theorem Y7v {a d : Nat} {b : Bool} (hd : 0 < d) : (madeP a b d).2 = 0 ∨ (madeP a b d).2 = 5 := by
 unfold madeP signP
 rw [if_neg (by omega)]
 split <;> simp
theorem Ydr {a b : Int × Int} (ha : vfrac a.1 a.2 = true) (hb : vfrac b.1 b.2 = true) : (mulR a b).2 = 0 ∨ (mulR a b).2 = 5 := by
 have h1 := (Y09 ha).1
 have h2 := (Y09 hb).1
 exact Y7v (Nat.mul_pos (by omega) (by omega))
theorem addR_err {a b : Int × Int} (ha : vfrac a.1 a.2 = true) (hb : vfrac b.1 b.2 = true) : (addR a b).2 = 0 ∨ (addR a b).2 = 5 := by
 have h1 := (Y09 ha).1
 have h2 := (Y09 hb).1
 have hp : 0 < a.2.natAbs * b.2.natAbs := Nat.mul_pos (by omega) (by omega)
 unfold addR
 split
 ·exact Y7v hp
 ·split <;> exact Y7v hp
theorem Val.int {x : Int × Int} {p q n : Int} (h : Val x p q) (e : p = n * q) : x = (n, 1) := by
 refine whole h.v h.n0 ?_
 rw [h.e, e]
theorem dens : ∀ (x : List (Int × Int)), allV x = true → ∃ (X : Nat → Int) (D : Int), D ≠ 0 ∧ ∀ (k : Nat) (f : Int × Int), x[k]? = some f → Val f (X k) D
 | [], _ => ⟨fun _ => 0, 1, by decide, fun k f h => by simp at h⟩
 | f :: x, h => by
  have hxs : allV (f :: x) = (vfrac f.1 f.2 && allV x) := rfl
  rw [hxs, Bool.and_eq_true] at h
  obtain ⟨X, D, hD, hX⟩ := dens x h.2
  have hf := Ya6 h.1
  refine ⟨fun k => match k with | 0 => f.1 * D | k + 1 => f.2 * X k, f.2 * D, Int.mul_ne_zero hf hD, fun k g hg => ?_⟩
  cases k with
  | zero =>
   simp only [List.getElem?_cons_zero, Option.some.injEq] at hg
   subst hg
   exact (Val.self h.1).scale hD
  | succ k =>
   simp only [List.getElem?_cons_succ] at hg
   have := (hX k g hg).scale hf
   rw [Int.mul_comm (X k), Int.mul_comm D] at this
   exact this
def SolQ (m : List (List Int)) (right : List Int) (Z : Nat → Int) (D : Int) : Prop := ∀ (i : Nat) (r : List Int) (b : Int), m[i]? = some r → right[i]? = some b → sumN (fun k => Lin.at_ r k * Z k) (wid m) = D * b
section
variable {m : List (List Int)} {right : List Int}
theorem SolQ.phi (hv : Y12 m = true) (hr : right.length = m.length) {Z : Nat → Int} {D : Int} (h : SolQ m right Z D) : ∀ s ∈ copyP m right, T.phi Z D (wid m) (Lin.at_ s) = 0 := fun s hs => by
 obtain ⟨_, _, h3⟩ := Y0y.1 hv
 obtain ⟨i, r, b, hi, hb, rfl⟩ := Yeg hr hs
 rw [Yfd (h3 r (List.mem_of_getElem? hi)).1, h i r b hi hb]
 omega
variable (hv : Y12 m = true) (hr : right.length = m.length) (hw : Y0w right 67108864 = true)
include hv hr hw
end
end Go.Proofs.YtpcakodemleoiaaGreat.T
end
section
namespace Go.Proofs.YtpcakodemleoiaaGreat.T
open Go Go.RowKit Lin
def Ker (m : List (List Int)) (Z : Nat → Int) : Prop := ∀ r ∈ m, sumN (fun k => Lin.at_ r k * Z k) (wid m) = 0
end Go.Proofs.YtpcakodemleoiaaGreat.T
end
section
namespace Go.Proofs.YtpcakodemleoiaaGreat.T
open Go Go.RowKit Lin
end Go.Proofs.YtpcakodemleoiaaGreat.T
end
section
namespace Go.Proofs.YtpcakodemleoiaaGreat.T
open Go Go.RowKit Lin
theorem OkS.rows {s : Sy} (ok : OkS s) : ∀ r ∈ matS s, r.length = wid (matS s) ∧ ∀ x ∈ r, -1000 ≤ x ∧ x ≤ 1000 := fun r hr => by
 obtain ⟨_, _, h3⟩ := Y0y.1 ok.mat_valid
 refine ⟨(h3 r hr).1, fun x hx => ?_⟩
 have := (h3 r hr).2 x hx
 omega
theorem OkS.len {s : Sy} (ok : OkS s) : (wtsS s).length = (matS s).length := by rw [ok.wts_len, ok.mat_len]
abbrev zipA (x y : List Int) : List Int := List.zipWith (· + ·) x y
theorem zip_get {x y : List Int} {i : Nat} {b : Int} (h : (zipA x y)[i]? = some b) : ∃ p q, x[i]? = some p ∧ y[i]? = some q ∧ b = p + q := by
 unfold zipA at h
 rw [List.getElem?_zipWith] at h
 cases hx : x[i]? with
 | none => rw [hx] at h; simp at h
 | some p =>
  cases hy : y[i]? with
  | none => rw [hx, hy] at h; simp at h
  | some q =>
   rw [hx, hy] at h
   exact ⟨p, q, rfl, rfl, by simpa using h.symm⟩
theorem Ycn (g X Y : Nat → Int) (a b : Int) (n : Nat) : sumN (fun k => g k * (X k * a + Y k * b)) n = sumN (fun k => g k * X k) n * a + sumN (fun k => g k * Y k) n * b := by
 rw [Int.mul_comm _ a, Int.mul_comm _ b, ← Y2y, ← Y2y, ← Y6s]
 exact Y15 n fun k _ => by rw [Int.mul_add]; ac_rfl
end Go.Proofs.YtpcakodemleoiaaGreat.T
end

section
namespace Go.Proofs.YtpcakodemleoiaaGreat.T
open Go Go.RowKit Lin
def recip (b : Int × Int) : Int × Int := if b.1 < 0 then (-b.2, -b.1) else (b.2, b.1)
def divR (a b : Int × Int) : (Int × Int) × Int := madeP (a.1.natAbs * b.2.natAbs) (decide (a.1 < 0) != decide (b.1 < 0)) (a.2.natAbs * b.1.natAbs)
def divP (a b : Int × Int) : (Int × Int) × Int := if vfrac a.1 a.2 = true ∧ vfrac b.1 b.2 = true then divR a b else ((0, 0), 1)
theorem Y5i {b : Int × Int} (hb : vfrac b.1 b.2 = true) (h0 : b.1 ≠ 0) : vfrac (recip b).1 (recip b).2 = true := by
 obtain ⟨b1, b2, b3, b4, b5⟩ := Y09 hb
 have hc : Nat.gcd b.2.natAbs b.1.natAbs = 1 := by rw [Nat.gcd_comm]; exact b5
 unfold recip
 split
 ·unfold vfrac
  simp only [Int.natAbs_neg, hc, Bool.and_eq_true, decide_eq_true_eq]
  refine ⟨⟨⟨⟨?_, ?_⟩, ?_⟩, ?_⟩, ?_⟩ <;> first | omega | trivial
 ·unfold vfrac
  simp only [hc, Bool.and_eq_true, decide_eq_true_eq]
  refine ⟨⟨⟨⟨?_, ?_⟩, ?_⟩, ?_⟩, ?_⟩ <;> first | omega | trivial
theorem Y5y {a b : Int × Int} (hb : vfrac b.1 b.2 = true) : divR a b = mulR a (recip b) := by
 obtain ⟨b1, _⟩ := Y09 hb
 unfold divR mulR recip
 split
 ·rename_i h
  simp only [Int.natAbs_neg]
  rw [decide_eq_true h, decide_eq_true (show -b.2 < 0 by omega)]
 ·rename_i h
  simp only
  rw [decide_eq_false h, decide_eq_false (show ¬ b.2 < 0 by omega)]
theorem Y74 {a b : Int × Int} (h0 : b.1 = 0) : divR a b = ((0, 0), 16) := by
 unfold divR madeP
 rw [h0]
 simp
theorem Val.div {a b : Int × Int} {p q r s : Int} (h : Val a p q) (k : Val b r s) (h0 : b.1 ≠ 0) (ok : (divR a b).2 = 0) : Val (divR a b).1 (p * s) (q * r) := by
 have hr : r ≠ 0 := fun e => by
  have := k.e
  rw [e, Int.zero_mul] at this
  rcases Int.mul_eq_zero.1 this with h | h
  ·exact h0 h
  ·exact k.n0 h
 rw [Y5y k.v] at ok ⊢
 refine h.mul (r := s) (s := r) ⟨Y5i k.v h0, hr, ?_⟩ ok
 have he := k.e
 unfold recip
 split
 ·simp only [Int.neg_mul, Int.mul_neg]
  rw [Int.mul_comm b.2, Int.mul_comm s, he]
 ·simp only
  rw [Int.mul_comm b.2, Int.mul_comm s, he]
theorem divR_err {a b : Int × Int} (ha : vfrac a.1 a.2 = true) (hb : vfrac b.1 b.2 = true) : (b.1 = 0 ∧ divR a b = ((0, 0), 16)) ∨ (b.1 ≠ 0 ∧ ((divR a b).2 = 0 ∨ (divR a b).2 = 5)) := by
 by_cases h0 : b.1 = 0
 ·exact .inl ⟨h0, Y74 h0⟩
 ·refine .inr ⟨h0, ?_⟩
  rw [Y5y hb]
  exact Ydr ha (Y5i hb h0)
theorem rDiv (a b : Int × Int) : PRet Tryz.prog 67 [frD a, frD b] (fe (divP a b)) := by
 refine PRet.intro 1 fun t => ACall.enter tab_ok Tryz.func67 rfl rfl Tryz.ntmps67 (by simp) ?_
 simp only [Y06]
 have h1 := Y3y a.1 a.2
 have h2 := Y3y b.1 b.2
 cases ha : vfrac a.1 a.2
 ·rw [ha] at h1
  have e : divP a b = ((0, 0), 1) := by unfold divP; rw [if_neg (by simp [ha])]
  ((refine gga1 h1 ?_))
  ((repeat refine Y01 ?_))
  refine Y04 ?_
  ((refine gga1 h1 ?_))
  ((repeat refine Y01 ?_); (refine wta ?_); simp (disch := omega) only [retQ, resD, oneD, rsv, rs, rsL, Y02, List.map_map, bb, bt, zDs, zD, Y00, simprocAttr, Tryz.results67, e])
 rw [ha] at h1
 cases hb : vfrac b.1 b.2
 ·rw [hb] at h2
  have e : divP a b = ((0, 0), 1) := by unfold divP; rw [if_neg (by simp [hb])]
  ((refine gga2 h1 h2 ?_))
  ((repeat refine Y01 ?_))
  refine Y04 ?_
  ((refine gga2 h1 h2 ?_))
  ((repeat refine Y01 ?_); (refine wta ?_); simp (disch := omega) only [retQ, resD, oneD, rsv, rs, rsL, Y02, List.map_map, bb, bt, zDs, zD, Y00, simprocAttr, Tryz.results67, e])
 rw [hb] at h2
 have e : divP a b = divR a b := by unfold divP; rw [if_pos ⟨ha, hb⟩]
 have hB := Y09 hb
 by_cases h0 : b.1 = 0
 ·have e0 : (b.1 == 0) = true := by simp [h0]
  rw [Y74 h0] at e
  ((refine gga2 h1 h2 ?_))
  ((repeat refine Y01 ?_))
  refine Y04 ?_
  ((refine ggb2 e0 h1 h2 ?_))
  ((repeat refine Y01 ?_); (refine wta ?_); simp (disch := omega) only [retQ, resD, oneD, rsv, rs, rsL, Y02, List.map_map, bb, bt, zDs, zD, Y00, simprocAttr, Tryz.results67, e])
 have e0 : (b.1 == 0) = false := by simpa using h0
 rw [Y5y hb, ← Y41 ha (Y5i hb h0)] at e
 have hM := rMul a (recip b)
 rw [← e] at hM
 unfold recip at hM
 by_cases hn : b.1 < 0
 ·rw [if_pos hn] at hM
  ((refine gga2 h1 h2 ?_))
  ((repeat refine Y01 ?_))
  refine Y04 ?_
  ((refine ggb3 (F := _∧_) ⟨e0, hn⟩ h1 h2 hM ?_))
  ((repeat refine Y01 ?_); (refine wta ?_); simp (disch := omega) only [retQ, resD, oneD, rsv, rs, rsL, Y02, List.map_map, bb, bt, zDs, zD, Y00, simprocAttr, Tryz.results67])
 ·rw [if_neg hn] at hM
  ((refine gga2 h1 h2 ?_))
  ((repeat refine Y01 ?_))
  refine Y04 ?_
  ((refine ggb3 (F := _∧_) ⟨e0, hn⟩ h1 h2 hM ?_))
  ((repeat refine Y01 ?_); (refine wta ?_); simp (disch := omega) only [retQ, resD, oneD, rsv, rs, rsL, Y02, List.map_map, bb, bt, zDs, zD, Y00, simprocAttr, Tryz.results67])
end Go.Proofs.YtpcakodemleoiaaGreat.T
end
section
namespace Go.Proofs.YtpcakodemleoiaaGreat.T
open Go Go.RowKit Lin
end Go.Proofs.YtpcakodemleoiaaGreat.T
end
section
namespace Go.Proofs.YtpcakodemleoiaaGreat.T
open Go Go.RowKit Lin
def ranP (x : Rp × Int) : Bool := decide (-67108864 ≤ x.2 ∧ x.2 ≤ 67108864) && (x.2 == 0 || x.1.hl)
def rangedP (rs : List Rp) (h : List Int) : Bool := (rs.zip h).all ranP
def givH (s : Sy) (h : List Int) : Int := if Y0f s = true then (if h.length = s.rs.length then (if rangedP s.rs h = true then 0 else 2) else 3) else 1
end Go.Proofs.YtpcakodemleoiaaGreat.T
end
section
namespace Go.Proofs.YtpcakodemleoiaaGreat.T
open Go Go.RowKit Lin
end Go.Proofs.YtpcakodemleoiaaGreat.T
end
section
namespace Go.Proofs.YtpcakodemleoiaaGreat.T
open Go Go.RowKit Lin
end Go.Proofs.YtpcakodemleoiaaGreat.T
end
section
namespace Go.Proofs.YtpcakodemleoiaaGreat.T
open Go Go.RowKit Lin
end Go.Proofs.YtpcakodemleoiaaGreat.T
end

section
namespace Go.Proofs.YtpcakodemleoiaaGreat.T
open Go Go.RowKit Lin
end Go.Proofs.YtpcakodemleoiaaGreat.T
end
section
namespace Go.Proofs.YtpcakodemleoiaaGreat.T
open Go Go.RowKit Lin
section
variable {s : Sy} {h : List Int} {v : List (Int × Int)} (hg : givH s h = 0) (ha : allV v = true) (hl : v.length = s.bs.length)
include hg ha hl
end
end Go.Proofs.YtpcakodemleoiaaGreat.T
end

