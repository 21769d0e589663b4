import Derived.Test.YtpbpafmgkdihlaaGreatDoorQWPJSNQ
import Derived.Test.YtpbpafmgkdihlaaGreatDoorQWC
import Derived.Test.YtpbpafmgkdihlaaGreatDoorQWX
import Derived.Test.YtpbpafmgkdihlaaGreatDoorQLSJWRJ
import Derived.Test.YtpbpafmgkdihlaaGreatDoorQWOP
set_option linter.all false
namespace Go.Proofs.YtpbpafmgkdihlaaGreatDoor.T
open Go Go.RowKit Lin
structure Val (x : Int × Int) (p q : Int) : Prop where
 v : Y09 x.1 x.2 = true
 n0 : q ≠ 0
 e : x.1 * q = p * x.2
theorem Ycz {x : Int × Int} (h : Y09 x.1 x.2 = true) : x.2 ≠ 0 := by
 have := (Y0c h).1
 omega
theorem Val.self {x : Int × Int} (h : Y09 x.1 x.2 = true) : Val x x.1 x.2 := ⟨h, Ycz h, rfl⟩
theorem Val.one {n : Int} (h : -1152921504606846976 ≤ n ∧ n ≤ 1152921504606846976) : Val (n, 1) n 1 := ⟨Y2v h, by decide, rfl⟩
theorem Val.d {x : Int × Int} {p q : Int} (h : Val x p q) : x.2 ≠ 0 := Ycz h.v
theorem Val.same {x : Int × Int} {p q r s : Int} (h : Val x p q) (k : Val x r s) : p * s = r * q := by
 refine Y4i (c := x.2) h.d ?_
 have h1 := h.e
 have h2 := k.e
 grind
theorem Val.eq {x y : Int × Int} {p q r s : Int} (h : Val x p q) (k : Val y r s) (e : p * s = r * q) : x = y := by
 refine Yq0 h.v k.v (Y4i (c := q * s) (Int.mul_ne_zero h.n0 k.n0) ?_)
 have h1 := h.e
 have h2 := k.e
 calc x.1 * y.2 * (q * s) = (x.1 * q) * (y.2 * s) := by ac_rfl
  _ = (p * x.2) * (y.2 * s) := by rw [h1]
  _ = (p * s) * (x.2 * y.2) := by ac_rfl
  _ = (r * q) * (x.2 * y.2) := by rw [e]
  _ = (r * y.2) * (q * x.2) := by ac_rfl
  _ = (y.1 * s) * (q * x.2) := by rw [h2]
  _ = y.1 * x.2 * (q * s) := by ac_rfl
theorem Val.to {x : Int × Int} {p q r s : Int} (h : Val x p q) (hs : s ≠ 0) (e : p * s = r * q) : Val x r s := by
 refine ⟨h.v, hs, Y4i (c := q) h.n0 ?_⟩
 have h1 := h.e
 calc x.1 * s * q = (x.1 * q) * s := by ac_rfl
  _ = (p * x.2) * s := by rw [h1]
  _ = (p * s) * x.2 := by ac_rfl
  _ = (r * q) * x.2 := by rw [e]
  _ = r * x.2 * q := by ac_rfl
theorem Val.scale {x : Int × Int} {p q k : Int} (h : Val x p q) (hk : k ≠ 0) : Val x (p * k) (q * k) := h.to (Int.mul_ne_zero h.n0 hk) (by ac_rfl)
theorem Val.add {a b : Int × Int} {p q r s : Int} (h : Val a p q) (k : Val b r s) (ok : (addR a b).2 = 0) : Val (addR a b).1 (p * s + r * q) (q * s) := by
 have hq := Yy2 h.v k.v ok
 refine ⟨Y6d h.v k.v ok, Int.mul_ne_zero h.n0 k.n0, Y4i (c := a.2 * b.2) (Int.mul_ne_zero h.d k.d) ?_⟩
 generalize (addR a b).1 = c at *
 have h1 := h.e
 have h2 := k.e
 calc c.1 * (q * s) * (a.2 * b.2) = (c.1 * (a.2 * b.2)) * (q * s) := by ac_rfl
  _ = ((a.1 * b.2 + b.1 * a.2) * c.2) * (q * s) := by rw [hq]
  _ = ((a.1 * q) * (b.2 * s) + (b.1 * s) * (a.2 * q)) * c.2 := by grind
  _ = ((p * a.2) * (b.2 * s) + (r * b.2) * (a.2 * q)) * c.2 := by rw [h1, h2]
  _ = (p * s + r * q) * c.2 * (a.2 * b.2) := by grind
theorem Val.neg {a : Int × Int} {p q : Int} (h : Val a p q) : Val (-a.1, a.2) (-p) q := ⟨Yn8 h.v, h.n0, by have := h.e; simp only [Int.neg_mul, this]⟩
theorem Yw8 {a b : Int × Int} (ha : Y09 a.1 a.2 = true) (hb : Y09 b.1 b.2 = true) : subP a b = addR a (-b.1, b.2) := by unfold subP; rw [if_pos ⟨ha, hb⟩]
theorem Val.sub {a b : Int × Int} {p q r s : Int} (h : Val a p q) (k : Val b r s) (ok : (subP a b).2 = 0) : Val (subP a b).1 (p * s - r * q) (q * s) := by
 rw [Yw8 h.v k.v] at ok ⊢
 exact (h.add k.neg ok).to (Int.mul_ne_zero h.n0 k.n0) (by rw [Int.neg_mul, Int.sub_eq_add_neg])
theorem Val.mul {a b : Int × Int} {p q r s : Int} (h : Val a p q) (k : Val b r s) (ok : (mulR a b).2 = 0) : Val (mulR a b).1 (p * r) (q * s) := by
 have hq := Yzf h.v k.v ok
 refine ⟨Y8g h.v k.v ok, Int.mul_ne_zero h.n0 k.n0, Y4i (c := a.2 * b.2) (Int.mul_ne_zero h.d k.d) ?_⟩
 generalize (mulR a b).1 = c at *
 have h1 := h.e
 have h2 := k.e
 calc c.1 * (q * s) * (a.2 * b.2) = (c.1 * (a.2 * b.2)) * (q * s) := by ac_rfl
  _ = (a.1 * b.1 * c.2) * (q * s) := by rw [hq]
  _ = ((a.1 * q) * (b.1 * s)) * c.2 := by ac_rfl
  _ = ((p * a.2) * (r * b.2)) * c.2 := by rw [h1, h2]
  _ = (p * r) * c.2 * (a.2 * b.2) := by ac_rfl
theorem Yai {a d : Nat} {b : Bool} (hd : 0 < d) : (Y1o a b d).2 = 0 ∨ (Y1o a b d).2 = 5 := by
 unfold Y1o Y2l
 rw [if_neg (by omega)]
 split <;> simp
theorem Ydn {a b : Int × Int} (ha : Y09 a.1 a.2 = true) (hb : Y09 b.1 b.2 = true) : (mulR a b).2 = 0 ∨ (mulR a b).2 = 5 := by
 have h1 := (Y0c ha).1
 have h2 := (Y0c hb).1
 exact Yai (Nat.mul_pos (by omega) (by omega))
theorem Ykl {a b : Int × Int} (ha : Y09 a.1 a.2 = true) (hb : Y09 b.1 b.2 = true) : (addR a b).2 = 0 ∨ (addR a b).2 = 5 := by
 have h1 := (Y0c ha).1
 have h2 := (Y0c hb).1
 have hp : 0 < a.2.natAbs * b.2.natAbs := Nat.mul_pos (by omega) (by omega)
 unfold addR
 split
 ·exact Yai hp
 ·split <;> exact Yai hp
theorem Val.int {x : Int × Int} {p q n : Int} (h : Val x p q) (e : p = n * q) : x = (n, 1) := by
 refine whole h.v h.n0 ?_
 rw [h.e, e]
theorem dens : ∀ (x : List (Int × Int)), allV x = true → ∃ (X : Nat → Int) (D : Int), D ≠ 0 ∧ ∀ (k : Nat) (f : Int × Int), x[k]? = some f → Val f (X k) D
 | [], _ => ⟨fun _ => 0, 1, by decide, fun k f h => by simp at h⟩
 | f :: x, h => by
  have hxs : allV (f :: x) = (Y09 f.1 f.2 && allV x) := rfl
  rw [hxs, Bool.and_eq_true] at h
  obtain ⟨X, D, hD, hX⟩ := dens x h.2
  have hf := Ycz h.1
  refine ⟨fun k => match k with | 0 => f.1 * D | k + 1 => f.2 * X k, f.2 * D, Int.mul_ne_zero hf hD, fun k g hg => ?_⟩
  cases k with
  | zero =>
   simp only [List.getElem?_cons_zero, Option.some.injEq] at hg
   subst hg
   exact (Val.self h.1).scale hD
  | succ k =>
   simp only [List.getElem?_cons_succ] at hg
   have := (hX k g hg).scale hf
   rw [Int.mul_comm (X k), Int.mul_comm D] at this
   exact this
theorem Yy0 {x : List (Int × Int)} {X : Nat → Int} {D : Int} (h : ∀ (k : Nat) (f : Int × Int), x[k]? = some f → Val f (X k) D) : allV x = true := by
 unfold allV
 rw [List.all_eq_true]
 intro f hf
 obtain ⟨k, hk⟩ := List.mem_iff_getElem?.1 hf
 exact (h k f hk).v
def SolQ (m : List (List Int)) (right : List Int) (Z : Nat → Int) (D : Int) : Prop := ∀ (i : Nat) (r : List Int) (b : Int), m[i]? = some r → right[i]? = some b → sumN (fun k => Lin.at_ r k * Z k) (wid m) = D * b
section
variable {m : List (List Int)} {right : List Int}
theorem SolQ.phi (hv : Y1c m = true) (hr : right.length = m.length) {Z : Nat → Int} {D : Int} (h : SolQ m right Z D) : ∀ s ∈ Y10 m right, T.phi Z D (wid m) (Lin.at_ s) = 0 := fun s hs => by
 obtain ⟨_, _, h3⟩ := Y0v.1 hv
 obtain ⟨i, r, b, hi, hb, rfl⟩ := Yka hr hs
 rw [Yoo (h3 r (List.mem_of_getElem? hi)).1, h i r b hi hb]
 omega
theorem Yf4 (F : Nat → Nat → Int) (n : Nat) : ∀ k, sumN (fun j => sumN (fun i => F i j) k) n = sumN (fun i => sumN (fun j => F i j) n) k
 | 0 => by simp only [sumN]; exact Y4d n
 | k + 1 => by simp only [sumN]; rw [Y77, Yf4 F n k]
theorem Yf5 (g : Nat → Int) (c : Nat) (d : Int) (n : Nat) (h : c < n) : sumN (fun j => g j * (if c = j then d else 0)) n = g c * d := by
 rw [← Yd5 g c d n h]
 exact Y0s n fun j _ => by
  by_cases e : j = c
  ·subst e; simp
  ·rw [if_neg e, if_neg (Ne.symm e)]
variable (hv : Y1c m = true) (hr : right.length = m.length) (hw : Y0u right 67108864 = true)
include hv hr hw
theorem Ya3 (h : (Y1m m right).2 = 0) : ∃ Z D, D ≠ 0 ∧ SolQ m right Z D ∧ (Y1m m right).1.length = wid m ∧ ∀ (k : Nat) (f : Int × Int), (Y1m m right).1[k]? = some f → Val f (Z k) D := by
 have hn := h
 rw [Y3r hv hr hw] at h
 obtain ⟨s1, s2, s3⟩ := Yf8 hv hr hw h
 have iv := Y4t hv hr hw
 have hb := Y48 hv hr hw
 have in2 := iv.small2 hb (Nat.le_refl _)
 have hd2 := iv.den_small2 hb (Nat.le_refl _)
 refine ⟨solX m right, (solM m right).den, iv.den0, s2, by rw [Y3r hv hr hw, s3]; simp, fun k f hf => ?_⟩
 rw [Y3r hv hr hw, s3] at hf
 have hkl : k < wid m := by have := (List.getElem?_eq_some_iff.1 hf).1; simpa using this
 rw [List.getElem?_map, List.getElem?_range hkl] at hf
 simp only [Option.map_some, Option.some.injEq] at hf
 subst hf
 have hq := Y8i iv.den0 (Y58 (in2 k (wid m) (by omega) (by omega)) hd2 iv.den0)
 exact ⟨hq.1, iv.den0, hq.2⟩
end
def Ker (m : List (List Int)) (Z : Nat → Int) : Prop := ∀ r ∈ m, sumN (fun k => Lin.at_ r k * Z k) (wid m) = 0
theorem Ywi {α : Type} {l : List α} {i : Nat} {x : α} (h : l.reverse[i]? = some x) : l[l.length - 1 - i]? = some x := by
 have hi := (List.getElem?_eq_some_iff.1 h).1
 rw [List.length_reverse] at hi
 rwa [List.getElem?_reverse hi] at h
theorem OkS.rows {s : Sy} (ok : OkS s) : ∀ r ∈ matS s, r.length = wid (matS s) ∧ ∀ x ∈ r, -1000 ≤ x ∧ x ≤ 1000 := fun r hr => by
 obtain ⟨_, _, h3⟩ := Y0v.1 ok.mat_valid
 refine ⟨(h3 r hr).1, fun x hx => ?_⟩
 have := (h3 r hr).2 x hx
 omega
theorem OkS.len {s : Sy} (ok : OkS s) : (wtsS s).length = (matS s).length := by rw [ok.wts_len, ok.mat_len]
theorem Ys7 {s : Sy} (h : (Y2k s).2 = 0) : givE s (Y2k s).1 = 0 ∧ ∃ Z D, D ≠ 0 ∧ SolQ (matS s) (wtsS s) Z D ∧ ∀ (k : Nat) (f : Int × Int), (Y2k s).1[k]? = some f → Val f (Z k) D := by
 obtain ⟨hv, hl⟩ := Ya0 h
 have ok := Y0h hv
 have e : Y2k s = Y1m (matS s) (wtsS s) := by unfold Y2k; rw [if_pos hv]
 rw [e] at h hl ⊢
 obtain ⟨Z, D, hD, hZ, _, hX⟩ := Ya3 ok.mat_valid ok.len ok.wts_in h
 exact ⟨by unfold givE; rw [if_pos ⟨hv, Yy0 hX⟩, if_pos hl], Z, D, hD, hZ, hX⟩
abbrev zipA (x y : List Int) : List Int := List.zipWith (· + ·) x y
theorem Yvt {x y : List Int} {i : Nat} {b : Int} (h : (zipA x y)[i]? = some b) : ∃ p q, x[i]? = some p ∧ y[i]? = some q ∧ b = p + q := by
 unfold zipA at h
 rw [List.getElem?_zipWith] at h
 cases hx : x[i]? with
 | none => rw [hx] at h; simp at h
 | some p =>
  cases hy : y[i]? with
  | none => rw [hx, hy] at h; simp at h
  | some q =>
   rw [hx, hy] at h
   exact ⟨p, q, rfl, rfl, by simpa using h.symm⟩
theorem Yh4 (g X Y : Nat → Int) (a b : Int) (n : Nat) : sumN (fun k => g k * (X k * a + Y k * b)) n = sumN (fun k => g k * X k) n * a + sumN (fun k => g k * Y k) n * b := by
 rw [Int.mul_comm _ a, Int.mul_comm _ b, ← Y2b, ← Y2b, ← Y77]
 exact Y0s n fun k _ => by rw [Int.mul_add]; ac_rfl
def recip (b : Int × Int) : Int × Int := if b.1 < 0 then (-b.2, -b.1) else (b.2, b.1)
def divR (a b : Int × Int) : (Int × Int) × Int := Y1o (a.1.natAbs * b.2.natAbs) (decide (a.1 < 0) != decide (b.1 < 0)) (a.2.natAbs * b.1.natAbs)
def divP (a b : Int × Int) : (Int × Int) × Int := if Y09 a.1 a.2 = true ∧ Y09 b.1 b.2 = true then divR a b else ((0, 0), 1)
theorem Y7g {b : Int × Int} (hb : Y09 b.1 b.2 = true) (h0 : b.1 ≠ 0) : Y09 (recip b).1 (recip b).2 = true := by
 obtain ⟨b1, b2, b3, b4, b5⟩ := Y0c hb
 have hc : Nat.gcd b.2.natAbs b.1.natAbs = 1 := by rw [Nat.gcd_comm]; exact b5
 unfold recip
 split
 ·unfold Y09
  simp only [Int.natAbs_neg, hc, Bool.and_eq_true, decide_eq_true_eq]
  refine ⟨⟨⟨⟨?_, ?_⟩, ?_⟩, ?_⟩, ?_⟩ <;> first | omega | trivial
 ·unfold Y09
  simp only [hc, Bool.and_eq_true, decide_eq_true_eq]
  refine ⟨⟨⟨⟨?_, ?_⟩, ?_⟩, ?_⟩, ?_⟩ <;> first | omega | trivial
theorem Y7x {a b : Int × Int} (hb : Y09 b.1 b.2 = true) : divR a b = mulR a (recip b) := by
 obtain ⟨b1, _⟩ := Y0c hb
 unfold divR mulR recip
 split
 ·rename_i h
  simp only [Int.natAbs_neg]
  rw [decide_eq_true h, decide_eq_true (show -b.2 < 0 by omega)]
 ·rename_i h
  simp only
  rw [decide_eq_false h, decide_eq_false (show ¬ b.2 < 0 by omega)]
theorem Yeb {a b : Int × Int} (h0 : b.1 = 0) : divR a b = ((0, 0), 16) := by
 unfold divR Y1o
 rw [h0]
 simp
theorem Val.div {a b : Int × Int} {p q r s : Int} (h : Val a p q) (k : Val b r s) (h0 : b.1 ≠ 0) (ok : (divR a b).2 = 0) : Val (divR a b).1 (p * s) (q * r) := by
 have hr : r ≠ 0 := fun e => by
  have := k.e
  rw [e, Int.zero_mul] at this
  rcases Int.mul_eq_zero.1 this with h | h
  ·exact h0 h
  ·exact k.n0 h
 rw [Y7x k.v] at ok ⊢
 refine h.mul (r := s) (s := r) ⟨Y7g k.v h0, hr, ?_⟩ ok
 have he := k.e
 unfold recip
 split
 ·simp only [Int.neg_mul, Int.mul_neg]
  rw [Int.mul_comm b.2, Int.mul_comm s, he]
 ·simp only
  rw [Int.mul_comm b.2, Int.mul_comm s, he]
theorem Yk9 {a b : Int × Int} (ha : Y09 a.1 a.2 = true) (hb : Y09 b.1 b.2 = true) : (b.1 = 0 ∧ divR a b = ((0, 0), 16)) ∨ (b.1 ≠ 0 ∧ ((divR a b).2 = 0 ∨ (divR a b).2 = 5)) := by
 by_cases h0 : b.1 = 0
 ·exact .inl ⟨h0, Yeb h0⟩
 ·refine .inr ⟨h0, ?_⟩
  rw [Y7x hb]
  exact Ydn ha (Y7g hb h0)
theorem rDiv (a b : Int × Int) : PRet Tryz.prog 51 [frD a, frD b] (fe (divP a b)) := by
 refine pri 1 Tryz.func51 Tryz.ntmps51 fun t => ?_
 simp only [Y04]
 have h1 := Y5d a.1 a.2
 have h2 := Y5d b.1 b.2
 cases ha : Y09 a.1 a.2
 ·rw [ha] at h1
  have e : divP a b = ((0, 0), 1) := by unfold divP; rw [if_neg (by simp [ha])]
  refine gga1 h1 ?_
  repeat refine Y00 ?_
  refine Y02 ?_
  refine gga1 h1 ?_
  exact exx (F := _ ∧ _) ⟨Tryz.results51, e⟩
 rw [ha] at h1
 cases hb : Y09 b.1 b.2
 ·rw [hb] at h2
  have e : divP a b = ((0, 0), 1) := by unfold divP; rw [if_neg (by simp [hb])]
  refine gga2 h1 h2 ?_
  repeat refine Y00 ?_
  refine Y02 ?_
  refine gga2 h1 h2 ?_
  exact exx (F := _ ∧ _) ⟨Tryz.results51, e⟩
 rw [hb] at h2
 have e : divP a b = divR a b := by unfold divP; rw [if_pos ⟨ha, hb⟩]
 have hB := Y0c hb
 by_cases h0 : b.1 = 0
 ·have e0 : (b.1 == 0) = true := by simp [h0]
  rw [Yeb h0] at e
  refine gga2 h1 h2 ?_
  repeat refine Y00 ?_
  refine Y02 ?_
  refine ggb2 e0 h1 h2 ?_
  exact exx (F := _ ∧ _) ⟨Tryz.results51, e⟩
 have e0 : (b.1 == 0) = false := by simpa using h0
 rw [Y7x hb, ← Ydo ha (Y7g hb h0)] at e
 have hM := rMul a (recip b)
 rw [← e] at hM
 unfold recip at hM
 by_cases hn : b.1 < 0
 ·rw [if_pos hn] at hM
  refine gga2 h1 h2 ?_
  repeat refine Y00 ?_
  refine Y02 ?_
  ((refine ggb3 (F := _∧_) ⟨e0, hn⟩ h1 h2 hM ?_))
  exact exx Tryz.results51
 ·rw [if_neg hn] at hM
  refine gga2 h1 h2 ?_
  repeat refine Y00 ?_
  refine Y02 ?_
  ((refine ggb3 (F := _∧_) ⟨e0, hn⟩ h1 h2 hM ?_))
  exact exx Tryz.results51
set_option maxHeartbeats 4000000 in
theorem Yo2 (s : Sy) (hf : Fits s) : PRet Tryz.prog 101 [syD s] (.tup (if Y0g s = true then [mat (trS s), int 0] else [ints [], int 1])) := by
 refine pri 1 Tryz.func101 Tryz.ntmps101 fun t => ?_
 simp only [Y04]
 have hM := Y57 s hf
 have hdr := Y1q s.rs
 cases hv : Y0g s
 ·rw [hv] at hM
  simp only [Bool.false_eq_true, if_false] at hM
  refine gga1 hM ?_
  ((repeat refine Y00 ?_); (refine wta ?_); simp (disch := omega) only [retQ, resD, oneD, rsv, rs, rsL, Y0a, List.map_map, bb, bt, zDs, zD, Y01, simprocAttr, Tryz.results101, Bool.false_eq_true, if_false])
  rfl
 rw [hv] at hM
 simp only [if_true] at hM ⊢
 have ok := Y0h hv
 have hrow := ok.rows
 have hr6 := ok.r6
 have ml := ok.mat_len
 have mw := ok.mat_wid
 unfold trS
 generalize hn : s.rs.length = n at *
 have hb6 := ok.b6
 generalize matS s = m at *
 refine ggb1 hdr hM ?_
 rw [Yze]
 repeat refine Y00 ?_
 refine Y0i (fun x : Nat => ⟨[(6, .own 1 1 (t + 1 + 1) 0 n)], [none, some ⟨59, t + 1 + 1, (Y5j m n).map ints⟩], x⟩) (fun _ => True) ?_ ?_
 ·refine Y02 ?_
  refine Y05 (fun x : Nat × Nat => ⟨[(4, mat m), (6, .own 1 1 (t + 1 + 1) 0 n), (23, int n), (24, int x.1)], [none, some ⟨59, t + 1 + 1, (Y5j m x.1).map ints ++ List.replicate (n - x.1) nilI⟩], x.2⟩) (fun x => n - x.1) (fun x => x.1 ≤ n) (0, t + 1 + 1) (Nat.zero_le _) (by (simp (disch := omega) only [StLe, tmLe, Y0b, hpLe, bl, bb, bt, zDs, zD, Y01, simprocAttr, Y5j, List.range_zero, Nat.sub_zero])) ?_
  rintro ⟨k, tt⟩ hk
  simp only at hk
  have htl : ((Y5j m k).map ints).length = k := by rw [List.length_map, Y5i]
  by_cases hlt : k < n
  ·rw [Yxe hlt]
   ((refine ggb0 (F := _∧_) ⟨@Int.ofNat_lt, hlt⟩ ?_))
   repeat refine Y00 ?_
   refine Y02 ?_
   refine gga0 ?_
   have hg1 := Yqw (n := n) htl nilI
   have hs1 := fun c d => Yu9 (n := n) htl hlt c d
   refine AW.begin_cell 1 k 1 3 rfl hg1 (by decide) ?_
   simp only [List.set_cons_succ, List.set_cons_zero, List.length_cons, List.length_nil, List.cons_append, List.nil_append, Nat.zero_add, Nat.reduceAdd, hs1]
   have htl2 : (Y5j m k).length = k := Y5i m k
   have hrl : (List.replicate (n - (k + 1)) nilI).length = n - (k + 1) := by simp
   have hkn : k < k + (n - (k + 1) + 1) := by omega
   refine Y02 ?_
   refine Y05 (fun x : Nat × Nat × Nat => ⟨[(4, mat m), (6, .own 1 1 (t + 1 + 1) 0 n), (7, int k), (23, int n), (24, int k), (27, mat m), (28, int m.length), (29, int x.1)], [none, some ⟨59, t + 1 + 1, (Y5j m k).map ints ++ .own 1 2 x.2.1 0 x.1 :: List.replicate (n - (k + 1)) nilI⟩, some ⟨3, x.2.1, (colP (m.take x.1) k).map int⟩], x.2.2⟩) (fun x => m.length - x.1) (fun x => x.1 ≤ m.length) (0, tt + 1, tt + 1) (Nat.zero_le _) (by (simp (disch := omega) only [StLe, tmLe, Y0b, hpLe, bl, bb, bt, zDs, zD, Y01, simprocAttr, colP])) ?_
   rintro ⟨j, g, t2⟩ hj
   simp only at hj
   by_cases hlj : j < m.length
   ·obtain ⟨r, hr⟩ : ∃ y, m[j]? = some y := ⟨_, List.getElem?_eq_getElem hlj⟩
    have hrl2 := (hrow r (List.mem_of_getElem? hr)).1
    have hkr : k < r.length := by omega
    obtain ⟨v, hv⟩ : ∃ y, r[k]? = some y := ⟨_, List.getElem?_eq_getElem hkr⟩
    have hct := Ygk hr hv
    have hcl : (colP (m.take j) k).length = j := by simp [colP]; omega
    have hg2 := fun c => Yqw (n := n) htl c
    ((refine ggb0 (F := _∧_) ⟨@Int.ofNat_lt, hlj⟩ ?_))
    repeat refine Y00 ?_
    refine Y02 ?_
    ((refine ggb0 (F := _∧_) ⟨hlj, hr⟩ ?_))
    ((repeat refine Y00 ?_); (refine gdzb (F := _∧_∧_∧_∧_∧_∧_∧_) ⟨hg2, hs1, hkr, hv, hcl, hkn, htl2, hrl⟩ ?_))
    refine gga0 ?_
    refine ⟨(j + 1, t2 + 1, t2 + 1), hlj, by show m.length - (j + 1) < m.length - j; omega, ?_⟩
    simp only [hct, List.map_append, List.map_cons, List.map_nil]
    exact ele
   ·have hje : j = m.length := by omega
    subst hje
    rw [List.take_length]
    have hcl : (colP m k).length = m.length := by simp [colP]
    have hfin : List.take m.length ((colP m k).map int) = (colP m k).map int := List.take_of_length_le (by simp [hcl])
    refine wqb @Int.lt_irrefl ?_
    refine wia ?_
    refine wxa ?_
    ((refine AW.freeze (2) (by first | rfl | (simp only [setH, List.getElem?_cons_zero, List.getElem?_cons_succ, Yia, Yi9, hcl, hfin, List.length_map, Nat.le_refl]; done)) ?_); simp (disch := omega) only [fzT, fz, fzL, Y0p, Y0y, fzH, fzB, eq_self, bb, bt, zDs, zD, Y01, simprocAttr, Yia, Yi9, hcl, hfin, List.length_map, Nat.le_refl])
    refine gga0 ?_
    refine ⟨(k + 1, t2), hlt, by show n - (k + 1) < n - k; omega, ?_⟩
    simp only [Ykx, List.map_append, List.map_cons, List.map_nil, List.append_assoc, List.cons_append, List.nil_append]
    exact ele
  ·have hke : k = n := by omega
   subst hke
   refine ggb0 @Int.lt_irrefl ?_
   exact ⟨tt, trivial, by (simp (disch := omega) only [StLe, tmLe, Y0b, hpLe, bl, bb, bt, zDs, zD, Y01, simprocAttr, Nat.sub_self, List.replicate_zero, List.append_nil])⟩
 rintro tt -
 have hfin : List.take n ((Y5j m n).map ints) = (Y5j m n).map ints := List.take_of_length_le (by simp [Y5i])
 have htl := Y5i m n
 ((refine AW.freeze (1) (by first | rfl | (simp only [setH, List.getElem?_cons_zero, List.getElem?_cons_succ, hfin, htl, List.length_map, Nat.le_refl]; done)) ?_); simp (disch := omega) only [fzT, fz, fzL, Y0p, Y0y, fzH, fzB, eq_self, bb, bt, zDs, zD, Y01, simprocAttr, hfin, htl, List.length_map, Nat.le_refl])
 refine gga0 ?_
 ((repeat refine Y00 ?_); (refine wta ?_); simp (disch := omega) only [retQ, resD, oneD, bb, bt, zDs, zD, Y01, simprocAttr, Tryz.results101])
 refine Y2c _ _ ?_
 have := Yj6 (Y5j m n)
 simp only [Y2w, Y37, Bool.not_false, Bool.and_true, Bool.true_and] at this ⊢
 exact this
theorem Yuo {α : Type} {p : α → Bool} {l : List α} {k : Nat} {x : α} (h : l[k]? = some x) : (l.take (k + 1)).all p = ((l.take k).all p && p x) := by
 rw [List.take_add_one, h]
 simp
theorem Yeo {α : Type} {p : α → Bool} {l : List α} {k : Nat} {x : α} (h : l[k]? = some x) (hp : p x = false) : l.all p = false := by
 rw [← Bool.not_eq_true, List.all_eq_true]
 intro hh
 rw [hh x (List.mem_of_getElem? h)] at hp
 cases hp
def ranP (x : Rp × Int) : Bool := decide (-67108864 ≤ x.2 ∧ x.2 ≤ 67108864) && (x.2 == 0 || x.1.hl)
def Y3w (rs : List Rp) (h : List Int) : Bool := (rs.zip h).all ranP
theorem Yuu {rs : List Rp} {h : List Int} {k : Nat} {r : Rp} {n : Int} (hr : rs[k]? = some r) (hn : h[k]? = some n) : (rs.zip h)[k]? = some (r, n) := by
 rw [List.getElem?_zip_eq_some]
 exact ⟨hr, hn⟩
theorem Ylc {rs : List Rp} {h : List Int} (hp : Y3w rs h = true) {k : Nat} {r : Rp} {n : Int} (hr : rs[k]? = some r) (hn : h[k]? = some n) : (-67108864 ≤ n ∧ n ≤ 67108864) ∧ (n = 0 ∨ r.hl = true) := by
 unfold Y3w at hp
 rw [List.all_eq_true] at hp
 have := hp _ (List.mem_of_getElem? (Yuu hr hn))
 unfold ranP at this
 simpa using this
theorem Y6i {rs : List Rp} {h : List Int} (hl : h.length = rs.length) (hp : Y3w rs h = true) : Y0u h 67108864 = true := Y88 fun n hn => by
 obtain ⟨k, hk⟩ := List.mem_iff_getElem?.1 hn
 have hkl := (List.getElem?_eq_some_iff.1 hk).1
 exact (Ylc hp (List.getElem?_eq_getElem (by omega)) hk).1
set_option maxHeartbeats 2000000 in
theorem Yhg (s : Sy) (hf : Fits s) (h : List Int) (hl : h.length = s.rs.length) : PRet Tryz.prog 102 [syD s, ints h] (bool (Y3w s.rs h)) := by
 refine pri 1 Tryz.func102 Tryz.ntmps102 fun t => ?_
 simp only [Y04]
 have hdr := Y1q s.rs
 have hnr := hf.nr
 have hzl : (s.rs.zip h).length = h.length := by simp [List.length_zip]; omega
 refine gga0 ?_
 repeat refine Y00 ?_
 refine Y02 ?_
 refine Y05 (fun k : Nat => ⟨[(2, .ptr 0 (t + 1) 0), (7, ints h), (8, int h.length), (9, int k)], [some ⟨25, t + 1, [bks s.bs, rps s.rs]⟩], t + 1⟩) (fun k => h.length - k) (fun k => k ≤ h.length ∧ ((s.rs.zip h).take k).all ranP = true) 0 ⟨Nat.zero_le _, rfl⟩ ele fun k ⟨hk, hi⟩ => ?_
 by_cases hlt : k < h.length
 ·obtain ⟨r, hr⟩ : ∃ x, s.rs[k]? = some x := ⟨_, List.getElem?_eq_getElem (by omega)⟩
  obtain ⟨n, hn⟩ : ∃ x, h[k]? = some x := ⟨_, List.getElem?_eq_getElem hlt⟩
  have hz := Yuu hr hn
  have hst := Yuo (p := ranP) hz
  rw [hi, Bool.true_and] at hst
  have hra : (rpC s.rs)[k * 3 + 2]? = some (bool r.hl) := Y9a s.rs k r hr 2 (by decide)
  have hkr : k < s.rs.length := by omega
  ((refine ggb0 (F := _∧_) ⟨@Int.ofNat_lt, hlt⟩ ?_))
  repeat refine Y00 ?_
  refine Y02 ?_
  by_cases c1 : n < -67108864
  ·have hp : Y3w s.rs h = false := Yeo hz (by unfold ranP; simp; omega)
   ((refine ggb0 (F := _∧_∧_) ⟨hlt, hn, c1⟩ ?_))
   exact exx (F := _ ∧ _) ⟨Tryz.results102, hp⟩
  by_cases c2 : 67108864 < n
  ·have hp : Y3w s.rs h = false := Yeo hz (by unfold ranP; simp; omega)
   ((refine ggb0 (F := _∧_∧_∧_) ⟨hlt, hn, c1, c2⟩ ?_))
   exact exx (F := _ ∧ _) ⟨Tryz.results102, hp⟩
  cases c3 : (n == 0)
  ·have c3' : (n != 0) = true := by simpa using c3
   have c3n : ¬ n = 0 := by simpa using c3
   cases hh : r.hl
   ·rw [hh] at hra
    have hp : Y3w s.rs h = false := Yeo hz (by unfold ranP; simp [hh, c3n])
    ((refine ggb0 (F := _∧_∧_∧_∧_∧_∧_∧_) ⟨hlt, hn, c1, c2, c3', hdr, hkr, hra⟩ ?_))
    exact exx (F := _ ∧ _) ⟨Tryz.results102, hp⟩
   ·rw [hh] at hra
    ((refine ggb0 (F := _∧_∧_∧_∧_∧_∧_∧_) ⟨hlt, hn, c1, c2, c3', hdr, hkr, hra⟩ ?_))
    refine ⟨k + 1, ⟨hlt, by rw [hst]; unfold ranP; simp [hh]; omega⟩, by omega, ?_⟩
    exact ele
  ·have c3' : (n != 0) = false := by simpa using c3
   have c3n : n = 0 := by simpa using c3
   ((refine ggb0 (F := _∧_∧_∧_∧_) ⟨hlt, hn, c1, c2, c3'⟩ ?_))
   refine ⟨k + 1, ⟨hlt, by rw [hst]; unfold ranP; simp [c3n]⟩, by omega, ?_⟩
   exact ele
 ·have hke : k = h.length := by omega
  subst hke
  have hp : Y3w s.rs h = true := by
   unfold Y3w
   rw [List.take_of_length_le (by omega)] at hi
   exact hi
  refine ggb0 @Int.lt_irrefl ?_
  exact exx (F := _ ∧ _) ⟨Tryz.results102, hp⟩
def givH (s : Sy) (h : List Int) : Int := if Y0g s = true then (if h.length = s.rs.length then (if Y3w s.rs h = true then 0 else 2) else 3) else 1
def Y0x (s : Sy) (h : List Int) : List (Int × Int) × Int := if givH s h = 0 then Y1m (trS s) h else ([], givH s h)
theorem Yat {s : Sy} {h : List Int} (e : givH s h = 0) : Y0g s = true ∧ h.length = s.rs.length ∧ Y3w s.rs h = true := by
 unfold givH at e
 split at e
 ·rename_i h1
  split at e
  ·rename_i h2
   split at e
   ·rename_i h3; exact ⟨h1, h2, h3⟩
   ·simp at e
  ·simp at e
 ·simp at e
set_option maxHeartbeats 1000000 in
theorem Yh7 (s : Sy) (hf : Fits s) (h : List Int) (hl : h.length ≤ 1000000) : PRet Tryz.prog 71 [syD s, ints h] (fse (Y0x s h)) := by
 refine pri 1 Tryz.func71 Tryz.ntmps71 fun t => ?_
 simp only [Y04]
 have hR := Yo2 s hf
 have hdr := Y1q s.rs
 have f0 : frC [] = [] := rfl
 cases hv : Y0g s
 ·rw [hv] at hR
  simp only [Bool.false_eq_true, if_false] at hR
  have e : Y0x s h = ([], 1) := by simp [Y0x, givH, hv]
  refine gga1 hR ?_
  repeat refine Y00 ?_
  refine Y02 ?_
  refine gga0 ?_
  refine exq (F := _ ∧ _ ∧ _) ⟨Tryz.results71, e, f0⟩ ?_
  rfl
 rw [hv] at hR
 simp only [if_true] at hR
 have ok := Y0h hv
 by_cases hz : h.length = s.rs.length
 rotate_left 1
 ·have en : ((h.length : Int) != (s.rs.length : Int)) = true := by simpa using fun e => hz (by omega)
  have e : Y0x s h = ([], 3) := by simp [Y0x, givH, hv, hz]
  refine gga1 hR ?_
  repeat refine Y00 ?_
  refine Y02 ?_
  ((refine ggb0 (F := _∧_) ⟨hdr, en⟩ ?_))
  refine exq (F := _ ∧ _ ∧ _) ⟨Tryz.results71, e, f0⟩ ?_
  rfl
 have en : ((h.length : Int) != (s.rs.length : Int)) = false := by simp [hz]
 have hA := Yhg s hf h hz
 cases hr : Y3w s.rs h
 ·rw [hr] at hA
  have e : Y0x s h = ([], 2) := by simp [Y0x, givH, hv, hz, hr]
  refine gga1 hR ?_
  repeat refine Y00 ?_
  refine Y02 ?_
  ((refine ggb1 (F := _∧_) ⟨hdr, en⟩ hA ?_))
  refine exq (F := _ ∧ _ ∧ _) ⟨Tryz.results71, e, f0⟩ ?_
  rfl
 rw [hr] at hA
 have e : Y0x s h = Y1m (trS s) h := by simp [Y0x, givH, hv, hz, hr]
 obtain ⟨f1, f2⟩ := ok.tr_fit
 have hS := Yyz (trS s) h f1 f2 hl
 rw [← e] at hS
 generalize Y0x s h = X at *
 refine gga1 hR ?_
 repeat refine Y00 ?_
 refine Y02 ?_
 ((refine ggb2 (F := _∧_) ⟨hdr, en⟩ hA hS ?_))
 ((repeat refine Y00 ?_); (refine wta ?_); simp (disch := omega) only [retQ, resD, oneD, bb, bt, zDs, zD, Y01, simprocAttr, Tryz.results71])
 exact Y2c _ _ (by simp only [Y2w, Y37, Y8a, Bool.not_false, Bool.and_self])
theorem Yw5 (b : Bk) (nm : ByteArray) : PRet Tryz.prog 69 [.agg (bk1 b), .rp [str nm] 0] (bool (decide (b.nm = nm))) := by
 refine pri 1 Tryz.func69 Tryz.ntmps69 fun t => ?_
 simp only [Y04]
 refine gga0 ?_
 exact exx Tryz.results69
theorem Yw4 (r : Rp) : PRet Tryz.prog 70 [.agg (rp1 r)] (bool r.hl) := by
 refine pri 1 Tryz.func70 Tryz.ntmps70 fun t => ?_
 simp only [Y04]
 refine gga0 ?_
 exact exx Tryz.results70
def Y2j (s : Sy) : List Int := (List.replicate s.rs.length 0).set (hix s).toNat 1
def Y4c (s : Sy) (nm : ByteArray) : (Int × Int) × Int :=
 if Y0g s = true then (if Y1k s.bs nm < 0 then ((0, 0), 9) else if hix s < 0 then ((0, 0), 11) else if (Y0x s (Y2j s)).2 = 0 then divP (1, 1) ((Y0x s (Y2j s)).1.getD (Y1k s.bs nm).toNat (0, 0)) else ((0, 0), (Y0x s (Y2j s)).2)) else ((0, 0), 1)
theorem Y8v {s : Sy} {h : List Int} (h0 : (Y0x s h).2 = 0) : givH s h = 0 ∧ (Y0x s h).1.length = s.bs.length := by
 unfold Y0x at h0 ⊢
 by_cases hg : givH s h = 0
 ·rw [if_pos hg] at h0 ⊢
  obtain ⟨hv, hz, hr⟩ := Yat hg
  have ok := Y0h hv
  obtain ⟨tv, tw⟩ := ok.tr_valid
  obtain ⟨_, _, _, _, hl, _⟩ := Ya3 tv (by rw [hz, ok.tr_len]) (Y6i hz hr) h0
  exact ⟨hg, by rw [hl, tw]⟩
 ·rw [if_neg hg] at h0
  exact absurd h0 hg
theorem Yl1 (s : Sy) (h : List Int) : (Y0x s h).1.length ≤ 1000 := by
 unfold Y0x
 split
 ·rename_i hg
  exact Yf7 _ _ (Y0h (Yat hg).1).tr_valid.1
 ·simp
set_option maxHeartbeats 2000000 in
theorem Yh3 (s : Sy) (hf : Fits s) (nm : ByteArray) : PRet Tryz.prog 40 [syD s, str nm] (fe (Y4c s nm)) := by
 refine pri 1 Tryz.func40 Tryz.ntmps40 fun t => ?_
 simp only [Y04]
 have hV := Y43 s hf
 have hnb := hf.nb
 have hnr := hf.nr
 have hdr := Y1q s.rs
 refine wqa ?_
 ((refine AW.freeze (1) (by first | rfl | (simp only [setH, List.getElem?_cons_zero, List.getElem?_cons_succ, Y5h, Y5g]; done)) ?_); simp (disch := omega) only [fzT, fz, fzL, Y0p, Y0y, fzH, fzB, eq_self, bb, bt, zDs, zD, Y01, simprocAttr, Y5h, Y5g])
 have hI := Yan s.bs 69 [.rp [str nm] 0] (fun b => decide (b.nm = nm)) hnb (fun x _ => Yw5 x nm)
 have eI : idx (fun b : Bk => decide (b.nm = nm)) s.bs 0 = Y1k s.bs nm := rfl
 rw [eI] at hI
 have hH := Y6x s.rs 70 [] (fun r => r.hl) hnr (fun x _ => Yw4 x)
 have eH : idx (fun r : Rp => r.hl) s.rs 0 = hix s := rfl
 rw [eH] at hH
 cases hv : Y0g s
 ·rw [hv] at hV
  have e : Y4c s nm = ((0, 0), 1) := by simp [Y4c, hv]
  refine gga1 hV ?_
  exact exx (F := _ ∧ _) ⟨Tryz.results40, e⟩
 rw [hv] at hV
 by_cases hb : Y1k s.bs nm < 0
 ·have e : Y4c s nm = ((0, 0), 9) := by simp [Y4c, hv, hb]
  refine ggb2 hb hV hI ?_
  exact exx (F := _ ∧ _) ⟨Tryz.results40, e⟩
 obtain ⟨j, b, hj, hbj, _⟩ := Yav (show 0 ≤ Y1k s.bs nm by omega)
 by_cases hh : hix s < 0
 ·have e : Y4c s nm = ((0, 0), 11) := by simp [Y4c, hv, hb, hh]
  ((refine ggb3 (F := _∧_) ⟨hb, hh⟩ hV hI hH ?_))
  exact exx (F := _ ∧ _) ⟨Tryz.results40, e⟩
 obtain ⟨i, r, hi, hri, _⟩ := Y5v hh
 have hir := (List.getElem?_eq_some_iff.1 hri).1
 have e : Y4c s nm = if (Y0x s (Y2j s)).2 = 0 then divP (1, 1) ((Y0x s (Y2j s)).1.getD j (0, 0)) else ((0, 0), (Y0x s (Y2j s)).2) := by
  have : ¬ (j : Int) < 0 := by omega
  simp [Y4c, hv, hh, hj, this]
 have hu : ((List.replicate s.rs.length (0 : Int)).map int).set i (int 1) = (Y2j s).map int := by
  unfold Y2j
  rw [hi, Int.toNat_natCast, List.map_set]
 have hul : (Y2j s).length = s.rs.length := by simp [Y2j]
 have hS := Yh7 s hf (Y2j s) (by omega)
 have hfull := Y8v (s := s) (h := Y2j s)
 have hle := Yl1 s (Y2j s)
 have hj0 : ¬ (j : Int) < 0 := by omega
 have hi0 : ¬ (i : Int) < 0 := by omega
 have hrl : (List.replicate s.rs.length (int 0)).length = s.rs.length := by simp
 rw [hj] at hI
 rw [hi] at hH
 have hbl := (List.getElem?_eq_some_iff.1 hbj).1
 generalize Y0x s (Y2j s) = X at *
 have hrl2 : (List.replicate s.rs.length (0 : Int)).length = s.rs.length := by simp
 have hz0 := Yuv s.rs.length
 ((refine ggb2 (F := _∧_) ⟨hj0, hdr⟩ hV hI ?_))
 refine wka1 hH ?_
 ((refine wra ?_)); ((refine wea ?_); (try clear hKR KR))
 refine wqb hi0 ?_
 refine wib hi0 ?_
 refine wsa ?_
 ((refine wqb (F := _∧_) ⟨hdr, hz0⟩ ?_))
 ((refine wqb (F := _∧_∧_∧_) ⟨hz0, hu, hir, hrl2⟩ ?_))
 have hfin : List.take s.rs.length ((Y2j s).map int) = (Y2j s).map int := List.take_of_length_le (by simp [hul])
 ((refine AW.freeze (3) (by first | rfl | (simp only [setH, List.getElem?_cons_zero, List.getElem?_cons_succ, Y5h, Y5g, hfin, hul, List.length_map, Nat.le_refl]; done)) ?_); simp (disch := omega) only [fzT, fz, fzL, Y0p, Y0y, fzH, fzB, eq_self, bb, bt, zDs, zD, Y01, simprocAttr, Y5h, Y5g, hfin, hul, List.length_map, Nat.le_refl])
 cases hx : (X.2 == 0)
 ·have hx' : (X.2 != 0) = true := by simpa using hx
  rw [if_neg (by simpa using hx)] at e
  refine ggb1 hx' hS ?_
  exact exx (F := _ ∧ _) ⟨Tryz.results40, e⟩
 have hx' : (X.2 != 0) = false := by simpa using hx
 have hx0 : X.2 = 0 := by simpa using hx
 rw [if_pos hx0] at e
 obtain ⟨_, hXl⟩ := hfull hx0
 obtain ⟨f, hfj⟩ : ∃ y, X.1[j]? = some y := ⟨_, List.getElem?_eq_getElem (by omega)⟩
 rw [List.getD_eq_getElem?_getD, hfj, Option.getD_some] at e
 have hra := Y1p X.1 j f hfj
 have hfd := Y70 X.1
 have hjl : j < X.1.length := by omega
 have hD := rDiv (1, 1) f
 rw [← e] at hD
 generalize Y4c s nm = Y at *
 ((refine ggb2 (F := _∧_∧_∧_) ⟨hx', hfd, hjl, hra⟩ hS hD ?_))
 exact exx Tryz.results40
theorem Ya2 {s : Sy} {h : List Int} (h0 : (Y0x s h).2 = 0) : ∃ X D, D ≠ 0 ∧ SolQ (trS s) h X D ∧ (Y0x s h).1.length = s.bs.length ∧ ∀ (k : Nat) (f : Int × Int), (Y0x s h).1[k]? = some f → Val f (X k) D := by
 obtain ⟨hg, _⟩ := Y8v h0
 obtain ⟨hv, hz, hr⟩ := Yat hg
 have ok := Y0h hv
 obtain ⟨tv, tw⟩ := ok.tr_valid
 unfold Y0x at h0 ⊢
 rw [if_pos hg] at h0 ⊢
 have := Ya3 tv (by rw [hz, ok.tr_len]) (Y6i hz hr) h0
 rwa [tw] at this
section
variable {s : Sy} {h : List Int} {v : List (Int × Int)} (hg : givH s h = 0) (ha : allV v = true) (hl : v.length = s.bs.length)
include hg ha hl
end
theorem virtual (F : Nat → Nat → Int) {nb nr : Nat} {w h X Y : Nat → Int} {D E : Int} (h1 : ∀ i, i < nb → sumN (fun k => F i k * Y k) nr = E * w i) (h2 : ∀ k, k < nr → sumN (fun i => F i k * X i) nb = D * h k) :
    sumN (fun i => w i * X i) nb * E = sumN (fun k => h k * Y k) nr * D := by
  have a : sumN (fun i => w i * X i) nb * E = sumN (fun i => sumN (fun k => F i k * Y k * X i) nr) nb := by
    rw [Int.mul_comm, ← Y2b]
    refine Y0s nb fun i hi => ?_
    rw [← Int.mul_assoc, ← h1 i hi, Int.mul_comm, ← Y2b]
    exact Y0s nr fun k _ => Int.mul_comm _ _
  have b : sumN (fun k => h k * Y k) nr * D = sumN (fun k => sumN (fun i => F i k * Y k * X i) nb) nr := by
    rw [Int.mul_comm, ← Y2b]
    refine Y0s nr fun k hk => ?_
    rw [← Int.mul_assoc, ← h2 k hk, Int.mul_comm, ← Y2b]
    exact Y0s nb fun i _ => by ac_rfl
  rw [a, b, Yf4 (fun i k => F k i * Y i * X k)]
theorem Y107 {s : Sy} {i : Nat} {b : Bk} (h : s.bs[i]? = some b) : Lin.at_ (wtsS s) i = b.w := by simp [Lin.at_, wtsS, h]
theorem OkS.virtual {s : Sy} (ok : OkS s) {h : List Int} (hl : h.length = s.rs.length) {X Y : Nat → Int} {D E : Int} (h1 : SolQ (matS s) (wtsS s) Y E) (h2 : SolQ (trS s) h X D) :
    sumN (fun i => Lin.at_ (wtsS s) i * X i) s.bs.length * E = sumN (fun k => Lin.at_ h k * Y k) s.rs.length * D := by
  have ml := ok.mat_len
  have mw := ok.mat_wid
  have wl := ok.len
  obtain ⟨tv, tw⟩ := ok.tr_valid
  refine T.virtual (fun i k => Lin.at_ (Lin.row (matS s) i) k) (fun i hi => ?_) fun k hk => ?_
  · have hr : (matS s)[i]? = some (Lin.row (matS s) i) := by
      rw [Lin.row_get (by omega)]
      exact List.getElem?_eq_getElem (by omega)
    have hb : (wtsS s)[i]? = some (Lin.at_ (wtsS s) i) := by
      unfold Lin.at_
      rw [List.getElem?_eq_getElem (show i < (wtsS s).length by omega)]
      rfl
    have := h1 i _ _ hr hb
    rwa [mw] at this
  · have hr : (trS s)[k]? = some (colP (matS s) k) := by
      unfold trS Y5j
      rw [List.getElem?_map, List.getElem?_range hk]
      rfl
    have hb : h[k]? = some (Lin.at_ h k) := by
      unfold Lin.at_
      rw [List.getElem?_eq_getElem (show k < h.length by omega)]
      rfl
    have := h2 k _ _ hr hb
    rw [tw] at this
    rw [← this]
    exact Y0s _ fun i _ => by rw [Yxv]
theorem Yc1 {l : List ByteArray} : l.Nodup ↔ ∀ (k : Nat) (x : ByteArray), l[k]? = some x → (l.take k).contains x = false := by
 unfold List.Nodup
 rw [List.pairwise_iff_getElem]
 constructor
 ·intro h k x hk
  rw [← Bool.not_eq_true, List.contains_iff_mem]
  intro hm
  obtain ⟨i, hi⟩ := List.mem_iff_getElem?.1 hm
  have hik : i < k := by
   have := (List.getElem?_eq_some_iff.1 hi).1
   simp at this; omega
  rw [List.getElem?_take, if_pos hik] at hi
  obtain ⟨hk1, hk2⟩ := List.getElem?_eq_some_iff.1 hk
  obtain ⟨hi1, hi2⟩ := List.getElem?_eq_some_iff.1 hi
  exact h i k hi1 hk1 hik (by rw [hi2, hk2])
 ·intro h i j hi hj hij e
  have h1 := h j l[j] (List.getElem?_eq_getElem hj)
  rw [← Bool.not_eq_true, List.contains_iff_mem] at h1
  refine h1 (List.mem_of_getElem? (i := i) ?_)
  rw [List.getElem?_take, if_pos hij, List.getElem?_eq_getElem hi, e]
structure VS (s : Sy) : Prop where
 b : 1 ≤ s.bs.length ∧ s.bs.length ≤ 6
 r : 1 ≤ s.rs.length ∧ s.rs.length ≤ 6
 nd : (Y0l s.bs ++ Y18 s.rs).Nodup
 bk : ∀ b ∈ s.bs, isNm b.nm = true ∧ 0 ≤ b.w ∧ b.w ≤ 16777216
 rp : ∀ r ∈ s.rs, isNm r.nm = true ∧ Y1g s.bs r = true
 h : Y3v s.rs ≤ 1
theorem Ygq (l : List Bk) : (Y0l l).length = l.length := by simp [Y0l]
theorem Yz5 (l : List Rp) : (Y18 l).length = l.length := by simp [Y18]
theorem Yrh (l : List Bk) (k : Nat) : Y0l (l.take k) = (Y0l l).take k := by simp [Y0l, List.map_take]
theorem Yoe (l : List Rp) (k : Nat) : Y18 (l.take k) = (Y18 l).take k := by simp [Y18, List.map_take]
theorem Y44 {s : Sy} : Y0g s = true ↔ VS s := by
 unfold Y0g Y4f
 simp only [Bool.and_eq_true, List.all_eq_true, List.mem_range, decide_eq_true_eq]
 have hbl := Ygq s.bs
 have hrl := Yz5 s.rs
 constructor
 ·rintro ⟨⟨⟨⟨b, r⟩, hb⟩, hr⟩, hh⟩
  have hB : ∀ i b, s.bs[i]? = some b → isNm b.nm = true ∧ (Y0l (s.bs.take i)).contains b.nm = false ∧ 0 ≤ b.w ∧ b.w ≤ 16777216 := fun i b hi => by
   have := hb i (List.getElem?_eq_some_iff.1 hi).1
   rw [Yfw hi, Bool.and_eq_true, Bool.and_eq_true, Bool.not_eq_true', decide_eq_true_eq] at this
   exact ⟨this.1.1, this.1.2, this.2⟩
  have hR : ∀ i r, s.rs[i]? = some r → isNm r.nm = true ∧ (Y0l s.bs ++ Y18 (s.rs.take i)).contains r.nm = false ∧ Y1g s.bs r = true := fun i r hi => by
   have := hr i (List.getElem?_eq_some_iff.1 hi).1
   rw [Yft hi, Bool.and_eq_true, Bool.and_eq_true, Bool.not_eq_true'] at this
   exact ⟨this.1.1, this.1.2, this.2⟩
  refine ⟨b, r, Yc1.2 fun k x hk => ?_, fun x hx => ?_, fun x hx => ?_, hh⟩
  ·by_cases hkb : k < s.bs.length
   ·rw [List.getElem?_append_left (by omega)] at hk
    rw [List.take_append_of_le_length (by omega)]
    obtain ⟨b, hb'⟩ : ∃ b, s.bs[k]? = some b := ⟨_, List.getElem?_eq_getElem hkb⟩
    have hx : b.nm = x := by simpa [Y0l, hb'] using hk
    rw [← hx, ← Yrh]
    exact (hB k b hb').2.1
   ·rw [List.getElem?_append_right (by omega), hbl] at hk
    have hlt := (List.getElem?_eq_some_iff.1 hk).1
    obtain ⟨r, hr'⟩ : ∃ r, s.rs[k - s.bs.length]? = some r := ⟨_, List.getElem?_eq_getElem (by omega)⟩
    have hx : r.nm = x := by simpa [Y18, hr'] using hk
    rw [← hx, List.take_append, List.take_of_length_le (by omega), hbl, ← Yoe]
    exact (hR _ r hr').2.1
  ·obtain ⟨i, hi⟩ := List.mem_iff_getElem?.1 hx
   exact ⟨(hB i x hi).1, (hB i x hi).2.2⟩
  ·obtain ⟨i, hi⟩ := List.mem_iff_getElem?.1 hx
   exact ⟨(hR i x hi).1, (hR i x hi).2.2⟩
 ·rintro ⟨b, r, nd, bk, rp, hh⟩
  have hn := Yc1.1 nd
  refine ⟨⟨⟨⟨b, r⟩, fun i hi => ?_⟩, fun i hi => ?_⟩, hh⟩
  ·obtain ⟨b, hb⟩ : ∃ b, s.bs[i]? = some b := ⟨_, List.getElem?_eq_getElem hi⟩
   have h1 := bk b (List.mem_of_getElem? hb)
   have h2 := hn i b.nm (by rw [List.getElem?_append_left (by omega)]; simp [Y0l, hb])
   rw [List.take_append_of_le_length (by omega), ← Yrh] at h2
   rw [Yfw hb, h1.1, h2, decide_eq_true h1.2]
   rfl
  ·obtain ⟨r, hr⟩ : ∃ r, s.rs[i]? = some r := ⟨_, List.getElem?_eq_getElem hi⟩
   have h1 := rp r (List.mem_of_getElem? hr)
   have h2 := hn (s.bs.length + i) r.nm (by
    rw [List.getElem?_append_right (by omega), hbl, Nat.add_sub_cancel_left]
    simp [Y18, hr])
   rw [List.take_append, List.take_of_length_le (by omega), hbl, Nat.add_sub_cancel_left, ← Yoe] at h2
   rw [Yft hr, h1.1, h2, h1.2]
   rfl
theorem Yfu {bs bs' : List Bk} (h : ∀ nm, (Y0l bs).contains nm = (Y0l bs').contains nm) (x : Hd) (e : Bool) : Y0q bs x e = Y0q bs' x e := by
 unfold Y0q
 rw [Ye5, Ye5, h]
theorem Ydj {bs bs' : List Bk} (h : ∀ nm, (Y0l bs).contains nm = (Y0l bs').contains nm) (l : List Hd) : Y21 bs l = Y21 bs' l := by
 unfold Y21
 congr 1
 funext i
 cases l[i]? with
 | none => rfl
 | some x => exact Yfu h x _
theorem Yfr {bs bs' : List Bk} (h : ∀ nm, (Y0l bs).contains nm = (Y0l bs').contains nm) (r : Rp) : Y1g bs r = Y1g bs' r := by
 unfold Y1g
 rw [Ydj h]
theorem VS.weights {s t : Sy} (h : VS s) (hr : t.rs = s.rs) (hn : Y0l t.bs = Y0l s.bs) (hw : ∀ b ∈ t.bs, 0 ≤ b.w ∧ b.w ≤ 16777216) : VS t := by
 have hl : t.bs.length = s.bs.length := by rw [← Ygq, ← Ygq, hn]
 refine ⟨by rw [hl]; exact h.b, by rw [hr]; exact h.r, by rw [hr, hn]; exact h.nd, fun b hb => ⟨?_, hw b hb⟩, fun r hr' => ?_, by rw [hr]; exact h.h⟩
 ·have : b.nm ∈ Y0l s.bs := by rw [← hn]; exact List.mem_map.2 ⟨b, hb, rfl⟩
  obtain ⟨c, hc, e⟩ := List.mem_map.1 this
  rw [← e]
  exact (h.bk c hc).1
 ·rw [hr] at hr'
  rw [Yfr (bs' := s.bs) (fun nm => by rw [hn])]
  exact h.rp r hr'
theorem Yc4 {s t : Sy} (hr : t.rs = s.rs) (hn : Y0l t.bs = Y0l s.bs) : matS t = matS s := by
 have e : ∀ u : Sy, matS u = (Y0l u.bs).map fun nm => u.rs.map fun r => pull nm r.hs := fun u => by unfold matS Y0l; rw [List.map_map]; rfl
 rw [e, e, hn, hr]
def Yuj (r : Rp) : Rp := ⟨r.nm, r.hs.reverse, false⟩
def Y106 (s : Sy) (i : Nat) : Sy := ⟨s.bs, match s.rs[i]? with | some r => s.rs.set i (Yuj r) | none => s.rs⟩
theorem Y3f {bs : List Bk} {hs : List Hd} : Y21 bs hs = true ↔ ∀ (i : Nat) (h : Hd), hs[i]? = some h → Y0q bs h (endH hs.length i) = true := by
 unfold Y21
 rw [List.all_eq_true]
 constructor
 ·intro h i x hi
  have := h i (List.mem_range.2 (List.getElem?_eq_some_iff.1 hi).1)
  rw [hi] at this
  exact this
 ·intro h i hi
  rw [List.mem_range] at hi
  rw [List.getElem?_eq_getElem hi]
  exact h i _ (List.getElem?_eq_getElem hi)
theorem Yhp {bs : List Bk} {hs : List Hd} (h : Y21 bs hs = true) : Y21 bs hs.reverse = true := Y3f.2 fun i x hi => by
 have hl := (List.getElem?_eq_some_iff.1 hi).1
 rw [List.length_reverse] at hl
 have := Y3f.1 h _ x (Ywi hi)
 have e : endH hs.reverse.length i = endH hs.length (hs.length - 1 - i) := by
  unfold endH
  rw [List.length_reverse, Bool.eq_iff_iff]
  simp only [Bool.or_eq_true, beq_iff_eq]
  omega
 rw [e]
 exact this
theorem Ybg {l : List Rp} {i : Nat} {x y : Rp} (h : l[i]? = some x) (hy : y.hl = false) : Y3v (l.set i y) ≤ Y3v l := by
 unfold Y3v
 obtain ⟨hi, e⟩ := List.getElem?_eq_some_iff.1 h
 rw [List.set_eq_take_append_cons_drop, if_pos hi]
 conv => rhs; rw [← List.take_append_drop i l, List.drop_eq_getElem_cons hi]
 simp only [List.filter_append, List.length_append, List.filter_cons, hy]
 simp only [Bool.false_eq_true, if_false]
 split <;> simp
theorem VS.back {s : Sy} (h : VS s) (i : Nat) : VS (Y106 s i) := by
 unfold Y106
 cases hi : s.rs[i]? with
 | none => exact h
 | some r =>
  have hil := (List.getElem?_eq_some_iff.1 hi).1
  have hrm := List.mem_of_getElem? hi
  have hnm : Y18 (s.rs.set i (Yuj r)) = Y18 s.rs := by
   unfold Y18
   rw [List.map_set]
   refine List.ext_getElem? fun k => ?_
   by_cases e : i = k
   ·subst e
    rw [List.getElem?_set_self (by simpa using hil), List.getElem?_map, hi]
    rfl
   ·rw [List.getElem?_set_ne e]
  refine ⟨h.b, by simpa using h.r, by show (Y0l s.bs ++ Y18 (s.rs.set i (Yuj r))).Nodup; rw [hnm]; exact h.nd, h.bk, fun x hx => ?_, Nat.le_trans (Ybg hi rfl) h.h⟩
  rcases List.mem_or_eq_of_mem_set hx with hx | rfl
  ·exact h.rp x hx
  ·obtain ⟨a1, a2⟩ := h.rp r hrm
   refine ⟨a1, ?_⟩
   unfold Y1g at a2 ⊢
   simp only [Bool.and_eq_true, decide_eq_true_eq] at a2 ⊢
   refine ⟨⟨by simpa [Yuj] using a2.1.1, ?_⟩, rfl⟩
   exact Yhp a2.1.2
section
variable {m : List (List Int)} {right other : List Int}
theorem SolQ.add {Z Y : Nat → Int} {D E : Int} (h : SolQ m right Z D) (k : SolQ m other Y E) : SolQ m (zipA right other) (fun j => Z j * E + Y j * D) (D * E) := fun i r b hi hb => by
 obtain ⟨p, q, hp, hq, rfl⟩ := Yvt hb
 rw [Yh4 (Lin.at_ r) Z Y E D, h i r p hi hp, k i r q hi hq, Int.mul_add]
 ac_rfl
theorem SolQ.less (hl : other.length = right.length) {Z Y : Nat → Int} {D E : Int} (h : SolQ m right Z D) (k : SolQ m (zipA right other) Y E) : SolQ m other (fun j => Y j * D + Z j * (-E)) (D * E) := fun i r b hi hb => by
 have hil := (List.getElem?_eq_some_iff.1 hb).1
 obtain ⟨p, hp⟩ : ∃ p, right[i]? = some p := ⟨_, List.getElem?_eq_getElem (by omega)⟩
 have hz : (zipA right other)[i]? = some (p + b) := by
  unfold zipA
  rw [List.getElem?_zipWith, hp, hb]
 rw [Yh4 (Lin.at_ r) Y Z D (-E), h i r p hi hp, k i r _ hi hz]
 grind
variable (hv : Y1c m = true) (hr : right.length = m.length) (ho : other.length = m.length) (hw : Y0u right 67108864 = true) (hwo : Y0u other 67108864 = true) (hws : Y0u (zipA right other) 67108864 = true)
include hv hr ho hw hwo hws
end
theorem Yz1 (s : Bool) (n : Nat) : (sg s (n : Int)).natAbs = n := by unfold sg; cases s <;> simp
theorem Yww {x : Int × Int} (hx : Y09 x.1 x.2 = true) {a d : Nat} {s : Bool} (hd : 0 < d) (h : x.1 * (d : Int) = sg s a * x.2) : Y1o a s d = (x, 0) := by
 obtain ⟨b1, b2, b3, b4, b5⟩ := Y0c hx
 have hn : x.1.natAbs * d = a * x.2.natAbs := by
  have := congrArg Int.natAbs h
  rwa [Int.natAbs_mul, Int.natAbs_mul, Int.natAbs_natCast, Yz1] at this
 rw [Ydp (p := x.1.natAbs) (q := x.2.natAbs) (by omega) hd b5 hn]
 unfold Y2l
 rw [if_neg (by omega)]
 have hd' : (0 : Int) < d := by omega
 have e2 : ((x.2.natAbs : Nat) : Int) = x.2 := Int.natAbs_of_nonneg (by omega)
 have hp := Int.mul_nonneg (Int.natCast_nonneg a) (show (0 : Int) ≤ x.2 by omega)
 have e1 : (if s = true then -((x.1.natAbs : Nat) : Int) else (x.1.natAbs : Int)) = x.1 := by
  cases s
  ·have h0 : 0 ≤ x.1 := by
    rcases Int.lt_or_le x.1 0 with hl | hl
    ·have := Int.mul_neg_of_neg_of_pos hl hd'
     simp only [sg, Bool.false_eq_true, if_false] at h
     omega
    ·exact hl
   simp only [Bool.false_eq_true, if_false]
   omega
  ·have h0 : x.1 ≤ 0 := by
    rcases Int.lt_or_le 0 x.1 with hl | hl
    ·have := Int.mul_pos hl hd'
     simp only [sg, if_true, Int.neg_mul] at h
     omega
    ·exact hl
   simp only [if_true]
   omega
 rw [e1, e2]
theorem Yxc {a b : Int × Int} (ha : Y09 a.1 a.2 = true) (hb : Y09 b.1 b.2 = true) : 0 < a.2.natAbs * b.2.natAbs ∧ ((a.2.natAbs * b.2.natAbs : Nat) : Int) = a.2 * b.2 := by
 have h1 := (Y0c ha).1
 have h2 := (Y0c hb).1
 exact ⟨Nat.mul_pos (by omega) (by omega), by rw [Int.natCast_mul, Int.natAbs_of_nonneg (by omega), Int.natAbs_of_nonneg (by omega)]⟩
theorem Yrl {a b : Int × Int} (ha : Y09 a.1 a.2 = true) (hb : Y09 b.1 b.2 = true) : ∃ (s : Bool) (z : Nat), addR a b = Y1o z s (a.2.natAbs * b.2.natAbs) ∧ sg s (z : Int) = a.1 * b.2 + b.1 * a.2 := by
 obtain ⟨a1, _⟩ := Y0c ha
 obtain ⟨b1, _⟩ := Y0c hb
 have x1 : ((a.1.natAbs * b.2.natAbs : Nat) : Int) = (a.1.natAbs : Int) * b.2 := by rw [Int.natCast_mul, Int.natAbs_of_nonneg (by omega : 0 ≤ b.2)]
 have y1 : ((b.1.natAbs * a.2.natAbs : Nat) : Int) = (b.1.natAbs : Int) * a.2 := by rw [Int.natCast_mul, Int.natAbs_of_nonneg (by omega : 0 ≤ a.2)]
 have sa := Ygu a.1
 have sb := Ygu b.1
 by_cases h1 : decide (a.1 < 0) = decide (b.1 < 0)
 ·refine ⟨decide (a.1 < 0), a.1.natAbs * b.2.natAbs + b.1.natAbs * a.2.natAbs, by unfold addR; rw [if_pos h1], ?_⟩
  rw [Int.natCast_add, x1, y1]
  rw [← h1] at sb
  conv => rhs; rw [sa, sb]
  unfold sg
  cases decide (a.1 < 0)
  ·simp
  ·simp [Int.neg_mul, Int.neg_add]
 ·by_cases h2 : a.1.natAbs * b.2.natAbs < b.1.natAbs * a.2.natAbs
  ·refine ⟨decide (b.1 < 0), b.1.natAbs * a.2.natAbs - a.1.natAbs * b.2.natAbs, by unfold addR; rw [if_neg h1, if_pos h2], ?_⟩
   rw [Int.natCast_sub (by omega), x1, y1]
   conv => rhs; rw [sa, sb]
   rw [Y5l, Y5l]
   clear sa sb x1 y1
   generalize (a.1.natAbs : Int) * b.2 = P
   generalize (b.1.natAbs : Int) * a.2 = R
   exact Ynz h1 P R
  ·refine ⟨decide (a.1 < 0), a.1.natAbs * b.2.natAbs - b.1.natAbs * a.2.natAbs, by unfold addR; rw [if_neg h1, if_neg h2], ?_⟩
   rw [Int.natCast_sub (by omega), x1, y1]
   conv => rhs; rw [sa, sb]
   rw [Y5l, Y5l]
   clear sa sb x1 y1
   generalize (a.1.natAbs : Int) * b.2 = P
   generalize (b.1.natAbs : Int) * a.2 = R
   exact Yjd h1 P R
theorem Yy4 {a b x : Int × Int} {p q r s : Int} (ha : Val a p q) (hb : Val b r s) (hx : Val x (p * s + r * q) (q * s)) : addR a b = (x, 0) := by
 obtain ⟨hp, e1⟩ := Yxc ha.v hb.v
 obtain ⟨sn, z, e, hz⟩ := Yrl ha.v hb.v
 rw [e]
 refine Yww hx.v hp ?_
 rw [e1, hz]
 refine Y4i (c := q * s) (Int.mul_ne_zero ha.n0 hb.n0) ?_
 have h1 := ha.e
 have h2 := hb.e
 have h3 := hx.e
 calc x.1 * (a.2 * b.2) * (q * s) = x.1 * (q * s) * (a.2 * b.2) := by ac_rfl
  _ = (p * s + r * q) * x.2 * (a.2 * b.2) := by rw [h3]
  _ = ((p * a.2) * (s * b.2) + (r * b.2) * (q * a.2)) * x.2 := by grind
  _ = ((a.1 * q) * (s * b.2) + (b.1 * s) * (q * a.2)) * x.2 := by rw [h1, h2]
  _ = (a.1 * b.2 + b.1 * a.2) * x.2 * (q * s) := by grind
theorem Val.num {b : Int × Int} {r s : Int} (k : Val b r s) : b.1 = 0 ↔ r = 0 := by
 have h := k.e
 constructor
 ·intro e
  rw [e, Int.zero_mul] at h
  exact (Int.mul_eq_zero.1 h.symm).resolve_right k.d
 ·intro e
  rw [e, Int.zero_mul] at h
  exact (Int.mul_eq_zero.1 h).resolve_right k.n0
theorem Val.recip {b : Int × Int} {r s : Int} (k : Val b r s) (h0 : r ≠ 0) : Val (recip b) s r := by
 refine ⟨Y7g k.v fun e => h0 (k.num.1 e), h0, ?_⟩
 have he := k.e
 unfold T.recip
 split
 ·simp only [Int.neg_mul, Int.mul_neg]
  rw [Int.mul_comm b.2, Int.mul_comm s, he]
 ·simp only
  rw [Int.mul_comm b.2, Int.mul_comm s, he]
theorem Yec {a b : Int × Int} (ha : Y09 a.1 a.2 = true) (hb : Y09 b.1 b.2 = true) : divP a b = divR a b := by unfold divP; rw [if_pos ⟨ha, hb⟩]
theorem Y7y {a b : Int × Int} (h : (divP a b).2 = 0) : Y09 a.1 a.2 = true ∧ Y09 b.1 b.2 = true ∧ b.1 ≠ 0 ∧ divP a b = divR a b := by
 unfold divP at h
 split at h
 ·rename_i h1
  refine ⟨h1.1, h1.2, fun e => ?_, Yec h1.1 h1.2⟩
  rw [Yeb e] at h
  simp at h
 ·simp at h
def Ynh (nm : ByteArray) (b : Bk) : Bk := ⟨b.nm, if b.nm = nm then 1 else 0⟩
def Y2i (s : Sy) (nm : ByteArray) : Sy := ⟨s.bs.map (Ynh nm), s.rs⟩
def Ylj (n : Int) (s : Sy) : (Int × Int) × Int := if (Y5w s).2 = 0 then divP (n, 1) (Y5w s).1 else ((0, 0), (Y5w s).2)
def forP (s : Sy) (nm : ByteArray) : (Int × Int) × Int := if Y0g s = true then (if Y1k s.bs nm < 0 then ((0, 0), 9) else Ylj 1 (Y2i s nm)) else ((0, 0), 1)
theorem Ybn (s : Sy) (nm : ByteArray) : Y0l (Y2i s nm).bs = Y0l s.bs := by simp [Y0l, Y2i, Ynh]
theorem Yd2 (s : Sy) (nm : ByteArray) : (Y2i s nm).bs.length = s.bs.length := by simp [Y2i]
theorem Yg6 {s : Sy} (h : (Y5w s).2 = 0) : Y0g s = true ∧ (Y2k s).2 = 0 ∧ ∃ (i : Nat) (r : Rp), hix s = (i : Int) ∧ s.rs[i]? = some r ∧ r.hl = true ∧ (Y2k s).1[i]? = some (Y5w s).1 ∧ ∃ Z D, D ≠ 0 ∧ SolQ (matS s) (wtsS s) Z D ∧ Val (Y5w s).1 (Z i) D := by
 unfold Y5w at h ⊢
 by_cases h1 : (Y2k s).2 = 0
 ·rw [if_pos h1] at h ⊢
  by_cases h2 : hix s < 0
  ·rw [if_pos h2] at h
   simp at h
  ·rw [if_neg h2]
   obtain ⟨hv, hl⟩ := Ya0 h1
   obtain ⟨i, r, e, hr, hh⟩ := Y5v h2
   obtain ⟨_, Z, D, hD, hS, hV⟩ := Ys7 h1
   have hi := (List.getElem?_eq_some_iff.1 hr).1
   obtain ⟨f, hf⟩ : ∃ y, (Y2k s).1[i]? = some y := ⟨_, List.getElem?_eq_getElem (by omega)⟩
   have eg : (Y2k s).1.getD (hix s).toNat (0, 0) = f := by rw [e, Int.toNat_natCast, List.getD_eq_getElem?_getD, hf]; rfl
   refine ⟨hv, h1, i, r, e, hr, hh, ?_, Z, D, hD, hS, ?_⟩
   ·rw [eg]; exact hf
   ·rw [eg]; exact hV i f hf
 ·rw [if_neg h1] at h
  exact absurd h h1
theorem Yk3 {s : Sy} {nm : ByteArray} (h : ¬ Y1k s.bs nm < 0) : ∃ (j : Nat) (b : Bk), Y1k s.bs nm = j ∧ s.bs[j]? = some b ∧ b.nm = nm := Yav (by omega)
theorem Yrj {s : Sy} (ok : OkS s) {nm : ByteArray} {j : Nat} {b : Bk} (hb : s.bs[j]? = some b) (hn : b.nm = nm) {k : Nat} (hk : k < s.bs.length) : Lin.at_ (wtsS (Y2i s nm)) k = if j = k then 1 else 0 := by
 have hc : s.bs[k]? = some s.bs[k] := List.getElem?_eq_getElem hk
 have : (Y2i s nm).bs[k]? = some (Ynh nm s.bs[k]) := by simp [Y2i, hc]
 rw [Y107 this]
 by_cases e : j = k
 ·subst e
  rw [hb, Option.some.injEq] at hc
  rw [if_pos rfl]
  simp only [Ynh]
  rw [← hc, if_pos hn]
 ·rw [if_neg e]
  simp only [Ynh]
  rw [if_neg]
  intro h
  exact e (ok.inj j k b s.bs[k] hb hc (by rw [hn, h]))
theorem Yxu {s : Sy} {i : Nat} {r : Rp} (he : hix s = (i : Int)) (hr : s.rs[i]? = some r) {k : Nat} (hk : k < s.rs.length) : Lin.at_ (Y2j s) k = if i = k then 1 else 0 := by
 unfold Y2j Lin.at_
 rw [he, Int.toNat_natCast, List.getElem?_set]
 split
 ·rename_i e
  rw [if_pos (by rw [List.length_replicate]; omega)]
  rfl
 ·rw [List.getElem?_replicate, if_pos hk]
  rfl
theorem Ynk {s t : Sy} (hr : t.rs = s.rs) (hn : Y0l t.bs = Y0l s.bs) : trS t = trS s := by
 have hb : t.bs.length = s.bs.length := by rw [← Ygq, ← Ygq, hn]
 unfold trS
 rw [Yc4 hr hn, hr]
theorem Yup {s : Sy} {nm : ByteArray} (h1 : (forP s nm).2 = 0) (h2 : (Y4c s nm).2 = 0) : (forP s nm).1 = (Y4c s nm).1 ∧ (forP s nm).1.1 ≠ 0 := by
 unfold forP at h1 ⊢
 unfold Y4c at h2 ⊢
 by_cases hv : Y0g s = true
 rotate_left 1
 ·rw [if_neg hv] at h1; simp at h1
 rw [if_pos hv] at h1 h2 ⊢
 rw [if_pos hv]
 by_cases hb : Y1k s.bs nm < 0
 ·rw [if_pos hb] at h1; simp at h1
 rw [if_neg hb] at h1 h2 ⊢
 rw [if_neg hb]
 by_cases hx : hix s < 0
 ·rw [if_pos hx] at h2; simp at h2
 rw [if_neg hx] at h2 ⊢
 by_cases hs : (Y0x s (Y2j s)).2 = 0
 rotate_left 1
 ·rw [if_neg hs] at h2; exact absurd h2 hs
 rw [if_pos hs] at h2 ⊢
 unfold Ylj at h1 ⊢
 by_cases hh : (Y5w (Y2i s nm)).2 = 0
 rotate_left 1
 ·rw [if_neg hh] at h1; exact absurd h1 hh
 rw [if_pos hh] at h1 ⊢
 have ok := Y0h hv
 obtain ⟨j, b, ej, hj, hn⟩ := Yk3 hb
 obtain ⟨hvu, _, i, r, ei, hr, _, _, Z, D, hD, hZ, hVt⟩ := Yg6 hh
 have oku := Y0h hvu
 obtain ⟨X, E, hE, hX, hl, hV⟩ := Ya2 hs
 have ei' : hix s = (i : Int) := ei
 have hr' : s.rs[i]? = some r := hr
 have hjl := (List.getElem?_eq_some_iff.1 hj).1
 have hil := (List.getElem?_eq_some_iff.1 hr').1
 obtain ⟨f, hf⟩ : ∃ y, (Y0x s (Y2j s)).1[j]? = some y := ⟨_, List.getElem?_eq_getElem (by omega)⟩
 have ef : (Y0x s (Y2j s)).1.getD (Y1k s.bs nm).toNat (0, 0) = f := by rw [ej, Int.toNat_natCast, List.getD_eq_getElem?_getD, hf]; rfl
 rw [ef] at h2 ⊢
 have hVf := hV j f hf
 have etr : trS (Y2i s nm) = trS s := Ynk rfl (Ybn s nm)
 have hX' : SolQ (trS (Y2i s nm)) (Y2j s) X E := by rw [etr]; exact hX
 have hw := oku.virtual (h := Y2j s) (by simp [Y2j, Y2i]) hZ hX'
 have hbl := Yd2 s nm
 have w1 : sumN (fun k => Lin.at_ (wtsS (Y2i s nm)) k * X k) (Y2i s nm).bs.length = X j := by
  rw [hbl, Y0s (G := fun k => X k * (if j = k then 1 else 0)) _ fun k hk => by rw [Yrj ok hj hn hk, Int.mul_comm], Yf5 _ _ _ _ hjl, Int.mul_one]
 have w2 : sumN (fun k => Lin.at_ (Y2j s) k * Z k) (Y2i s nm).rs.length = Z i := by
  show sumN (fun k => Lin.at_ (Y2j s) k * Z k) s.rs.length = Z i
  rw [Y0s (G := fun k => Z k * (if i = k then 1 else 0)) _ fun k hk => by rw [Yxu ei' hr' hk, Int.mul_comm], Yf5 _ _ _ _ hil, Int.mul_one]
 rw [w1, w2] at hw
 obtain ⟨v1, v2, n1, d1⟩ := Y7y h1
 obtain ⟨_, u2, n2, d2⟩ := Y7y h2
 rw [d1] at h1 ⊢
 rw [d2] at h2 ⊢
 have a1 := (Val.one (n := 1) (by decide)).div hVt n1 h1
 have a2 := (Val.one (n := 1) (by decide)).div hVf n2 h2
 refine ⟨a1.eq a2 ?_, fun e => ?_⟩
 ·simp only [Int.one_mul]
  rw [Int.mul_comm D, Int.mul_comm E]
  exact hw
 ·have := a1.num.1 e
  rw [Int.one_mul] at this
  exact hD this
end Go.Proofs.YtpbpafmgkdihlaaGreatDoor.T
