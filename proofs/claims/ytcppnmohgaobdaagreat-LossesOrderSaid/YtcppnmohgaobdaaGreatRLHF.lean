import Derived.Test.YtcppnmohgaobdaaGreatRWPJ
import Derived.Test.YtcppnmohgaobdaaGreatRWZ
import Derived.Test.YtcppnmohgaobdaaGreatRLSA
import Derived.Test.YtcppnmohgaobdaaGreatRWJK
import Derived.Test.YtcppnmohgaobdaaGreatRLSJ
set_option linter.all false
section
section
namespace Go.Proofs.YtcppnmohgaobdaaGreat.T
open Go Go.RowKit Lin
theorem made_q {a d : Nat} {s : Bool} (hd : 0 < d) (h : (madeP a s d).2 = 0) : (madeP a s d).1.1 * (d : Int) = sg s a * (madeP a s d).1.2 := by
  have hg : 0 < Nat.gcd a d := Nat.gcd_pos_of_pos_right _ hd
  have e1 := Nat.div_mul_cancel (Nat.gcd_dvd_left a d)
  have e2 := Nat.div_mul_cancel (Nat.gcd_dvd_right a d)
  have e : madeP a s d = signP s (a / Nat.gcd a d) (d / Nat.gcd a d) := by unfold madeP; rw [if_neg (by omega)]
  rw [e] at h ⊢
  generalize a / Nat.gcd a d = n at *
  generalize d / Nat.gcd a d = k at *
  generalize Nat.gcd a d = g at *
  unfold signP at h ⊢
  split at h
  · simp at h
  · rename_i hs
    rw [if_neg hs, ← e1, ← e2]
    unfold sg
    cases s
    · simp only [Bool.false_eq_true, if_false, Int.natCast_mul]
      ac_rfl
    · simp only [if_true, Int.natCast_mul, Int.neg_mul]
      congr 1
      ac_rfl
theorem mul_q {a b : Int × Int} (ha : vfrac a.1 a.2 = true) (hb : vfrac b.1 b.2 = true) (h : (mulR a b).2 = 0) : (mulR a b).1.1 * (a.2 * b.2) = a.1 * b.1 * (mulR a b).1.2 := by
  obtain ⟨a1, _⟩ := fr_bounds ha
  obtain ⟨b1, _⟩ := fr_bounds hb
  have hq := made_q (s := decide (a.1 < 0) != decide (b.1 < 0)) (a := a.1.natAbs * b.1.natAbs) (d := a.2.natAbs * b.2.natAbs) (Nat.mul_pos (by omega) (by omega)) h
  have e1 : ((a.2.natAbs * b.2.natAbs : Nat) : Int) = a.2 * b.2 := by
    rw [Int.natCast_mul, Int.natAbs_of_nonneg (by omega), Int.natAbs_of_nonneg (by omega)]
  have e2 : sg (decide (a.1 < 0) != decide (b.1 < 0)) ((a.1.natAbs * b.1.natAbs : Nat) : Int) = a.1 * b.1 := by
    rw [sg_mul a.1 b.1, Int.natCast_mul]
  rw [e1, e2] at hq
  exact hq
theorem abs_sg (a : Int) : a = sg (decide (a < 0)) (a.natAbs : Int) := by
  unfold sg
  by_cases h : a < 0
  · rw [if_pos (by simpa using h)]; omega
  · rw [if_neg (by simpa using h)]; omega
theorem sg_mulr (s : Bool) (a b : Int) : sg s a * b = sg s (a * b) := by
  unfold sg; cases s <;> simp [Int.neg_mul]
theorem sg_diff {p q : Bool} (h : ¬ p = q) (P R : Int) : sg q (R - P) = sg p P + sg q R := by
  unfold sg; cases p <;> cases q <;> simp at h ⊢ <;> omega
theorem sg_diff2 {p q : Bool} (h : ¬ p = q) (P R : Int) : sg p (P - R) = sg p P + sg q R := by
  unfold sg; cases p <;> cases q <;> simp at h ⊢ <;> omega
theorem add_q {a b : Int × Int} (ha : vfrac a.1 a.2 = true) (hb : vfrac b.1 b.2 = true) (h : (addR a b).2 = 0) : (addR a b).1.1 * (a.2 * b.2) = (a.1 * b.2 + b.1 * a.2) * (addR a b).1.2 := by
  obtain ⟨a1, _⟩ := fr_bounds ha
  obtain ⟨b1, _⟩ := fr_bounds hb
  have hp : 0 < a.2.natAbs * b.2.natAbs := Nat.mul_pos (by omega) (by omega)
  have e1 : ((a.2.natAbs * b.2.natAbs : Nat) : Int) = a.2 * b.2 := by
    rw [Int.natCast_mul, Int.natAbs_of_nonneg (by omega), Int.natAbs_of_nonneg (by omega)]
  have x1 : ((a.1.natAbs * b.2.natAbs : Nat) : Int) = (a.1.natAbs : Int) * b.2 := by rw [Int.natCast_mul, Int.natAbs_of_nonneg (by omega : 0 ≤ b.2)]
  have y1 : ((b.1.natAbs * a.2.natAbs : Nat) : Int) = (b.1.natAbs : Int) * a.2 := by rw [Int.natCast_mul, Int.natAbs_of_nonneg (by omega : 0 ≤ a.2)]
  have sa := abs_sg a.1
  have sb := abs_sg b.1
  have key : ∀ (s : Bool) (z : Nat), addR a b = madeP z s (a.2.natAbs * b.2.natAbs) → sg s (z : Int) = a.1 * b.2 + b.1 * a.2 → (addR a b).1.1 * (a.2 * b.2) = (a.1 * b.2 + b.1 * a.2) * (addR a b).1.2 := fun s z hz hv => by
    rw [hz] at h ⊢
    have := made_q hp h
    rw [e1, hv] at this
    exact this
  by_cases h1 : decide (a.1 < 0) = decide (b.1 < 0)
  · refine key (decide (a.1 < 0)) (a.1.natAbs * b.2.natAbs + b.1.natAbs * a.2.natAbs) (by unfold addR; rw [if_pos h1]) ?_
    rw [Int.natCast_add, x1, y1]
    rw [← h1] at sb
    conv => rhs; rw [sa, sb]
    unfold sg
    cases decide (a.1 < 0)
    · simp
    · simp [Int.neg_mul, Int.neg_add]
  · by_cases h2 : a.1.natAbs * b.2.natAbs < b.1.natAbs * a.2.natAbs
    · refine key (decide (b.1 < 0)) (b.1.natAbs * a.2.natAbs - a.1.natAbs * b.2.natAbs) (by unfold addR; rw [if_neg h1, if_pos h2]) ?_
      rw [Int.natCast_sub (by omega), x1, y1]
      conv => rhs; rw [sa, sb]
      rw [sg_mulr, sg_mulr]
      clear sa sb key x1 y1
      generalize (a.1.natAbs : Int) * b.2 = P
      generalize (b.1.natAbs : Int) * a.2 = R
      exact sg_diff h1 P R
    · refine key (decide (a.1 < 0)) (a.1.natAbs * b.2.natAbs - b.1.natAbs * a.2.natAbs) (by unfold addR; rw [if_neg h1, if_neg h2]) ?_
      rw [Int.natCast_sub (by omega), x1, y1]
      conv => rhs; rw [sa, sb]
      rw [sg_mulr, sg_mulr]
      clear sa sb key x1 y1
      generalize (a.1.natAbs : Int) * b.2 = P
      generalize (b.1.natAbs : Int) * a.2 = R
      exact sg_diff2 h1 P R
def sumN (F : Nat → Int) : Nat → Int
  | 0 => 0
  | n + 1 => F n + sumN F n
theorem sumN_congr {F G : Nat → Int} : ∀ n, (∀ k, k < n → F k = G k) → sumN F n = sumN G n
  | 0, _ => rfl
  | n + 1, h => by simp only [sumN]; rw [h n (by omega), sumN_congr n fun k hk => h k (by omega)]
theorem sumN_add (F G : Nat → Int) : ∀ n, sumN (fun k => F k + G k) n = sumN F n + sumN G n
  | 0 => rfl
  | n + 1 => by simp only [sumN]; rw [sumN_add F G n]; omega
theorem sumN_mul (c : Int) (F : Nat → Int) : ∀ n, sumN (fun k => c * F k) n = c * sumN F n
  | 0 => by simp [sumN]
  | n + 1 => by simp only [sumN]; rw [sumN_mul c F n, Int.mul_add]
theorem sumN_zero : ∀ n, sumN (fun _ => 0) n = 0
  | 0 => rfl
  | n + 1 => by simp only [sumN]; rw [sumN_zero n]; rfl
theorem sumN_head (F : Nat → Int) : ∀ n, sumN F (n + 1) = F 0 + sumN (fun k => F (k + 1)) n
  | 0 => rfl
  | n + 1 => by
    rw [sumN, sumN_head F n]
    simp only [sumN]
    omega
theorem cancel {a b c : Int} (hc : c ≠ 0) (h : a * c = b * c) : a = b := Int.eq_of_mul_eq_mul_right hc h
theorem dot_q (den : Int) (hden : den ≠ 0) : ∀ (r : List Int) (x : List (Int × Int)) (X : Nat → Int) (s : Int × Int) (S : Int), r.length = x.length → (∀ n ∈ r, -32 ≤ n ∧ n ≤ 32) → allV x = true → (∀ k f, x[k]? = some f → f.1 * den = X k * f.2) → vfrac s.1 s.2 = true → s.1 * den = S * s.2 →
    ((dotF r x s).2 = 0 ∧ vfrac (dotF r x s).1.1 (dotF r x s).1.2 = true ∧ (dotF r x s).1.1 * den = (S + sumN (fun k => at_ r k * X k) r.length) * (dotF r x s).1.2) ∨ (dotF r x s).2 = 5
  | [], [], X, s, S, _, _, _, _, hs, hS => .inl ⟨rfl, hs, by simp only [dotF, List.length_nil, sumN, Int.add_zero]; exact hS⟩
  | [], _ :: _, _, _, _, h, _, _, _, _, _ => by simp at h
  | _ :: _, [], _, _, _, h, _, _, _, _, _ => by simp at h
  | n :: r, f :: x, X, s, S, hl, hr, hx, hX, hs, hS => by
    have hn : vfrac n 1 = true := vfrac_one (by have := hr n (by simp); omega)
    have hxs : allV (f :: x) = (vfrac f.1 f.2 && allV x) := rfl
    rw [hxs, Bool.and_eq_true] at hx
    obtain ⟨f1, f2, f3, f4, f5⟩ := fr_bounds hx.1
    obtain ⟨s1, _⟩ := fr_bounds hs
    have hm := mulP_ok (a := (n, 1)) (b := f) hn hx.1
    have big : ∀ (a d : Nat) (b : Bool), 0 < d → (madeP a b d).2 = 0 ∨ (madeP a b d).2 = 5 := fun a d b hd => by
      unfold madeP signP
      rw [if_neg (by omega)]
      split <;> simp
    simp only [dotF]
    rw [hm]
    by_cases z1 : (mulR (n, 1) f).2 = 0
    rotate_left 1
    · rw [if_neg z1]
      right
      exact (big _ _ _ (Nat.mul_pos (by simp) (by omega))).resolve_left z1
    rw [if_pos z1]
    have hq := mul_q hn hx.1 z1
    have hv := mulR_valid hn hx.1 z1
    generalize (mulR (n, 1) f).1 = t at *
    obtain ⟨t1, _⟩ := fr_bounds hv
    have ha := addP_ok hs hv
    rw [ha]
    by_cases z2 : (addR s t).2 = 0
    rotate_left 1
    · rw [if_neg z2]
      right
      have hp : 0 < s.2.natAbs * t.2.natAbs := Nat.mul_pos (by omega) (by omega)
      refine Or.resolve_left ?_ z2
      unfold addR
      split
      · exact big _ _ _ hp
      · split <;> exact big _ _ _ hp
    rw [if_pos z2]
    have hq2 := add_q hs hv z2
    have hv2 := addR_valid hs hv z2
    generalize (addR s t).1 = w at *
    have h0 := hX 0 f (by simp)
    have ht : t.1 * den = n * X 0 * t.2 := by
      refine cancel (c := f.2) (by omega) ?_
      simp only [Int.one_mul] at hq
      calc t.1 * den * f.2 = (t.1 * f.2) * den := by ac_rfl
        _ = (n * f.1 * t.2) * den := by rw [hq]
        _ = n * t.2 * (f.1 * den) := by ac_rfl
        _ = n * t.2 * (X 0 * f.2) := by rw [h0]
        _ = n * X 0 * t.2 * f.2 := by ac_rfl
    have hw : w.1 * den = (S + n * X 0) * w.2 := by
      refine cancel (c := s.2 * t.2) (Int.ne_of_gt (Int.mul_pos (by omega) (by omega))) ?_
      calc w.1 * den * (s.2 * t.2) = (w.1 * (s.2 * t.2)) * den := by ac_rfl
        _ = ((s.1 * t.2 + t.1 * s.2) * w.2) * den := by rw [hq2]
        _ = (s.1 * den * t.2 + t.1 * den * s.2) * w.2 := by rw [Int.add_mul, Int.add_mul, Int.add_mul]; ac_rfl
        _ = (S * s.2 * t.2 + n * X 0 * t.2 * s.2) * w.2 := by rw [hS, ht]
        _ = (S + n * X 0) * w.2 * (s.2 * t.2) := by rw [Int.add_mul, Int.add_mul, Int.add_mul]; ac_rfl
    have ih := dot_q den hden r x (fun k => X (k + 1)) w (S + n * X 0) (by simpa using hl) (fun y hy => hr y (List.mem_cons_of_mem _ hy)) hx.2 (fun k g hg => hX (k + 1) g (by simpa using hg)) hv2 hw
    refine ih.imp ?_ id
    rintro ⟨k1, k2, k3⟩
    refine ⟨k1, k2, ?_⟩
    rw [k3, List.length_cons, sumN_head]
    have e0 : at_ (n :: r) 0 = n := rfl
    have e1 : (fun k => at_ (n :: r) (k + 1) * X (k + 1)) = fun k => at_ r k * X (k + 1) := by
      funext k; simp [at_]
    rw [e0, e1]
    congr 1
    omega
theorem whole {s : Int × Int} {den b : Int} (hs : vfrac s.1 s.2 = true) (hden : den ≠ 0) (h : s.1 * den = b * den * s.2) : s = (b, 1) := by
  obtain ⟨s1, _, _, _, s5⟩ := fr_bounds hs
  have e : s.1 = b * s.2 := cancel hden (by rw [h]; ac_rfl)
  have hd : s.2.natAbs ∣ s.1.natAbs := by rw [e, Int.natAbs_mul]; exact Nat.dvd_mul_left _ _
  have h1 : s.2.natAbs = 1 := by
    have := Nat.dvd_gcd hd (Nat.dvd_refl _)
    have e5 : Nat.gcd s.1.natAbs s.2.natAbs = 1 := s5
    rw [e5] at this
    exact Nat.dvd_one.1 this
  have h2 : s.2 = 1 := by omega
  rw [h2, Int.mul_one] at e
  exact Prod.ext e h2
end Go.Proofs.YtcppnmohgaobdaaGreat.T
end
section
namespace Go.Proofs.YtcppnmohgaobdaaGreat.T
open Go Go.RowKit Lin
def dsum (g : Nat → Int) (S : List Row) (j : Nat) : List Nat → List Nat → Int
  | _, [] => 0
  | pre, c :: r => g c * w S (pre ++ j :: r) + dsum g S j (pre ++ [c]) r
theorem sgn_add (n : Nat) (x y : Int) : sgn n (x + y) = sgn n x + sgn n y := by
  induction n with
  | zero => rfl
  | succ n ih => simp only [sgn]; rw [ih]; omega
theorem sgn_neg (n : Nat) (x : Int) : sgn n (-x) = - sgn n x := by
  induction n with
  | zero => rfl
  | succ n ih => simp only [sgn]; rw [ih]
theorem ex_dsum (g : Nat → Int) (S : List Row) (j : Nat) : ∀ (C pre : List Nat), sgn pre.length (ex (fun c rest => g c * w S (j :: (pre ++ rest))) C) = dsum g S j pre C
  | [], pre => by simp only [ex, dsum]; exact sgn_zero _
  | c :: r, pre => by
    have ih := ex_dsum g S j r (pre ++ [c])
    have e : (fun d r' => g d * w S (j :: (pre ++ c :: r'))) = fun d r' => g d * w S (j :: ((pre ++ [c]) ++ r')) := by
      funext d r'; simp
    have hf := w_front S j [] pre r
    simp only [List.nil_append] at hf
    simp only [ex, dsum]
    rw [e, ← ih, hf, Int.sub_eq_add_neg, sgn_add, sgn_mul, List.length_append]
    congr 1
    simp only [List.length_cons, List.length_nil, sgn]
    exact sgn_neg _ _
def tsum (g F : Nat → Int) : List Nat → Int
  | [] => 0
  | c :: r => g c * F r.length + tsum g F r
theorem dsum_tsum {M : List (List Int)} {wd c : Nat} {f : Frm} (h : Lin.Inv M wd c f) (g : Nat → Int) {j : Nat} (hj : j < wd) : ∀ (C pre : List Nat), CC f = pre ++ C → dsum g (SS M f) j pre C = tsum g (fun k => Lin.at_ (Lin.row f.rows k) j) C
  | [], _, _ => rfl
  | c :: r, pre, e => by
    simp only [dsum, tsum]
    rw [h.piv pre r c e j hj, dsum_tsum h g hj r (pre ++ [c]) (by rw [e]; simp)]
theorem tsum_sumN (g F : Nat → Int) (l : List Nat) : ∀ i, i ≤ l.length → tsum g F (l.take i).reverse = sumN (fun k => g ((l[k]?).getD 0) * F k) i
  | 0, _ => rfl
  | i + 1, hi => by
    have hl : l[i]? = some l[i] := List.getElem?_eq_getElem (by omega)
    rw [List.take_add_one, hl, Option.toList_some, List.reverse_append, List.reverse_cons, List.reverse_nil, List.nil_append, List.cons_append, List.nil_append]
    simp only [tsum, sumN, List.length_reverse]
    rw [tsum_sumN g F l i (by omega), hl, List.length_take, Nat.min_eq_left (by omega)]
    rfl
theorem van_sum {M : List (List Int)} {wd c : Nat} {f : Frm} (h : Lin.Inv M wd c f) {j : Nat} (hj : j < wd) (hv : Van (M.map Lin.at_) (SS M f) (CC f) j) {s : List Int} (hs : s ∈ M) :
    Lin.at_ s j * f.den = sumN (fun k => Lin.at_ s ((f.pivots[k]?).getD 0) * Lin.at_ (Lin.row f.rows k) j) f.pivots.length := by
  have e := hv (Lin.at_ s) (List.mem_map.2 ⟨s, hs, rfl⟩)
  have e2 := w_cons_cons (Lin.at_ s) (SS M f) j (CC f)
  rw [show w (Lin.at_ s :: SS M f) (j :: CC f) = 0 from e] at e2
  have e3 := ex_dsum (Lin.at_ s) (SS M f) j (CC f) []
  simp only [List.length_nil, List.nil_append, sgn] at e3
  rw [dsum_tsum h (Lin.at_ s) hj (CC f) [] (by simp)] at e3
  have e4 := tsum_sumN (Lin.at_ s) (fun k => Lin.at_ (Lin.row f.rows k) j) f.pivots f.pivots.length (Nat.le_refl _)
  rw [List.take_of_length_le (Nat.le_refl _)] at e4
  rw [← e4, h.den]
  rw [show f.pivots.reverse = CC f from rfl, ← e3]
  omega
theorem full_sum {M : List (List Int)} {wd n : Nat} {f : Frm} (h : Lin.Inv M wd n f) (hk : f.pivots.length = n) {j : Nat} (hj : j < wd) (hv : Van (M.map Lin.at_) (SS M f) (CC f) j) {s : List Int} (hs : s ∈ M) :
    Lin.at_ s j * f.den = sumN (fun k => Lin.at_ s k * Lin.at_ (Lin.row f.rows k) j) n := by
  have hp := pivots_full n f.pivots h.nd h.lt hk
  rw [van_sum h hj hv hs, hk]
  refine sumN_congr n fun k hkn => ?_
  rw [hp]
  simp [hkn]
end Go.Proofs.YtcppnmohgaobdaaGreat.T
end
section
namespace Go.Proofs.YtcppnmohgaobdaaGreat.T
open Go Go.RowKit Lin
theorem makeP_q {n d : Int} (hd : d ≠ 0) (h : (makeP n d).2 = 0) : vfrac (makeP n d).1.1 (makeP n d).1.2 = true ∧ (makeP n d).1.1 * d = n * (makeP n d).1.2 := by
  rw [make_made] at h ⊢
  have hp : 0 < d.natAbs := by omega
  refine ⟨madeP_valid hp h, ?_⟩
  have hq := made_q hp h
  generalize (madeP n.natAbs (decide (n < 0) != decide (d < 0)) d.natAbs).1 = r at *
  have sn := abs_sg n
  by_cases h1 : d < 0
  · have e : (d.natAbs : Int) = -d := by omega
    rw [e, decide_eq_true h1] at hq
    have e2 : sg (decide (n < 0) != true) (n.natAbs : Int) = -n := by
      conv => rhs; rw [sn]
      unfold sg
      cases decide (n < 0) <;> simp
    rw [e2, Int.mul_neg, Int.neg_mul] at hq
    omega
  · have e : (d.natAbs : Int) = d := by omega
    rw [e, decide_eq_false h1] at hq
    have e2 : sg (decide (n < 0) != false) (n.natAbs : Int) = n := by
      conv => rhs; rw [sn]
      cases decide (n < 0) <;> rfl
    rw [e2] at hq
    exact hq
theorem prodA_vals (x : List (Int × Int)) : ∀ (m : List (List Int)) (bs : List Int) (acc : List (Int × Int)), m.length = bs.length → (∀ (i : Nat) (r : List Int) (b : Int), m[i]? = some r → bs[i]? = some b → dotF r x (0, 1) = ((b, 1), 0) ∨ (dotF r x (0, 1)).2 = 5) →
    prodA x acc m = (acc ++ bs.map (fun b => (b, 1)), 0) ∨ prodA x acc m = ([], 5)
  | [], [], acc, _, _ => .inl (by simp [prodA])
  | [], _ :: _, _, h, _ => by simp at h
  | _ :: _, [], _, h, _ => by simp at h
  | r :: m, b :: bs, acc, hl, h => by
    simp only [prodA]
    rcases h 0 r b (by simp) (by simp) with e | e
    · rw [e, if_pos rfl]
      have ih := prodA_vals x m bs (acc ++ [(b, 1)]) (by simpa using hl) fun (i : Nat) (r' : List Int) (b' : Int) h1 h2 => h (i + 1) r' b' (by simpa using h1) (by simpa using h2)
      simpa using ih
    · rw [e, if_neg (by decide)]
      exact .inr rfl
theorem dot_whole {den : Int} (hden : den ≠ 0) {r : List Int} {x : List (Int × Int)} {X : Nat → Int} {b : Int} (hl : r.length = x.length) (hr : ∀ n ∈ r, -32 ≤ n ∧ n ≤ 32) (hx : allV x = true) (hX : ∀ (k : Nat) (f : Int × Int), x[k]? = some f → f.1 * den = X k * f.2) (hs : sumN (fun k => Lin.at_ r k * X k) r.length = b * den) :
    dotF r x (0, 1) = ((b, 1), 0) ∨ (dotF r x (0, 1)).2 = 5 := by
  rcases dot_q den hden r x X (0, 1) 0 hl hr hx hX (vfrac_one (by omega)) (by simp) with ⟨k1, k2, k3⟩ | k
  · left
    rw [Int.zero_add, hs] at k3
    exact Prod.ext (whole k2 hden k3) k1
  · exact .inr k
theorem sol_prod {m : List (List Int)} {right : List Int} (hv : validP m = true) (hr : right.length = m.length) (hw : withinP right 67108864 = true) (hok : (solF (elim (copyP m right) (wid m)) (wid m)).2 = 0) :
    (elim (copyP m right) (wid m)).pivots.length = wid m ∧ prodP m (solF (elim (copyP m right) (wid m)) (wid m)).1 = (right.map (fun b => (b, 1)), 0) ∨ (elim (copyP m right) (wid m)).pivots.length = wid m ∧ prodP m (solF (elim (copyP m right) (wid m)) (wid m)).1 = ([], 5) := by
  obtain ⟨h1, h2, h3⟩ := validP_iff.1 hv
  have hb := both_small hv hr hw
  have iv := elim_inv (ups_mover (copyP m right) (wid m + 1)) hb.lens (wid m) (by omega)
  rw [← elim_by] at iv
  have in2 := iv.small2 hb (Nat.le_refl _)
  have hd2 := iv.den_small2 hb (Nat.le_refl _)
  have hcl : (copyP m right).length = m.length := by simp [copyP]
  generalize elim (copyP m right) (wid m) = f at *
  unfold solF at hok ⊢
  split at hok
  · simp at hok
  rename_i hz
  rw [if_neg hz]
  split at hok
  · simp at hok
  rename_i hk
  rw [if_neg hk]
  have nd : f.pivots.Nodup := iv.nd.imp fun hlt => Nat.ne_of_lt hlt
  have hle := nd.length_le_of_subset (l₂ := List.range (wid m)) fun x hx => List.mem_range.2 (iv.lt x hx)
  have hpl : f.pivots.length = wid m := by simp at hle; omega
  have hvan : Van ((copyP m right).map Lin.at_) (SS (copyP m right) f) (CC f) (wid m) := by
    rw [iv.van (by omega)]
    have := (any_drop f.rows f.pivots.length (wid m)).1 (by simpa using hz)
    rw [iv.nr] at this
    exact this
  have ok : ∀ k, k < wid m → (makeP (Lin.at_ (Lin.row f.rows k) (wid m)) f.den).2 = 0 := fun k hkn => makeP_ok (in2 k (wid m) (by omega) (by omega)) hd2 iv.den0
  have hall : allV ((List.range (wid m)).map fun k => (makeP (Lin.at_ (Lin.row f.rows k) (wid m)) f.den).1) = true := by
    unfold allV
    rw [List.all_map, List.all_eq_true]
    intro k hkn
    exact (makeP_q iv.den0 (ok k (List.mem_range.1 hkn))).1
  have hX : ∀ (k : Nat) (g : Int × Int), ((List.range (wid m)).map fun k => (makeP (Lin.at_ (Lin.row f.rows k) (wid m)) f.den).1)[k]? = some g → g.1 * f.den = Lin.at_ (Lin.row f.rows k) (wid m) * g.2 := fun k g hg => by
    have hkl : k < wid m := by have := (List.getElem?_eq_some_iff.1 hg).1; simpa using this
    rw [List.getElem?_map, List.getElem?_range hkl] at hg
    simp only [Option.map_some, Option.some.injEq] at hg
    subst hg
    exact (makeP_q iv.den0 (ok k hkl)).2
  have hlx : ((List.range (wid m)).map fun k => (makeP (Lin.at_ (Lin.row f.rows k) (wid m)) f.den).1).length = wid m := by simp
  have main := prodA_vals ((List.range (wid m)).map fun k => (makeP (Lin.at_ (Lin.row f.rows k) (wid m)) f.den).1) m right [] hr.symm fun (i : Nat) (r : List Int) (b : Int) hi hbi => by
    have hrl := (h3 r (List.mem_of_getElem? hi)).1
    refine dot_whole iv.den0 (X := fun k => Lin.at_ (Lin.row f.rows k) (wid m)) (by rw [hlx, hrl]) (h3 r (List.mem_of_getElem? hi)).2 hall hX ?_
    have hmem : r ++ [b] ∈ copyP m right := by
      refine List.mem_of_getElem? (i := i) ?_
      simp [copyP, hi, hbi]
    have hf := full_sum iv hpl (by omega) hvan hmem
    have e1 : Lin.at_ (r ++ [b]) (wid m) = b := by simp [Lin.at_, ← hrl]
    rw [e1] at hf
    rw [hf, hrl]
    refine sumN_congr _ fun k hkn => ?_
    have : Lin.at_ (r ++ [b]) k = Lin.at_ r k := by simp [Lin.at_, List.getElem?_append_left (show k < r.length by omega)]
    rw [this]
  simp only [List.nil_append] at main
  have hp : ∀ x, allV x = true → x.length = wid m → prodP m x = prodA x [] m := fun x h1 h2 => by unfold prodP; rw [if_pos ⟨hv, h1⟩, if_pos h2]
  simp only [hp _ hall hlx]
  rcases main with e | e
  · exact .inl ⟨hpl, e⟩
  · exact .inr ⟨hpl, e⟩
end Go.Proofs.YtcppnmohgaobdaaGreat.T
end
section
namespace Go.Proofs.YtcppnmohgaobdaaGreat.T
open Go Go.RowKit Lin
def nX (f : Frm) (c : Nat) : Nat → Nat → Int
  | 0 => fun j => if j = c then f.den else 0
  | k + 1 => fun j => if j = (f.pivots[k]?).getD 0 then -(Lin.at_ (Lin.row f.rows k) c) else nX f c k j
theorem sumN_upd (g X : Nat → Int) (p : Nat) (y : Int) : ∀ n, p < n → sumN (fun j => g j * (if j = p then y else X j)) n = sumN (fun j => g j * X j) n + g p * (y - X p)
  | 0, h => by omega
  | n + 1, h => by
    simp only [sumN]
    by_cases e : p = n
    · subst e
      rw [if_pos rfl, sumN_congr (G := fun j => g j * X j) p fun j hj => by rw [if_neg (by omega)], Int.mul_sub]
      omega
    · rw [if_neg (by omega), sumN_upd g X p y n (by omega)]
      omega
theorem sumN_one (g : Nat → Int) (c : Nat) (d : Int) : ∀ n, c < n → sumN (fun j => g j * (if j = c then d else 0)) n = g c * d
  | n, h => by
    rw [sumN_upd g (fun _ => 0) c d n h]
    simp only [Int.mul_zero, Int.sub_zero]
    rw [sumN_zero, Int.zero_add]
section
variable {M : List (List Int)} {n : Nat} {f : Frm}
theorem nX_zero (h : Lin.Inv M n n f) {c : Nat} (hc : f.pivots.contains c = false) : ∀ k, k ≤ f.pivots.length → ∀ i, k ≤ i → i < f.pivots.length → nX f c k ((f.pivots[i]?).getD 0) = 0
  | 0, _, i, _, hi => by
    simp only [nX]
    rw [if_neg]
    intro e
    rw [List.getElem?_eq_getElem hi, Option.getD_some] at e
    have : f.pivots.contains c = true := List.contains_iff_mem.2 (by rw [← e]; exact List.getElem_mem hi)
    rw [hc] at this; cases this
  | k + 1, hk, i, hki, hi => by
    simp only [nX]
    rw [if_neg, nX_zero h hc k (by omega) i (by omega) hi]
    rw [List.getElem?_eq_getElem hi, List.getElem?_eq_getElem (show k < f.pivots.length by omega), Option.getD_some, Option.getD_some]
    have := List.pairwise_iff_getElem.1 h.nd k i (by omega) hi (by omega)
    omega
theorem nX_sum (h : Lin.Inv M n n f) {c : Nat} (hcn : c < n) (hc : f.pivots.contains c = false) (g : Nat → Int) : ∀ k, k ≤ f.pivots.length → sumN (fun j => g j * nX f c k j) n = g c * f.den - sumN (fun i => g ((f.pivots[i]?).getD 0) * Lin.at_ (Lin.row f.rows i) c) k
  | 0, _ => by
    simp only [nX, sumN, Int.sub_zero]
    exact sumN_one g c f.den n hcn
  | k + 1, hk => by
    have hp : (f.pivots[k]?).getD 0 < n := by
      rw [List.getElem?_eq_getElem (show k < f.pivots.length by omega), Option.getD_some]
      exact h.lt _ (List.getElem_mem _)
    simp only [nX, sumN]
    rw [sumN_upd g (nX f c k) _ _ n hp, nX_sum h hcn hc g k (by omega), nX_zero h hc k (by omega) k (Nat.le_refl _) (by omega), Int.sub_zero, Int.mul_neg]
    omega
theorem nvec_q (h : Lin.Inv M n n f) (ok : ∀ k c, k < f.pivots.length → c < n → (makeP (-(Lin.at_ (Lin.row f.rows k) c)) f.den).2 = 0) {c : Nat} (hcn : c < n) : ∀ k, k ≤ f.pivots.length → allV (nvec f n c k) = true ∧ ∀ (j : Nat) (p : Int × Int), (nvec f n c k)[j]? = some p → p.1 * f.den = nX f c k j * p.2
  | 0, _ => by
    have hz : vfrac 0 1 = true := vfrac_one (by omega)
    have ho : vfrac 1 1 = true := vfrac_one (by omega)
    constructor
    · unfold allV
      rw [List.all_eq_true]
      intro x hx
      simp only [nvec] at hx
      rcases List.mem_or_eq_of_mem_set hx with h | h
      · have := List.eq_of_mem_replicate h
        subst this; exact hz
      · subst h; exact ho
    · intro j p hj
      simp only [nvec, nX] at hj ⊢
      by_cases e : c = j
      · subst e
        rw [List.getElem?_set_self (by simpa using hcn)] at hj
        cases hj
        rw [if_pos rfl]; simp
      · rw [List.getElem?_set_ne e] at hj
        have hp : p = (0, 1) := by
          have := List.mem_of_getElem? hj
          exact List.eq_of_mem_replicate this
        rw [hp, if_neg (by omega)]; simp
  | k + 1, hk => by
    obtain ⟨i1, i2⟩ := nvec_q h ok hcn k (by omega)
    have hq := makeP_q h.den0 (ok k c (by omega) hcn)
    constructor
    · unfold allV at i1 ⊢
      rw [List.all_eq_true] at i1 ⊢
      intro x hx
      simp only [nvec] at hx
      rcases List.mem_or_eq_of_mem_set hx with h | h
      · exact i1 x h
      · subst h; exact hq.1
    · intro j p hj
      simp only [nvec, nX] at hj ⊢
      by_cases e : (f.pivots[k]?).getD 0 = j
      · have hjl : j < (nvec f n c k).length := by have := (List.getElem?_eq_some_iff.1 hj).1; simpa using this
        rw [e, List.getElem?_set_self hjl] at hj
        cases hj
        rw [if_pos e.symm]
        exact hq.2
      · rw [List.getElem?_set_ne e] at hj
        rw [if_neg (by omega)]
        exact i2 j p hj
theorem nvec_one (h : Lin.Inv M n n f) {c : Nat} (hcn : c < n) (hc : f.pivots.contains c = false) : ∀ k, k ≤ f.pivots.length → (nvec f n c k)[c]? = some (1, 1)
  | 0, _ => by simp only [nvec]; exact List.getElem?_set_self (by simpa using hcn)
  | k + 1, hk => by
    simp only [nvec]
    rw [List.getElem?_set_ne, nvec_one h hcn hc k (by omega)]
    intro e
    rw [List.getElem?_eq_getElem (show k < f.pivots.length by omega), Option.getD_some] at e
    have : f.pivots.contains c = true := List.contains_iff_mem.2 (by rw [← e]; exact List.getElem_mem _)
    rw [hc] at this; cases this
theorem nulls_mem (f : Frm) (n : Nat) : ∀ c v, v ∈ nulls f n c → ∃ d, d < c ∧ f.pivots.contains d = false ∧ v = nvec f n d f.pivots.length
  | 0, v, h => by simp [nulls] at h
  | c + 1, v, h => by
    simp only [nulls] at h
    cases hc : f.pivots.contains c
    · rw [hc] at h
      simp only [Bool.false_eq_true, if_false] at h
      rcases List.mem_append.1 h with h | h
      · obtain ⟨d, h1, h2⟩ := nulls_mem f n c v h
        exact ⟨d, by omega, h2⟩
      · simp only [List.mem_singleton] at h
        exact ⟨c, by omega, hc, h⟩
    · rw [hc] at h
      simp only [if_true] at h
      obtain ⟨d, h1, h2⟩ := nulls_mem f n c v h
      exact ⟨d, by omega, h2⟩
end
theorem w_cols : ∀ (is : List Nat) (C : List Nat) (F G : Nat → Nat → Int), (∀ i ∈ is, ∀ c ∈ C, F i c = G i c) → w (is.map fun i j => F i j) C = w (is.map fun i j => G i j) C
  | [], C, F, G, _ => by cases C <;> rfl
  | i :: is, C, F, G, h => by
    rw [List.map_cons, List.map_cons, w_cons, w_cons]
    refine ex_congr_mem fun c r hc hr => ?_
    rw [h i (by simp) c hc, w_cols is r F G fun i' hi' c' hc' => h i' (List.mem_cons_of_mem _ hi') c' (hr c' hc')]
theorem both_rank {m : List (List Int)} {right : List Int} (hv : validP m = true) (hr : right.length = m.length) (hw : withinP right 67108864 = true) : (elim (copyP m right) (wid m)).pivots.length = rankP m (wid m) := by
  obtain ⟨h1, h2, h3⟩ := validP_iff.1 hv
  have hb := both_small hv hr hw
  have hs := valid_small hv
  have r1 := (elim_inv (ups_mover (copyP m right) (wid m + 1)) hb.lens (wid m) (by omega)).isRank
  have r2 := rk_is hs
  rw [← elim_by] at r1
  have hcl : (copyP m right).length = m.length := by simp [copyP]
  have hrow : ∀ i c, i < m.length → c < wid m → Lin.at_ (Lin.row (copyP m right) i) c = Lin.at_ (Lin.row m i) c := fun i c hi hc => by
    have hl := (h3 (Lin.row m i) (by rw [row_get hi]; exact List.getElem_mem hi)).1
    have e : Lin.row (copyP m right) i = Lin.row m i ++ (right[i]?).toList := by
      simp [Lin.row, copyP, List.getElem?_eq_getElem hi]
    rw [e]
    simp [Lin.at_, List.getElem?_append_left (show c < (Lin.row m i).length by omega)]
  have mem : ∀ (M : List (List Int)) (is : List Nat), (∀ i ∈ is, i < M.length) → ∀ s ∈ (is.map fun i j => Lin.at_ (Lin.row M i) j), s ∈ M.map Lin.at_ := fun M is hi s hs => by
    obtain ⟨i, hi', rfl⟩ := List.mem_map.1 hs
    exact List.mem_map.2 ⟨Lin.row M i, by rw [row_get (hi i hi')]; exact List.getElem_mem _, rfl⟩
  refine Nat.le_antisymm ?_ ?_
  · obtain ⟨S, C, k1, k2, k3, k4, k5, _⟩ := r1
    obtain ⟨is, l1, rfl⟩ := pick k1
    have hc := w_cols is C (fun i j => Lin.at_ (Lin.row (copyP m right) i) j) (fun i j => Lin.at_ (Lin.row m i) j) fun i hi c hc => hrow i c (by have := l1 i hi; omega) (k4 c hc)
    rw [hc] at k5
    have := r2.max (mem m is fun i hi => by have := l1 i hi; omega) k4 k5
    simp at k2 this
    omega
  · obtain ⟨S, C, k1, k2, k3, k4, k5, _⟩ := r2
    obtain ⟨is, l1, rfl⟩ := pick k1
    have hc := w_cols is C (fun i j => Lin.at_ (Lin.row (copyP m right) i) j) (fun i j => Lin.at_ (Lin.row m i) j) fun i hi c hc => hrow i c (l1 i hi) (k4 c hc)
    rw [← hc] at k5
    have := r1.max (mem (copyP m right) is fun i hi => by have := l1 i hi; omega) k4 k5
    simp at k2 this
    omega
end Go.Proofs.YtcppnmohgaobdaaGreat.T
end
end
section
section
namespace Go.Proofs.YtcppnmohgaobdaaGreat.T
open Go Go.RowKit Lin
def phi (Z : Nat → Int) (D : Int) (n : Nat) (g : Nat → Int) : Int := sumN (fun k => g k * Z k) n - D * g n
theorem phi_dot (Z : Nat → Int) (D : Int) (n : Nat) : ∀ (ks : List Int) (rs : List Row), (∀ r ∈ rs, phi Z D n r = 0) → phi Z D n (dot ks rs) = 0
  | [], rs, _ => by
    have e : (dot [] rs) = fun _ => 0 := by funext j; cases rs <;> rfl
    rw [e]
    simp [phi, sumN_zero]
  | k :: ks, [], _ => by
    have e : (dot (k :: ks) []) = fun _ => 0 := rfl
    rw [e]
    simp [phi, sumN_zero]
  | k :: ks, r :: rs, h => by
    have ih := phi_dot Z D n ks rs fun x hx => h x (List.mem_cons_of_mem _ hx)
    have h0 := h r (by simp)
    have e : (dot (k :: ks) (r :: rs)) = fun j => k * r j + dot ks rs j := rfl
    rw [e]
    unfold phi at *
    have e2 : sumN (fun j => (k * r j + dot ks rs j) * Z j) n = k * sumN (fun j => r j * Z j) n + sumN (fun j => dot ks rs j * Z j) n := by
      rw [← sumN_mul, ← sumN_add]
      exact sumN_congr n fun j _ => by rw [Int.add_mul, Int.mul_assoc]
    rw [e2, Int.mul_add, Int.mul_left_comm]
    have : k * (sumN (fun j => r j * Z j) n - D * r n) = 0 := by rw [h0, Int.mul_zero]
    rw [Int.mul_sub] at this
    omega
theorem phi_span {Z : Nat → Int} {D : Int} {n : Nat} {rs : List Row} {g : Nat → Int} (hg : Span rs g) (h : ∀ r ∈ rs, phi Z D n r = 0) : phi Z D n g = 0 := by
  obtain ⟨ks, _, he⟩ := hg
  have : g = dot ks rs := funext he
  rw [this]
  exact phi_dot Z D n ks rs h
section
variable {M : List (List Int)} {n : Nat} {f : Frm}
theorem unique (h : Lin.Inv M (n + 1) n f) (hk : f.pivots.length = n) {Z : Nat → Int} {D : Int} (hD : D ≠ 0) (hZ : ∀ s ∈ M, phi Z D n (Lin.at_ s) = 0) :
    Van (M.map Lin.at_) (SS M f) (CC f) n ∧ ∀ k, k < n → Z k * f.den = D * Lin.at_ (Lin.row f.rows k) n := by
  have hp := pivots_full n f.pivots h.nd h.lt hk
  have hSS : ∀ r ∈ SS M f, phi Z D n r = 0 := fun r hr => by
    obtain ⟨s, hs, rfl⟩ := SS_mem h r hr
    exact hZ s hs
  constructor
  · intro r hr
    obtain ⟨s, hs, rfl⟩ := List.mem_map.1 hr
    have hsp : Span (Lin.at_ s :: SS M f) fun j => E (SS M f) (CC f) (Lin.at_ s) j := w_span (Lin.at_ s :: SS M f) (CC f)
    have h0 := phi_span hsp fun x hx => by
      rcases List.mem_cons.1 hx with rfl | hx
      · exact hZ s hs
      · exact hSS x hx
    unfold phi at h0
    simp only at h0
    rw [sumN_congr (G := fun _ => 0) n fun j hj => by
      rw [h.van_lt hj (Lin.at_ s) hr, Int.zero_mul], sumN_zero] at h0
    have : D * E (SS M f) (CC f) (Lin.at_ s) n = 0 := by omega
    rcases Int.mul_eq_zero.1 this with e | e
    · exact absurd e hD
    · exact e
  · intro k hkn
    have hCC : CC f = ((List.range n).drop (k + 1)).reverse ++ k :: ((List.range n).take k).reverse := by
      have e : List.range n = (List.range n).take k ++ k :: (List.range n).drop (k + 1) := by
        conv => lhs; rw [← List.take_append_drop k (List.range n)]
        rw [List.drop_eq_getElem_cons (by simpa using hkn), List.getElem_range]
      unfold CC
      rw [hp]
      conv => lhs; rw [e]
      simp
    have hpost : ((List.range n).take k).reverse.length = k := by simp; omega
    have hpv := fun j (hj : j < n + 1) => h.piv _ _ k hCC j hj
    rw [hpost] at hpv
    have h0 := phi_span (w_span_at (SS M f) ((List.range n).drop (k + 1)).reverse ((List.range n).take k).reverse) hSS
    unfold phi at h0
    simp only at h0
    rw [← hpv n (by omega)] at h0
    have hsum : sumN (fun j => w (SS M f) (((List.range n).drop (k + 1)).reverse ++ j :: ((List.range n).take k).reverse) * Z j) n = Z k * f.den := by
      have e : ∀ j, j < n → w (SS M f) (((List.range n).drop (k + 1)).reverse ++ j :: ((List.range n).take k).reverse) * Z j = Z j * (if j = k then f.den else 0) := fun j hj => by
        by_cases hjk : j = k
        · subst hjk
          rw [if_pos rfl, ← hCC, ← h.den, Int.mul_comm]
        · rw [if_neg hjk, Int.mul_zero, piv_same (ci := k) (d := j) ?_ hjk, Int.zero_mul]
          rw [← hCC]
          unfold CC
          rw [hp]
          simpa using hj
      rw [sumN_congr n e, sumN_one Z k f.den n hkn]
    rw [hsum] at h0
    omega
end
theorem frac_eq {p q : Int × Int} (hp : vfrac p.1 p.2 = true) (hq : vfrac q.1 q.2 = true) (h : p.1 * q.2 = q.1 * p.2) : p = q := by
  obtain ⟨p1, _, _, _, p5⟩ := fr_bounds hp
  obtain ⟨r1, _, _, _, r5⟩ := fr_bounds hq
  have hn : p.1.natAbs * q.2.natAbs = q.1.natAbs * p.2.natAbs := by rw [← Int.natAbs_mul, ← Int.natAbs_mul, h]
  obtain ⟨h1, h2⟩ := ratio_nat (show 0 < p.2.natAbs by omega) (show 0 < q.2.natAbs by omega) hn
  have e1 : Nat.gcd p.1.natAbs p.2.natAbs = 1 := p5
  have e2 : Nat.gcd q.1.natAbs q.2.natAbs = 1 := r5
  rw [e1, e2, Nat.div_one, Nat.div_one] at h1 h2
  have h3 : p.2 = q.2 := by omega
  rw [h3] at h
  exact Prod.ext (cancel (c := q.2) (by omega) h) h3
end Go.Proofs.YtcppnmohgaobdaaGreat.T
end
section
namespace Go.Proofs.YtcppnmohgaobdaaGreat.T
open Go Go.RowKit Lin
section
variable {m : List (List Int)} {a b n : Nat}
end
end Go.Proofs.YtcppnmohgaobdaaGreat.T
end
section
namespace Go.Proofs.YtcppnmohgaobdaaGreat.T
open Go Go.RowKit Lin
abbrev solM (m : List (List Int)) (right : List Int) : Frm := elim (copyP m right) (wid m)
def solX (m : List (List Int)) (right : List Int) (k : Nat) : Int := Lin.at_ (Lin.row (solM m right).rows k) (wid m)
section
variable {m : List (List Int)} {right : List Int}
theorem sol_inv (hv : validP m = true) (hr : right.length = m.length) (hw : withinP right 67108864 = true) : Lin.Inv (copyP m right) (wid m + 1) (wid m) (solM m right) := by
  have iv := elim_inv (ups_mover (copyP m right) (wid m + 1)) (both_small hv hr hw).lens (wid m) (by omega)
  rw [← elim_by] at iv
  exact iv
theorem copy_row (hr : right.length = m.length) {s : List Int} (hs : s ∈ copyP m right) : ∃ (i : Nat) (r : List Int) (b : Int), m[i]? = some r ∧ right[i]? = some b ∧ s = r ++ [b] := by
  obtain ⟨i, hi⟩ := List.mem_iff_getElem?.1 hs
  have hil : i < m.length := by have := (List.getElem?_eq_some_iff.1 hi).1; simpa [copyP] using this
  have hir : i < right.length := by omega
  simp only [copyP, List.getElem?_mapIdx, List.getElem?_eq_getElem hil, Option.map_some, List.getElem?_eq_getElem hir, Option.toList_some, Option.some.injEq] at hi
  exact ⟨i, m[i], right[i], List.getElem?_eq_getElem hil, List.getElem?_eq_getElem hir, hi.symm⟩
theorem copy_mem {i : Nat} {r : List Int} {b : Int} (hi : m[i]? = some r) (hb : right[i]? = some b) : r ++ [b] ∈ copyP m right :=
  List.mem_of_getElem? (i := i) (by simp [copyP, hi, hb])
theorem phi_row {Z : Nat → Int} {D : Int} {n : Nat} {r : List Int} {b : Int} (hrl : r.length = n) : phi Z D n (Lin.at_ (r ++ [b])) = sumN (fun k => Lin.at_ r k * Z k) n - D * b := by
  unfold phi
  have e1 : Lin.at_ (r ++ [b]) n = b := by simp [Lin.at_, ← hrl]
  rw [e1, sumN_congr n fun k hk => by
    show Lin.at_ (r ++ [b]) k * Z k = Lin.at_ r k * Z k
    simp [Lin.at_, List.getElem?_append_left (show k < r.length by omega)]]
theorem sol_eq (hv : validP m = true) (hr : right.length = m.length) (hw : withinP right 67108864 = true) (hok : (solF (solM m right) (wid m)).2 = 0) :
    (solM m right).pivots.length = wid m ∧ (∀ (i : Nat) (r : List Int) (b : Int), m[i]? = some r → right[i]? = some b → sumN (fun k => Lin.at_ r k * solX m right k) (wid m) = (solM m right).den * b) ∧ (solF (solM m right) (wid m)).1 = (List.range (wid m)).map fun k => (makeP (solX m right k) (solM m right).den).1 := by
  obtain ⟨_, _, h3⟩ := validP_iff.1 hv
  have iv := sol_inv hv hr hw
  have hp : (solM m right).pivots.length = wid m := by
    rcases sol_prod hv hr hw hok with ⟨h, _⟩ | ⟨h, _⟩ <;> exact h
  unfold solX
  generalize solM m right = f at *
  unfold solF at hok ⊢
  split at hok
  · simp at hok
  rename_i hz
  rw [if_neg hz]
  split at hok
  · simp at hok
  rename_i hk
  rw [if_neg hk]
  refine ⟨hp, fun i r b hi hb => ?_, rfl⟩
  have hvan : Van ((copyP m right).map Lin.at_) (SS (copyP m right) f) (CC f) (wid m) := by
    rw [iv.van (by omega)]
    have := (any_drop f.rows f.pivots.length (wid m)).1 (by simpa using hz)
    rw [iv.nr] at this
    exact this
  have hrl := (h3 r (List.mem_of_getElem? hi)).1
  have hf := full_sum iv hp (by omega) hvan (copy_mem hi hb)
  have e1 : Lin.at_ (r ++ [b]) (wid m) = b := by simp [Lin.at_, ← hrl]
  rw [e1] at hf
  rw [Int.mul_comm, hf]
  refine sumN_congr _ fun k hkn => ?_
  have : Lin.at_ (r ++ [b]) k = Lin.at_ r k := by simp [Lin.at_, List.getElem?_append_left (show k < r.length by omega)]
  rw [this]
theorem sol_of (hv : validP m = true) (hr : right.length = m.length) (hw : withinP right 67108864 = true) (hfull : rankP m (wid m) = wid m) {Z : Nat → Int} {D : Int} (hD : D ≠ 0)
    (hZ : ∀ (i : Nat) (r : List Int) (b : Int), m[i]? = some r → right[i]? = some b → sumN (fun k => Lin.at_ r k * Z k) (wid m) = D * b) :
    (solF (solM m right) (wid m)).2 = 0 ∧ ∀ k, k < wid m → Z k * (solM m right).den = D * solX m right k := by
  obtain ⟨_, _, h3⟩ := validP_iff.1 hv
  have iv := sol_inv hv hr hw
  have hp : (solM m right).pivots.length = wid m := by rw [both_rank hv hr hw, hfull]
  unfold solX
  generalize solM m right = f at *
  obtain ⟨u1, u2⟩ := unique iv hp hD fun s hs => by
    obtain ⟨i, r, b, hi, hb, rfl⟩ := copy_row hr hs
    rw [phi_row (h3 r (List.mem_of_getElem? hi)).1, hZ i r b hi hb]
    omega
  refine ⟨?_, u2⟩
  have hz : (f.rows.drop f.pivots.length).any (fun r => Lin.at_ r (wid m) != 0) = false := by
    rw [any_drop, iv.nr]
    exact (iv.van (by omega)).1 u1
  unfold solF
  rw [hz, if_neg (by simp), if_neg (by omega)]
end
end Go.Proofs.YtcppnmohgaobdaaGreat.T
end
section
namespace Go.Proofs.YtcppnmohgaobdaaGreat.T
open Go Go.RowKit Lin
theorem sum_frac {a b c : Int × Int} {X Y W dx dy dz : Int} (ha : vfrac a.1 a.2 = true) (hb : vfrac b.1 b.2 = true) (hc : vfrac c.1 c.2 = true) (hx : dx ≠ 0) (hy : dy ≠ 0) (hz : dz ≠ 0)
    (ea : a.1 * dx = X * a.2) (eb : b.1 * dy = Y * b.2) (ec : c.1 * dz = W * c.2) (hW : (X * dy + Y * dx) * dz = dx * dy * W) (ok : (addR a b).2 = 0) : (addR a b).1 = c := by
  have hq := add_q ha hb ok
  have hv := addR_valid ha hb ok
  generalize (addR a b).1 = s at *
  obtain ⟨a1, _⟩ := fr_bounds ha
  obtain ⟨b1, _⟩ := fr_bounds hb
  refine frac_eq hv hc ?_
  have h1 : s.1 * (dx * dy) = (X * dy + Y * dx) * s.2 := by
    refine cancel (c := a.2 * b.2) (Int.ne_of_gt (Int.mul_pos (by omega) (by omega))) ?_
    calc s.1 * (dx * dy) * (a.2 * b.2) = (s.1 * (a.2 * b.2)) * (dx * dy) := by ac_rfl
      _ = ((a.1 * b.2 + b.1 * a.2) * s.2) * (dx * dy) := by rw [hq]
      _ = ((a.1 * dx) * b.2 * dy + (b.1 * dy) * a.2 * dx) * s.2 := by rw [Int.add_mul, Int.add_mul, Int.add_mul]; ac_rfl
      _ = ((X * a.2) * b.2 * dy + (Y * b.2) * a.2 * dx) * s.2 := by rw [ea, eb]
      _ = (X * dy + Y * dx) * s.2 * (a.2 * b.2) := by rw [Int.add_mul, Int.add_mul, Int.add_mul]; ac_rfl
  refine cancel (c := dx * dy * dz) (Int.mul_ne_zero (Int.mul_ne_zero hx hy) hz) ?_
  calc s.1 * c.2 * (dx * dy * dz) = (s.1 * (dx * dy)) * c.2 * dz := by ac_rfl
    _ = ((X * dy + Y * dx) * s.2) * c.2 * dz := by rw [h1]
    _ = ((X * dy + Y * dx) * dz) * (s.2 * c.2) := by ac_rfl
    _ = (dx * dy * W) * (s.2 * c.2) := by rw [hW]
    _ = (W * c.2) * s.2 * (dx * dy) := by ac_rfl
    _ = (c.1 * dz) * s.2 * (dx * dy) := by rw [ec]
    _ = c.1 * s.2 * (dx * dy * dz) := by ac_rfl
section
variable {m : List (List Int)} {right other : List Int}
theorem sum_eq (hv : validP m = true) (hr : right.length = m.length) (ho : other.length = m.length) (hw : withinP right 67108864 = true) (hwo : withinP other 67108864 = true) (hws : withinP (List.zipWith (· + ·) right other) 67108864 = true)
    (h1 : (solF (solM m right) (wid m)).2 = 0) (h2 : (solF (solM m other) (wid m)).2 = 0) :
    (solF (solM m (List.zipWith (· + ·) right other)) (wid m)).2 = 0 ∧ ∀ k, k < wid m → (solX m right k * (solM m other).den + solX m other k * (solM m right).den) * (solM m (List.zipWith (· + ·) right other)).den = (solM m right).den * (solM m other).den * solX m (List.zipWith (· + ·) right other) k := by
  obtain ⟨p1, e1, _⟩ := sol_eq hv hr hw h1
  obtain ⟨p2, e2, _⟩ := sol_eq hv ho hwo h2
  have d1 := (sol_inv hv hr hw).den0
  have d2 := (sol_inv hv ho hwo).den0
  have hfull : rankP m (wid m) = wid m := by rw [← both_rank hv hr hw]; exact p1
  refine sol_of hv (by simp; omega) hws hfull (Int.mul_ne_zero d1 d2) fun i r b hi hb => ?_
  have hir : i < right.length := by have := (List.getElem?_eq_some_iff.1 hi).1; omega
  have hio : i < other.length := by omega
  have x1 := e1 i r right[i] hi (List.getElem?_eq_getElem hir)
  have x2 := e2 i r other[i] hi (List.getElem?_eq_getElem hio)
  rw [List.getElem?_zipWith, List.getElem?_eq_getElem hir, List.getElem?_eq_getElem hio] at hb
  have hb' : right[i] + other[i] = b := by simpa using hb
  generalize (solM m right).den = dx at *
  generalize (solM m other).den = dy at *
  have e : sumN (fun k => Lin.at_ r k * (solX m right k * dy + solX m other k * dx)) (wid m) = dy * sumN (fun k => Lin.at_ r k * solX m right k) (wid m) + dx * sumN (fun k => Lin.at_ r k * solX m other k) (wid m) := by
    rw [← sumN_mul, ← sumN_mul, ← sumN_add]
    exact sumN_congr _ fun k _ => by rw [Int.mul_add]; ac_rfl
  rw [e, x1, x2, ← hb', Int.mul_add]
  ac_rfl
end
end Go.Proofs.YtcppnmohgaobdaaGreat.T
end
section
namespace Go.Proofs.YtcppnmohgaobdaaGreat.T
open Go Go.RowKit Lin
section
variable {m : List (List Int)} {right : List Int} {a b : Nat}
end
end Go.Proofs.YtcppnmohgaobdaaGreat.T
end
section
namespace Go.Proofs.YtcppnmohgaobdaaGreat.T
open Go Go.RowKit Lin
section
variable {m : List (List Int)} {right other : List Int} {a b : Nat}
theorem solveP_in (hv : validP m = true) (hr : right.length = m.length) (hw : withinP right 67108864 = true) : solveP m right = solF (solM m right) (wid m) := by
  unfold solveP
  rw [if_pos hv, if_pos hr, if_pos hw]
theorem solveP_out (hv : validP m = true) (hr : right.length = m.length) (hw : withinP right 67108864 = false) : solveP m right = ([], 2) := by
  unfold solveP
  rw [if_pos hv, if_pos hr, hw]
  simp
theorem sol_num (hv : validP m = true) (hr : right.length = m.length) (hw : withinP right 67108864 = true) (hok : (solF (solM m right) (wid m)).2 = 0) :
    (solF (solM m right) (wid m)).1.length = wid m ∧ ∀ (k : Nat) (g : Int × Int), (solF (solM m right) (wid m)).1[k]? = some g → k < wid m ∧ vfrac g.1 g.2 = true ∧ g.1 * (solM m right).den = solX m right k * g.2 := by
  obtain ⟨p1, _, e⟩ := sol_eq hv hr hw hok
  have iv := sol_inv hv hr hw
  have hb := both_small hv hr hw
  have in2 := iv.small2 hb (Nat.le_refl _)
  have hd2 := iv.den_small2 hb (Nat.le_refl _)
  have hcl : (copyP m right).length = m.length := by simp [copyP]
  have hpm : wid m ≤ m.length := by
    have := iv.k_le
    rw [p1] at this
    omega
  rw [e]
  refine ⟨by simp, fun k g hg => ?_⟩
  have hkl : k < wid m := by have := (List.getElem?_eq_some_iff.1 hg).1; simpa using this
  rw [List.getElem?_map, List.getElem?_range hkl] at hg
  simp only [Option.map_some, Option.some.injEq] at hg
  subst hg
  have ok : (makeP (solX m right k) (solM m right).den).2 = 0 := makeP_ok (in2 k (wid m) (by omega) (by omega)) hd2 iv.den0
  exact ⟨hkl, makeP_q iv.den0 ok⟩
theorem sums (hv : validP m = true) (hr : right.length = m.length) (ho : other.length = m.length) (hw : withinP right 67108864 = true) (hwo : withinP other 67108864 = true) (h1 : (solveP m right).2 = 0) (h2 : (solveP m other).2 = 0) :
    solveP m (List.zipWith (· + ·) right other) = ([], 2) ∨ (solveP m (List.zipWith (· + ·) right other)).2 = 0 ∧ (solveP m (List.zipWith (· + ·) right other)).1.length = (solveP m right).1.length ∧
      ∀ (k : Nat) (z : Int × Int), (solveP m (List.zipWith (· + ·) right other)).1[k]? = some z → ∃ x y : Int × Int, (solveP m right).1[k]? = some x ∧ (solveP m other).1[k]? = some y ∧ vfrac x.1 x.2 = true ∧ vfrac y.1 y.2 = true ∧ ((addR x y).2 = 0 → (addR x y).1 = z) := by
  have hs : (List.zipWith (· + ·) right other).length = m.length := by simp; omega
  cases hws : withinP (List.zipWith (· + ·) right other) 67108864
  · left; exact solveP_out hv hs hws
  right
  rw [solveP_in hv hr hw] at h1 ⊢
  rw [solveP_in hv ho hwo] at h2 ⊢
  rw [solveP_in hv hs hws]
  obtain ⟨h3, he⟩ := sum_eq hv hr ho hw hwo hws h1 h2
  obtain ⟨l1, n1⟩ := sol_num hv hr hw h1
  obtain ⟨l2, n2⟩ := sol_num hv ho hwo h2
  obtain ⟨l3, n3⟩ := sol_num hv hs hws h3
  refine ⟨h3, by rw [l1, l3], fun k z hz => ?_⟩
  obtain ⟨hk, vz, ez⟩ := n3 k z hz
  obtain ⟨x, hx⟩ : ∃ x, (solF (solM m right) (wid m)).1[k]? = some x := ⟨_, List.getElem?_eq_getElem (by omega)⟩
  obtain ⟨y, hy⟩ : ∃ y, (solF (solM m other) (wid m)).1[k]? = some y := ⟨_, List.getElem?_eq_getElem (by omega)⟩
  obtain ⟨_, vx, ex⟩ := n1 k x hx
  obtain ⟨_, vy, ey⟩ := n2 k y hy
  refine ⟨x, y, hx, hy, vx, vy, fun ok => ?_⟩
  exact sum_frac vx vy vz (sol_inv hv hr hw).den0 (sol_inv hv ho hwo).den0 (sol_inv hv hs hws).den0 ex ey ez (he k hk) ok
end
end Go.Proofs.YtcppnmohgaobdaaGreat.T
end
end

