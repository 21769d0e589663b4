import Derived.Test.YtpcakodemleoiaaGreatHMGWAVR
import Derived.Test.YtpcakodemleoiaaGreatHLSJ
import Derived.Test.YtpcakodemleoiaaGreatHWRJ
import Derived.Test.YtpcakodemleoiaaGreatHWPJ
import Derived.Test.YtpcakodemleoiaaGreatHSDE
import Derived.Test.YtpcakodemleoiaaGreatHSNQMGI
import Derived.Test.YtpcakodemleoiaaGreatHTB
import Derived.Test.YtpcakodemleoiaaGreatHTTab
import Derived.Test.YtpcakodemleoiaaGreatHTN
import Derived.Shelf.SlicesE.Delete
import Derived.Test.YtpcakodemleoiaaGreatHMJA
import Derived.Test.YtpcakodemleoiaaGreatHWN
import Derived.Test.YtpcakodemleoiaaGreatHLHF
import Derived.Test.YtpcakodemleoiaaGreatHWRS
set_option linter.all false
namespace Go.Proofs.YtpcakodemleoiaaGreat.T
open Go Go.RowKit Lin
structure FB (f : Int × Int) (A : Nat) : Prop where
  v : vfrac f.1 f.2 = true
  n1 : 1 ≤ f.1
  nA : f.1 ≤ A
  dA : f.2 ≤ A
theorem FB.d1 {f : Int × Int} {A : Nat} (h : FB f A) : 1 ≤ f.2 := (Y09 h.v).1
theorem made_small {a d B : Nat} (ha : 0 < a) (hd : 0 < d) (hA : a ≤ B) (hB : d ≤ B) (h : B ≤ 1152921504606846976) : (madeP a false d).2 = 0 ∧ FB (madeP a false d).1 B := by
  have hg : 0 < Nat.gcd a d := Nat.gcd_pos_of_pos_right _ hd
  have e : madeP a false d = signP false (a / Nat.gcd a d) (d / Nat.gcd a d) := by unfold madeP; rw [if_neg (by omega)]
  have h1 : 1 ≤ a / Nat.gcd a d := Nat.div_pos (Nat.le_of_dvd ha (Nat.gcd_dvd_left a d)) hg
  have h2 : 1 ≤ d / Nat.gcd a d := Nat.div_pos (Nat.le_of_dvd hd (Nat.gcd_dvd_right a d)) hg
  have h3 := Nat.div_le_self a (Nat.gcd a d)
  have h4 := Nat.div_le_self d (Nat.gcd a d)
  have z : (madeP a false d).2 = 0 := by
    rw [e]
    unfold signP
    rw [if_neg (by omega)]
  have hv := Y2j hd z
  refine ⟨z, hv, ?_, ?_, ?_⟩
  all_goals
    rw [e]
    unfold signP
    rw [if_neg (by omega)]
    simp only [Bool.false_eq_true, if_false]
    omega
theorem FB.mul {f l : Int × Int} {A : Nat} (h : FB f A) (hl : FB l 100) (hA : A * 100 ≤ 1152921504606846976) : (mulR f l).2 = 0 ∧ FB (mulR f l).1 (A * 100) := by
  have a1 := h.n1
  have a2 := h.d1
  have b1 := hl.n1
  have b2 := hl.d1
  have a3 := h.nA
  have a4 := h.dA
  have b3 := hl.nA
  have b4 := hl.dA
  have e : mulR f l = madeP (f.1.natAbs * l.1.natAbs) false (f.2.natAbs * l.2.natAbs) := by
    unfold mulR
    rw [decide_eq_false (show ¬ f.1 < 0 by omega), decide_eq_false (show ¬ l.1 < 0 by omega)]
    rfl
  rw [e]
  exact made_small (Nat.mul_pos (by omega) (by omega)) (Nat.mul_pos (by omega) (by omega)) (Nat.mul_le_mul (by omega) (by omega)) (Nat.mul_le_mul (by omega) (by omega)) hA
theorem FB.recip {l : Int × Int} {A : Nat} (h : FB l A) : FB (T.recip l) A := by
  have a1 := h.n1
  have e : T.recip l = (l.2, l.1) := by unfold T.recip; rw [if_neg (by omega)]
  have hv := Y5i h.v (by omega)
  rw [e] at hv ⊢
  exact ⟨hv, h.d1, h.dA, h.nA⟩
theorem FB.div {f l : Int × Int} {A : Nat} (h : FB f A) (hl : FB l 100) (hA : A * 100 ≤ 1152921504606846976) : (divR f l).2 = 0 ∧ FB (divR f l).1 (A * 100) := by
  rw [Y5y hl.v]
  exact h.mul hl.recip hA
theorem Y5q {n d : Int} (h : lossy n d = true) : FB (n, d) 100 := by
  unfold lossy at h
  simp only [Bool.and_eq_true, decide_eq_true_eq] at h
  have := (Y09 h.1.1).1
  exact ⟨h.1.1, by show 1 ≤ n; omega, by show n ≤ ((100 : Nat) : Int); omega, by show d ≤ ((100 : Nat) : Int); omega⟩
def Ydt (hs : List Hd) (i : Nat) : Int × Int := match hs[i]? with
  | some h => (h.n, h.d)
  | none => (1, 1)
def stepF (up : Bool) (f l : Int × Int) : Int × Int := if up = true then (mulR f l).1 else (divR f l).1
def facK (hs : List Hd) (up : Bool) : Nat → Int × Int
  | 0 => (1, 1)
  | k + 1 => stepF up (facK hs up k) (Ydt hs (k + 1))
def Y26 (e : Bool) (h : Hd) : Bool := lossy h.n h.d && (!e || (h.n == 1 && h.d == 1))
def Y1m (r : Rp) : Bool := decide (2 ≤ r.hs.length ∧ r.hs.length ≤ 10) && (List.range r.hs.length).all fun i => match r.hs[i]? with | some h => Y26 (endH r.hs.length i) h | none => true
def facL (r : Rp) (up : Bool) (k : Nat) : List (Int × Int) := (List.range k).map (facK r.hs up)
theorem Y33 (r : Rp) (up : Bool) (k : Nat) : (facL r up k).length = k := by simp [facL]
theorem Yc7 (r : Rp) (up : Bool) (k : Nat) : facL r up (k + 1) = facL r up k ++ [facK r.hs up k] := by simp [facL, List.range_succ]
theorem Y8b (r : Rp) (up : Bool) {k i : Nat} (h : i < k) : (facL r up k)[i]? = some (facK r.hs up i) := by simp [facL, h]
def Y1j (r : Rp) (up : Bool) : List (Int × Int) × Int := if Y1m r = true then (facL r up (r.hs.length - 1), 0) else ([], 1)
theorem Y1y {r : Rp} (h : Y1m r = true) : 2 ≤ r.hs.length ∧ r.hs.length ≤ 10 := by
  unfold Y1m at h
  rw [Bool.and_eq_true, decide_eq_true_eq] at h
  exact h.1
theorem Y3b {r : Rp} (h : Y1m r = true) {i : Nat} {x : Hd} (hx : r.hs[i]? = some x) : Y26 (endH r.hs.length i) x = true := by
  unfold Y1m at h
  rw [Bool.and_eq_true, List.all_eq_true] at h
  have := h.2 i (List.mem_range.2 (List.getElem?_eq_some_iff.1 hx).1)
  rw [hx] at this
  exact this
theorem Ybl {r : Rp} (h1 : 2 ≤ r.hs.length ∧ r.hs.length ≤ 10) (h2 : ∀ i x, r.hs[i]? = some x → Y26 (endH r.hs.length i) x = true) : Y1m r = true := by
  unfold Y1m
  rw [Bool.and_eq_true, List.all_eq_true, decide_eq_true_eq]
  refine ⟨h1, fun i hi => ?_⟩
  obtain ⟨x, hx⟩ : ∃ y, r.hs[i]? = some y := ⟨_, List.getElem?_eq_getElem (List.mem_range.1 hi)⟩
  rw [hx]
  exact h2 i _ hx
theorem rightR_not {r : Rp} {i : Nat} {x : Hd} (hx : r.hs[i]? = some x) (h : Y26 (endH r.hs.length i) x = false) : Y1m r = false := by
  cases hr : Y1m r
  · rfl
  · rw [Y3b hr hx] at h; cases h
theorem Y1z {e : Bool} {h : Hd} (k : Y26 e h = true) : lossy h.n h.d = true := by
  unfold Y26 at k
  rw [Bool.and_eq_true] at k
  exact k.1
theorem Y52 {hs : List Hd} {up : Bool} : ∀ (k : Nat), k ≤ 8 → (∀ i x, 1 ≤ i → i ≤ k → hs[i]? = some x → lossy x.n x.d = true) → FB (facK hs up k) (100 ^ k)
  | 0, _, _ => show FB (1, 1) 1 from ⟨by decide, by decide, by decide, by decide⟩
  | k + 1, hk, h => by
    have ih := Y52 (up := up) k (by omega) fun i x h1 h2 => h i x h1 (by omega)
    have hl : FB (Ydt hs (k + 1)) 100 := by
      unfold Ydt
      split
      · rename_i x hx
        exact Y5q (h (k + 1) x (by omega) (Nat.le_refl _) hx)
      · exact ⟨by decide, by decide, by decide, by decide⟩
    have hp : 100 ^ k * 100 ≤ 1152921504606846976 := by
      have : 100 ^ k ≤ 100 ^ 7 := Nat.pow_le_pow_right (by decide) (by omega)
      omega
    rw [Nat.pow_succ]
    simp only [facK, stepF]
    split
    · exact (ih.mul hl hp).2
    · exact (ih.div hl hp).2
theorem Yc8 {hs : List Hd} {up : Bool} {k : Nat} (hk : k ≤ 7) (h : ∀ i x, 1 ≤ i → i ≤ k → hs[i]? = some x → lossy x.n x.d = true) {x : Hd} (hx : hs[k + 1]? = some x) (hl : lossy x.n x.d = true) : mulR (facK hs up k) (x.n, x.d) = ((mulR (facK hs up k) (x.n, x.d)).1, 0) ∧ divR (facK hs up k) (x.n, x.d) = ((divR (facK hs up k) (x.n, x.d)).1, 0) ∧ facK hs up (k + 1) = if up = true then (mulR (facK hs up k) (x.n, x.d)).1 else (divR (facK hs up k) (x.n, x.d)).1 := by
  have ih := Y52 (up := up) k (by omega) h
  have hp : 100 ^ k * 100 ≤ 1152921504606846976 := by
    have : 100 ^ k ≤ 100 ^ 7 := Nat.pow_le_pow_right (by decide) hk
    omega
  refine ⟨Prod.ext rfl (ih.mul (Y5q hl) hp).1, Prod.ext rfl (ih.div (Y5q hl) hp).1, ?_⟩
  simp only [facK, stepF, Ydt, hx]
def gripT (n : Nat) (F : Nat → Int × Int) (i : Nat) (h : Hd) : (Int × Int) × Int :=
  if i = 0 then mulP (h.p, 1) (F 0) else if i + 1 = n then mulP (h.p, 1) (F (n - 2)) else if (addP (F (i - 1)) (F i)).2 = 0 then mulP (h.p.tdiv 2, 1) (addP (F (i - 1)) (F i)).1 else ((0, 0), (addP (F (i - 1)) (F i)).2)
def gripA (n : Nat) (F : Nat → Int × Int) (nm : ByteArray) : List Hd → Nat → Int × Int → (Int × Int) × Int
  | [], _, c => (c, 0)
  | h :: l, i, c => if h.b = nm then (if (gripT n F i h).2 = 0 then (if (addP c (gripT n F i h).1).2 = 0 then gripA n F nm l (i + 1) (addP c (gripT n F i h).1).1 else ((0, 0), (addP c (gripT n F i h).1).2)) else ((0, 0), (gripT n F i h).2)) else gripA n F nm l (i + 1) c
def gripP (r : Rp) (up : Bool) (nm : ByteArray) : (Int × Int) × Int := gripA r.hs.length (facK r.hs up) nm r.hs 0 (0, 1)
def Y11 (r : Rp) (up : Bool) : List Bk → List (Int × Int) → List (Int × Int) × Int
  | [], acc => (acc, 0)
  | b :: l, acc => if (gripP r up b.nm).2 = 0 then Y11 r up l (acc ++ [(gripP r up b.nm).1]) else ([], (gripP r up b.nm).2)
def dotV : List (Int × Int) → List (Int × Int) → Int × Int → (Int × Int) × Int
  | a :: la, b :: lb, s => if (mulP a b).2 = 0 then (if (addP s (mulP a b).1).2 = 0 then dotV la lb (addP s (mulP a b).1).1 else ((0, 0), (addP s (mulP a b).1).2)) else ((0, 0), (mulP a b).2)
  | _, _, s => (s, 0)
theorem Ycc {a b : List (Int × Int)} {k : Nat} {x y : Int × Int} (ha : a[k]? = some x) (hb : b[k]? = some y) (s : Int × Int) : dotV (a.drop k) (b.drop k) s = if (mulP x y).2 = 0 then (if (addP s (mulP x y).1).2 = 0 then dotV (a.drop (k + 1)) (b.drop (k + 1)) (addP s (mulP x y).1).1 else ((0, 0), (addP s (mulP x y).1).2)) else ((0, 0), (mulP x y).2) := by
  rw [List.drop_eq_getElem_cons (List.getElem?_eq_some_iff.1 ha).1, List.drop_eq_getElem_cons (List.getElem?_eq_some_iff.1 hb).1, (List.getElem?_eq_some_iff.1 ha).2, (List.getElem?_eq_some_iff.1 hb).2]
  rfl
def pairA (load grip : List (Int × Int)) : List (List (Int × Int)) → List (Int × Int) → List (Int × Int) → (List (Int × Int) × List (Int × Int)) × Int
  | [], w, p => ((w, p), 0)
  | x :: l, w, p => if (dotV x load (0, 1)).2 = 0 then (if (dotV x grip (0, 1)).2 = 0 then pairA load grip l (w ++ [(dotV x load (0, 1)).1]) (p ++ [(dotV x grip (0, 1)).1]) else (([], []), (dotV x grip (0, 1)).2)) else (([], []), (dotV x load (0, 1)).2)
def nzI (l : List (Int × Int)) : Int := idx (fun x => x.1 != 0) l 0
def balR (t : Int × Int) : List (Int × Int) → List (Int × Int) → Bool → Bool × Int
  | p :: ps, w :: ws, ok => if (mulP p t).2 = 0 then balR t ps ws (ok && decide ((mulP p t).1 = w)) else (false, (mulP p t).2)
  | _, _, ok => (ok, 0)
def balP (w p : List (Int × Int)) : (Int × Int) × Int :=
  if nzI p < 0 then ((0, 0), if nzI w < 0 then 21 else 22)
  else if (divP (w.getD (nzI p).toNat (0, 0)) (p.getD (nzI p).toNat (0, 0))).2 = 0 then
    (if (balR (divP (w.getD (nzI p).toNat (0, 0)) (p.getD (nzI p).toNat (0, 0))).1 p w true).2 = 0 then
      (if (balR (divP (w.getD (nzI p).toNat (0, 0)) (p.getD (nzI p).toNat (0, 0))).1 p w true).1 = false then ((0, 0), 22)
       else if (divP (w.getD (nzI p).toNat (0, 0)) (p.getD (nzI p).toNat (0, 0))).1.1 < 0 then ((0, 0), 13)
       else ((divP (w.getD (nzI p).toNat (0, 0)) (p.getD (nzI p).toNat (0, 0))).1, 0))
     else ((0, 0), (balR (divP (w.getD (nzI p).toNat (0, 0)) (p.getD (nzI p).toNat (0, 0))).1 p w true).2))
  else ((0, 0), (divP (w.getD (nzI p).toNat (0, 0)) (p.getD (nzI p).toNat (0, 0))).2)
def lossR (r : Rp) : Bool := r.hs.any fun h => !(h.n == 1 && h.d == 1)
def givL (s : Sy) : Int := if Y0f s = true then (if hix s < 0 then 12 else if (s.rs.any fun r => !r.hl && lossR r) = true then 11 else 0) else 1
end Go.Proofs.YtpcakodemleoiaaGreat.T

namespace Go.Proofs.YtpcakodemleoiaaGreat.T
open Go Go.RowKit Lin
theorem gdta4_AC {C1 C2 C3 C4 P Q : Prop} (c1 : C1) (c2 : C2) (c3 : C3) (c4 : C4) (q : Q) (h : C1 → C2 → C3 → C4 → Q → P := by
 intro cc1 cc2 cc3 cc4 hq
 (try with_reducible intro KR hKR)
 (repeat refine Y01 ?_); (repeat refine Y01 ?_); (refine Y0a tab_ok Y08 2 fun KR hKR => ?_); simp only [List.replicate_succ, List.replicate_zero, List.append_nil, List.nil_append, List.cons_append, List.length_cons, List.length_nil, Nat.reduceAdd]; (repeat' ((first | refine awD_n rfl fun KK hKK => ?_ | refine awD_g rfl rfl fun KK hKK => ?_ | refine Y1a rfl fun KK hKK => ?_ | refine Y19 fun KK hKK => ?_); simp (disch := omega) only [bb, bt, zDs, zD, Y00, simprocAttr, bne_self_eq_false, Int.reduceBNe, Int.reduceBEq, Bool.bne_false, Bool.bne_true, Bool.false_bne, Bool.true_bne, goCDS, Y0e, argsZ, argsD, ufa, uf]; (try ((first | with_reducible refine PGive.ret (cc1) ?_ | with_reducible refine PGive.ret (cc2) ?_ | with_reducible refine PGive.ret (cc3) ?_ | with_reducible refine PGive.ret (cc4) ?_); simp (disch := omega) only [bb, bt, zDs, zD, Y00, simprocAttr, Y0x, bne_self_eq_false, Int.reduceBNe, Int.reduceBEq, Bool.bne_false, Bool.bne_true, Bool.false_bne, Bool.true_bne])); refine hKK _ _ _ ?_; clear hKK KK)); (refine Y0n ?_); simp only [List.reverse_cons, List.reverse_nil, List.nil_append, List.cons_append]; (refine hKR _ _ (by first | rfl | kernel_rfl) ?_); (try clear hKR KR); (repeat (with_reducible first | refine q1 ?_ | refine q2 ?_ | refine q3 ?_ | refine q4 ?_ | refine q5 ?_ | refine q6 ?_ | (refine q7 ?_ ?_; (focus (with_unfolding_all rfl)))))
 (first | exact hq | (revert hKR; revert KR; exact hq))) : P := h c1 c2 c3 c4 q
theorem Yce {n u D V : Int} (hD : 0 < D) (hV : 0 < V) : ((n < 0 ∧ ¬ u < 0) → cmpV (n, D) (u, V) = -1) ∧ ((¬ n < 0 ∧ u < 0) → cmpV (n, D) (u, V) = 1) := by
 constructor
 ·rintro ⟨h1, h2⟩
  have a := Int.mul_neg_of_neg_of_pos h1 hV
  have b := Int.mul_nonneg (show 0 ≤ u by omega) (show 0 ≤ D by omega)
  unfold cmpV
  rw [if_pos (by simp only; omega)]
 ·rintro ⟨h1, h2⟩
  have a := Int.mul_neg_of_neg_of_pos h2 hD
  have b := Int.mul_nonneg (show 0 ≤ n by omega) (show 0 ≤ V by omega)
  unfold cmpV
  rw [if_neg (by simp only; omega), if_pos (by simp only; omega)]
theorem Yg7 {n u : Int} {D V : Nat} (h1 : ¬ n < 0) (h2 : ¬ u < 0) : cmpV (n, (D : Int)) (u, (V : Int)) = if n.natAbs * V < u.natAbs * D then -1 else if u.natAbs * D < n.natAbs * V then 1 else 0 := by
 have e1 : n * (V : Int) = ((n.natAbs * V : Nat) : Int) := by rw [Int.natCast_mul, Int.natAbs_of_nonneg (by omega)]
 have e2 : u * (D : Int) = ((u.natAbs * D : Nat) : Int) := by rw [Int.natCast_mul, Int.natAbs_of_nonneg (by omega)]
 unfold cmpV
 simp only [e1, e2, Int.ofNat_lt]
theorem Yg8 {n u : Int} {D V : Nat} (h1 : n < 0) (h2 : u < 0) : cmpV (n, (D : Int)) (u, (V : Int)) = if u.natAbs * D < n.natAbs * V then -1 else if n.natAbs * V < u.natAbs * D then 1 else 0 := by
 have e1 : n * (V : Int) = -((n.natAbs * V : Nat) : Int) := by
  rw [Int.natCast_mul, ← Int.neg_mul]
  congr 1
  omega
 have e2 : u * (D : Int) = -((u.natAbs * D : Nat) : Int) := by
  rw [Int.natCast_mul, ← Int.neg_mul]
  congr 1
  omega
 unfold cmpV
 simp only [e1, e2]
 generalize u.natAbs * D = A
 generalize n.natAbs * V = B
 by_cases h : A < B
 ·rw [if_pos h, if_pos (by omega)]
 ·rw [if_neg h, if_neg (by omega)]
  by_cases h' : B < A
  ·rw [if_pos h', if_pos (by omega)]
  ·rw [if_neg h', if_neg (by omega)]
set_option maxHeartbeats 2000000 in
theorem rCmp (a b : Int × Int) : PRet Tryz.prog 61 [frD a, frD b] (.tup [int (cmpP a b).1, int (cmpP a b).2]) := by
 obtain ⟨n, d⟩ := a
 obtain ⟨u, v⟩ := b
 have va := Y3y n d
 have vb := Y3y u v
 refine PRet.intro 2 fun t => ACall.enter tab_ok Tryz.func61 rfl rfl Tryz.ntmps61 (by simp) ?_
 simp only [Y06]
 cases ha : vfrac n d
 ·rw [ha] at va
  have e : cmpP (n, d) (u, v) = (0, 1) := by unfold cmpP; rw [if_neg (by simp [ha])]
  ((refine gga1 va ?_))
  ((repeat refine Y01 ?_); (refine wta ?_); simp (disch := omega) only [retQ, resD, oneD, rsv, rs, rsL, Y02, List.map_map, bb, bt, zDs, zD, Y00, simprocAttr, Tryz.results61, e])
 rw [ha] at va
 cases hb : vfrac u v
 ·rw [hb] at vb
  have e : cmpP (n, d) (u, v) = (0, 1) := by unfold cmpP; rw [if_neg (by simp [hb])]
  ((refine gga2 va vb ?_))
  ((repeat refine Y01 ?_); (refine wta ?_); simp (disch := omega) only [retQ, resD, oneD, rsv, rs, rsL, Y02, List.map_map, bb, bt, zDs, zD, Y00, simprocAttr, Tryz.results61, e])
 rw [hb] at vb
 rw [Yb0 ha hb]
 obtain ⟨a1, a2, a3, a4, a5⟩ := Y09 ha
 obtain ⟨b1, b2, b3, b4, b5⟩ := Y09 hb
 obtain ⟨D, rfl⟩ : ∃ D : Nat, d = (D : Int) := ⟨d.toNat, by omega⟩
 obtain ⟨V, rfl⟩ : ∃ V : Nat, v = (V : Int) := ⟨v.toNat, by omega⟩
 obtain ⟨g1, g2⟩ := Yce (n := n) (u := u) (D := (D : Int)) (V := (V : Int)) (by omega) (by omega)
 have hpos := fun h1 h2 => Yg7 (n := n) (u := u) (D := D) (V := V) h1 h2
 have hneg := fun h1 h2 => Yg8 (n := n) (u := u) (D := D) (V := V) h1 h2
 have s1 := rSize n (by omega)
 have s2 := rSize u (by omega)
 have p1 := Y1w n.natAbs V (by omega) (by omega)
 have p2 := Y1w u.natAbs D (by omega) (by omega)
 have c1 : n.natAbs * V ≤ 1152921504606846976 * 1152921504606846976 := Nat.mul_le_mul (by omega) (by omega)
 have c2 : u.natAbs * D ≤ 1152921504606846976 * 1152921504606846976 := Nat.mul_le_mul (by omega) (by omega)
 have l1 := Ya4 (n.natAbs * V) (u.natAbs * D) (by omega) (by omega)
 have l2 := Ya4 (u.natAbs * D) (n.natAbs * V) (by omega) (by omega)
 generalize cmpV (n, (D : Int)) (u, (V : Int)) = c at *
 generalize n.natAbs * V = x at *
 generalize u.natAbs * D = y at *
 ((refine gga2 va vb ?_))
 ((repeat refine Y01 ?_); (refine gdta4_AC s1 s2 p1 p2 ?_))
 ((repeat refine Y01 ?_))
 refine Y04 ?_
 by_cases hn : n < 0
 ·by_cases hu : u < 0
  ·rw [hneg hn hu]
   ((refine ggb0 (F := _∧_) ⟨hn, hu⟩ ?_))
   ((repeat refine Y01 ?_))
   refine Y04 ?_
   by_cases hyx : y < x
   ·rw [decide_eq_true hyx] at l2
    ((refine ggb2 (F := _∧_) ⟨hn, hu⟩ l1 l2 ?_))
    ((repeat refine Y01 ?_); (refine wta ?_); simp (disch := omega) only [retQ, resD, oneD, rsv, rs, rsL, Y02, List.map_map, bb, bt, zDs, zD, Y00, simprocAttr, Tryz.results61, hyx])
   ·rw [decide_eq_false hyx] at l2
    by_cases hxy : x < y
    ·rw [decide_eq_true hxy] at l1
     ((refine ggb2 (F := _∧_) ⟨hn, hu⟩ l1 l2 ?_))
     ((repeat refine Y01 ?_); (refine wta ?_); simp (disch := omega) only [retQ, resD, oneD, rsv, rs, rsL, Y02, List.map_map, bb, bt, zDs, zD, Y00, simprocAttr, Tryz.results61, hyx, hxy])
    ·rw [decide_eq_false hxy] at l1
     ((refine ggb2 (F := _∧_) ⟨hn, hu⟩ l1 l2 ?_))
     ((repeat refine Y01 ?_); (refine wta ?_); simp (disch := omega) only [retQ, resD, oneD, rsv, rs, rsL, Y02, List.map_map, bb, bt, zDs, zD, Y00, simprocAttr, Tryz.results61, hyx, hxy])
  ·rw [g1 ⟨hn, hu⟩]
   ((refine ggb0 (F := _∧_) ⟨hn, hu⟩ ?_))
   ((repeat refine Y01 ?_); (refine wta ?_); simp (disch := omega) only [retQ, resD, oneD, rsv, rs, rsL, Y02, List.map_map, bb, bt, zDs, zD, Y00, simprocAttr, Tryz.results61])
 ·by_cases hu : u < 0
  ·rw [g2 ⟨hn, hu⟩]
   ((refine ggb0 (F := _∧_) ⟨hn, hu⟩ ?_))
   ((repeat refine Y01 ?_); (refine wta ?_); simp (disch := omega) only [retQ, resD, oneD, rsv, rs, rsL, Y02, List.map_map, bb, bt, zDs, zD, Y00, simprocAttr, Tryz.results61])
  ·rw [hpos hn hu]
   ((refine ggb0 (F := _∧_) ⟨hn, hu⟩ ?_))
   ((repeat refine Y01 ?_))
   refine Y04 ?_
   by_cases hxy : x < y
   ·rw [decide_eq_true hxy] at l1
    ((refine ggb2 (F := _∧_) ⟨hn, hu⟩ l1 l2 ?_))
    ((repeat refine Y01 ?_); (refine wta ?_); simp (disch := omega) only [retQ, resD, oneD, rsv, rs, rsL, Y02, List.map_map, bb, bt, zDs, zD, Y00, simprocAttr, Tryz.results61, hxy])
   ·rw [decide_eq_false hxy] at l1
    by_cases hyx : y < x
    ·rw [decide_eq_true hyx] at l2
     ((refine ggb2 (F := _∧_) ⟨hn, hu⟩ l1 l2 ?_))
     ((repeat refine Y01 ?_); (refine wta ?_); simp (disch := omega) only [retQ, resD, oneD, rsv, rs, rsL, Y02, List.map_map, bb, bt, zDs, zD, Y00, simprocAttr, Tryz.results61, hxy, hyx])
    ·rw [decide_eq_false hyx] at l2
     ((refine ggb2 (F := _∧_) ⟨hn, hu⟩ l1 l2 ?_))
     ((repeat refine Y01 ?_); (refine wta ?_); simp (disch := omega) only [retQ, resD, oneD, rsv, rs, rsL, Y02, List.map_map, bb, bt, zDs, zD, Y00, simprocAttr, Tryz.results61, hxy, hyx])
end Go.Proofs.YtpcakodemleoiaaGreat.T

namespace Go.Proofs.YtpcakodemleoiaaGreat.T
open Go Go.RowKit Lin
theorem Y2s (n : Int) : PRet Tryz.prog 66 [int n] (frD (n, 1)) := by
 refine PRet.intro 1 fun t => ACall.enter tab_ok Tryz.func66 rfl rfl Tryz.ntmps66 (by simp) ?_
 simp only [Y06]
 ((refine gga0 ?_))
 ((repeat refine Y01 ?_); (refine wta ?_); simp (disch := omega) only [retQ, resD, oneD, rsv, rs, rsL, Y02, List.map_map, bb, bt, zDs, zD, Y00, simprocAttr, Tryz.results66])
theorem lossy14 (n d : Int) : PRet Tryz.prog 108 [frD (n, d)] (bool (lossy n d)) := by
 refine PRet.intro 1 fun t => ACall.enter tab_ok Tryz.func108 rfl rfl Tryz.ntmps108 (by simp) ?_
 simp only [Y06]
 have hc := Y3y n d
 cases hv : vfrac n d
 ·rw [hv] at hc
  ((refine gga1 hc ?_))
  ((repeat refine Y01 ?_); (refine wta ?_); simp (disch := omega) only [retQ, resD, oneD, rsv, rs, rsL, Y02, List.map_map, bb, bt, zDs, zD, Y00, simprocAttr, Tryz.results108, lossy, hv])
 ·rw [hv] at hc
  by_cases h1 : d ≤ n <;> by_cases h2 : n ≤ 100 <;>
  ·((refine ggb1 (F := _∧_) ⟨h1, h2⟩ hc ?_))
   ((repeat refine Y01 ?_); (refine wta ?_); simp (disch := omega) only [retQ, resD, oneD, rsv, rs, rsL, Y02, List.map_map, bb, bt, zDs, zD, Y00, simprocAttr, Tryz.results108, lossy, hv, h1, h2])
set_option maxHeartbeats 4000000 in
theorem sum14 (a b : List (Int × Int)) (hl : a.length ≤ b.length) (hb : b.length ≤ 1000) : PRet Tryz.prog 83 [frs a, frs b] (fe (dotV a b (0, 1))) := by
 refine PRet.intro 1 fun t => ACall.enter tab_ok Tryz.func83 rfl rfl Tryz.ntmps83 (by simp) ?_
 simp only [Y06]
 have hw0 := Y2s 0
 have had := Y2q a
 have hbd := Y2q b
 generalize hdd : dotV a b (0, 1) = R at *
 ((refine ggb1 had hw0 ?_))
 ((repeat refine Y01 ?_))
 refine Y0j (fun x : Nat => ⟨[(4, .ptr 0 (t + 1) 0), (6, .ptr 1 (t + 1 + 1) 0)], [some ⟨33, t + 1, [int 0, int 0]⟩, some ⟨33, t + 1 + 1, [int R.1.1, int R.1.2]⟩], x⟩) (fun _ => R.2 = 0) ?_ ?_
 ·refine Y04 ?_
  refine Y07 (fun x : (Int × Int) × Nat × Nat => ⟨[(0, frs a), (1, frs b), (4, .ptr 0 (t + 1) 0), (6, .ptr 1 (t + 1 + 1) 0), (12, int a.length), (13, int x.2.1)], [some ⟨33, t + 1, [int 0, int 0]⟩, some ⟨33, t + 1 + 1, [int x.1.1, int x.1.2]⟩], x.2.2⟩) (fun x => a.length - x.2.1) (fun x => x.2.1 ≤ a.length ∧ dotV (a.drop x.2.1) (b.drop x.2.1) x.1 = R) ((0, 1), 0, t + 1 + 1) ⟨Nat.zero_le _, hdd⟩ (by (simp (disch := omega) only [StLe, tmLe, Y03, hpLe, bl, bb, bt, zDs, zD, Y00, simprocAttr])) ?_
  rintro ⟨c, k, tt⟩ ⟨hk, hd⟩
  simp only at hk hd
  by_cases hlt : k < a.length
  ·obtain ⟨x, hx⟩ : ∃ y, a[k]? = some y := ⟨_, List.getElem?_eq_getElem hlt⟩
   obtain ⟨y, hy⟩ : ∃ y, b[k]? = some y := ⟨_, List.getElem?_eq_getElem (by omega)⟩
   have hra := Y0p a k x hx
   have hrb := Y0p b k y hy
   have hkb : k < b.length := by omega
   rw [Ycc hx hy] at hd
   have hM := rMul x y
   generalize mulP x y = Y at *
   ((refine ggb0 (F := _∧_) ⟨@Int.ofNat_lt, hlt⟩ ?_))
   ((repeat refine Y01 ?_))
   refine Y04 ?_
   ((refine gga0 ?_))
   ((repeat refine Y01 ?_); (refine gdob1 (F := _∧_∧_∧_∧_∧_) ⟨hlt, hkb, had, hbd, hra, hrb⟩ hM ?_))
   by_cases hy0 : Y.2 = 0
   rotate_left 1
   ·have e4 : (Y.2 != 0) = true := by simpa using hy0
    rw [if_neg hy0] at hd
    subst hd
    ((refine ggb0 e4 ?_))
    ((repeat refine Y01 ?_); (refine wta ?_); simp (disch := omega) only [retQ, resD, oneD, rsv, rs, rsL, Y02, List.map_map, bb, bt, zDs, zD, Y00, simprocAttr, Tryz.results83])
   have e4 : (Y.2 != 0) = false := by simpa using hy0
   rw [if_pos hy0] at hd
   have hA := rAdd c Y.1
   generalize addP c Y.1 = Q at *
   by_cases hq : Q.2 = 0
   rotate_left 1
   ·have e5 : (Q.2 != 0) = true := by simpa using hq
    rw [if_neg hq] at hd
    subst hd
    ((refine ggb1 (F := _∧_) ⟨e4, e5⟩ hA ?_))
    ((repeat refine Y01 ?_); (refine wta ?_); simp (disch := omega) only [retQ, resD, oneD, rsv, rs, rsL, Y02, List.map_map, bb, bt, zDs, zD, Y00, simprocAttr, Tryz.results83])
   have e5 : (Q.2 != 0) = false := by simpa using hq
   rw [if_pos hq] at hd
   ((refine ggb1 (F := _∧_) ⟨e4, e5⟩ hA ?_))
   refine ⟨(Q.1, k + 1, tt + 1 + 1), ⟨hlt, hd⟩, by show a.length - (k + 1) < a.length - k; omega, ?_⟩
   (simp (disch := omega) only [StLe, tmLe, Y03, hpLe, bl, bb, bt, zDs, zD, Y00, simprocAttr])
  ·have hke : k = a.length := by omega
   subst hke
   have hde : dotV (a.drop a.length) (b.drop a.length) c = (c, 0) := by
    rw [List.drop_eq_nil_of_le (Nat.le_refl _)]
    cases b.drop a.length <;> rfl
   rw [hde] at hd
   subst hd
   ((refine wqb @Int.lt_irrefl ?_))
   ((refine wia ?_))
   ((refine wxa ?_))
   exact ⟨tt, rfl, by (simp (disch := omega) only [StLe, tmLe, Y03, hpLe, bl, bb, bt, zDs, zD, Y00, simprocAttr])⟩
 rintro tt hR
 have er : fe R = .tup [frD R.1, int 0] := by show D.tup [frD R.1, int R.2] = _; rw [hR]
 rw [er]
 ((refine gga0 ?_))
 ((repeat refine Y01 ?_); (refine wta ?_); simp (disch := omega) only [retQ, resD, oneD, rsv, rs, rsL, Y02, List.map_map, bb, bt, zDs, zD, Y00, simprocAttr, Tryz.results83])
theorem bal14_1 (x : Int × Int) : PRet Tryz.prog 113 [frD x] (bool (x.1 != 0)) := by
 refine PRet.intro 1 fun t => ACall.enter tab_ok Tryz.func113 rfl rfl Tryz.ntmps113 (by simp) ?_
 simp only [Y06]
 ((refine gga0 ?_))
 ((repeat refine Y01 ?_); (refine wta ?_); simp (disch := omega) only [retQ, resD, oneD, rsv, rs, rsL, Y02, List.map_map, bb, bt, zDs, zD, Y00, simprocAttr, Tryz.results113])
theorem Yge (l : List (Int × Int)) (hl : l.length ≤ 1000) : PRet Tryz.prog 111 [frs l] (int (nzI l)) := by
 refine PRet.intro 1 fun t => ACall.enter tab_ok Tryz.func111 rfl rfl Tryz.ntmps111 (by simp) ?_
 simp only [Y06]
 have hI := indexFuncFr l 113 [] (fun x => x.1 != 0) (by omega) (fun x _ => bal14_1 x)
 unfold nzI
 ((refine gga1 hI ?_))
 ((repeat refine Y01 ?_); (refine wta ?_); simp (disch := omega) only [retQ, resD, oneD, rsv, rs, rsL, Y02, List.map_map, bb, bt, zDs, zD, Y00, simprocAttr, Tryz.results111])
theorem balR_step {t x y : Int × Int} {p w : List (Int × Int)} {k : Nat} (hp : p[k]? = some x) (hw : w[k]? = some y) (ok : Bool) : balR t (p.drop k) (w.drop k) ok = if (mulP x t).2 = 0 then balR t (p.drop (k + 1)) (w.drop (k + 1)) (ok && decide ((mulP x t).1 = y)) else (false, (mulP x t).2) := by
 rw [List.drop_eq_getElem_cons (List.getElem?_eq_some_iff.1 hp).1, List.drop_eq_getElem_cons (List.getElem?_eq_some_iff.1 hw).1, (List.getElem?_eq_some_iff.1 hp).2, (List.getElem?_eq_some_iff.1 hw).2]
 rfl
theorem fr_dec (a b : Int × Int) : (a.1 == b.1 && a.2 == b.2) = decide (a = b) := by
 obtain ⟨a1, a2⟩ := a
 obtain ⟨b1, b2⟩ := b
 rw [Bool.eq_iff_iff]
 simp
theorem nz_hit {l : List (Int × Int)} (h : 0 ≤ nzI l) : ∃ (k : Nat) (x : Int × Int), nzI l = (k : Int) ∧ l[k]? = some x := by
 obtain ⟨h1, h2⟩ := Y6l (fun x : Int × Int => x.1 != 0) l 0
 unfold nzI at h ⊢
 cases ha : l.any (fun x => x.1 != 0)
 ·have := h2 ha
  omega
 ·obtain ⟨k, x, e, hx, _⟩ := h1 ha
  exact ⟨k, x, by rw [e]; simp, hx⟩
set_option maxRecDepth 100000 in
set_option maxHeartbeats 8000000 in
theorem balance14 (w p : List (Int × Int)) (hl : w.length = p.length) (hb : p.length ≤ 1000) : PRet Tryz.prog 84 [frs w, frs p] (fe (balP w p)) := by
 refine PRet.intro 1 fun t => ACall.enter tab_ok Tryz.func84 rfl rfl Tryz.ntmps84 (by simp) ?_
 simp only [Y06]
 have hN1 := Yge p hb
 have hN2 := Yge w (by omega)
 have hwd := Y2q w
 have hpd := Y2q p
 by_cases h0 : nzI p < 0
 ·by_cases h1 : nzI w < 0
  ·have e : balP w p = ((0, 0), 21) := by unfold balP; rw [if_pos h0, if_pos h1]
   rw [e]
   ((refine ggb2 (F := _∧_) ⟨h0, h1⟩ hN1 hN2 ?_))
   ((repeat refine Y01 ?_); (refine wta ?_); simp (disch := omega) only [retQ, resD, oneD, rsv, rs, rsL, Y02, List.map_map, bb, bt, zDs, zD, Y00, simprocAttr, Tryz.results84])
  ·have e : balP w p = ((0, 0), 22) := by unfold balP; rw [if_pos h0, if_neg h1]
   rw [e]
   ((refine ggb2 (F := _∧_) ⟨h0, h1⟩ hN1 hN2 ?_))
   ((repeat refine Y01 ?_); (refine wta ?_); simp (disch := omega) only [retQ, resD, oneD, rsv, rs, rsL, Y02, List.map_map, bb, bt, zDs, zD, Y00, simprocAttr, Tryz.results84])
 obtain ⟨j, x, hj, hx⟩ := nz_hit (l := p) (by omega)
 have hjp := (List.getElem?_eq_some_iff.1 hx).1
 obtain ⟨y, hy⟩ : ∃ z, w[j]? = some z := ⟨_, List.getElem?_eq_getElem (by omega)⟩
 have hjw : j < w.length := by omega
 unfold balP
 rw [if_neg h0]
 rw [hj] at h0 hN1 ⊢
 rw [Int.toNat_natCast, List.getD_eq_getElem?_getD, hy, List.getD_eq_getElem?_getD, hx, Option.getD_some, Option.getD_some]
 have hrx := Y0p p j x hx
 have hry := Y0p w j y hy
 have hD := rDiv y x
 generalize divP y x = T at *
 obtain ⟨f, te⟩ := T
 simp only at *
 ((refine ggb1 h0 hN1 ?_))
 ((repeat refine Y01 ?_); (refine gdob1 (F := _∧_∧_∧_∧_∧_) ⟨hjp, hjw, hwd, hpd, hrx, hry⟩ hD ?_))
 by_cases ht : te = 0
 rotate_left 1
 ·have e1 : (te != 0) = true := by simpa using ht
  rw [if_neg ht]
  ((refine ggb0 e1 ?_))
  ((repeat refine Y01 ?_); (refine wta ?_); simp (disch := omega) only [retQ, resD, oneD, rsv, rs, rsL, Y02, List.map_map, bb, bt, zDs, zD, Y00, simprocAttr, Tryz.results84])
 subst ht
 rw [if_pos rfl]
 generalize hdd : balR f p w true = R at *
 ((refine ggb0 hpd ?_))
 ((repeat refine Y01 ?_))
 refine Y0j (fun x : Nat => ⟨[(4, .ptr 0 (t + 1) 0), (8, .ptr 1 (t + 1 + 1) 0), (10, bool R.1)], [some ⟨33, t + 1, [int 0, int 0]⟩, some ⟨33, t + 1 + 1, [int f.1, int f.2]⟩], x⟩) (fun _ => R.2 = 0) ?_ ?_
 ·refine Y04 ?_
  refine Y07 (fun x : Bool × Nat × Nat => ⟨[(0, frs w), (1, frs p), (4, .ptr 0 (t + 1) 0), (8, .ptr 1 (t + 1 + 1) 0), (10, bool x.1), (42, int p.length), (43, int x.2.1)], [some ⟨33, t + 1, [int 0, int 0]⟩, some ⟨33, t + 1 + 1, [int f.1, int f.2]⟩], x.2.2⟩) (fun x => p.length - x.2.1) (fun x => x.2.1 ≤ p.length ∧ balR f (p.drop x.2.1) (w.drop x.2.1) x.1 = R) (true, 0, t + 1 + 1) ⟨Nat.zero_le _, hdd⟩ (by (simp (disch := omega) only [StLe, tmLe, Y03, hpLe, bl, bb, bt, zDs, zD, Y00, simprocAttr])) ?_
  rintro ⟨ok, k, tt⟩ ⟨hk, hd⟩
  simp only at hk hd
  by_cases hlt : k < p.length
  ·obtain ⟨a, ha⟩ : ∃ y, p[k]? = some y := ⟨_, List.getElem?_eq_getElem hlt⟩
   have hkw : k < w.length := by omega
   obtain ⟨b, hb⟩ : ∃ y, w[k]? = some y := ⟨_, List.getElem?_eq_getElem hkw⟩
   have hra := Y0p p k a ha
   have hrb := Y0p w k b hb
   rw [balR_step ha hb] at hd
   have hM := rMul a f
   generalize mulP a f = M at *
   have hdec := fr_dec M.1 b
   ((refine ggb0 (F := _∧_) ⟨@Int.ofNat_lt, hlt⟩ ?_))
   ((repeat refine Y01 ?_))
   refine Y04 ?_
   ((refine gga0 ?_))
   ((repeat refine Y01 ?_); (refine gdob1 (F := _∧_∧_) ⟨hlt, hpd, hra⟩ hM ?_))
   by_cases hm : M.2 = 0
   rotate_left 1
   ·have e1 : (M.2 != 0) = true := by simpa using hm
    rw [if_neg hm] at hd
    subst hd
    ((refine ggb0 e1 ?_))
    rw [if_neg hm]
    ((repeat refine Y01 ?_); (refine wta ?_); simp (disch := omega) only [retQ, resD, oneD, rsv, rs, rsL, Y02, List.map_map, bb, bt, zDs, zD, Y00, simprocAttr, Tryz.results84])
   have e1 : (M.2 != 0) = false := by simpa using hm
   rw [if_pos hm] at hd
   cases ok
   ·rw [Bool.false_and] at hd
    ((refine ggb0 e1 ?_))
    ((repeat refine Y01 ?_); (refine gdzb (F := _∧_∧_) ⟨hkw, hwd, hrb⟩ ?_))
    ((refine gga0 ?_))
    refine ⟨(false, k + 1, tt + 1 + 1 + 1), ⟨hlt, hd⟩, by show p.length - (k + 1) < p.length - k; omega, ?_⟩
    (simp (disch := omega) only [StLe, tmLe, Y03, hpLe, bl, bb, bt, zDs, zD, Y00, simprocAttr])
   ·rw [Bool.true_and] at hd
    ((refine ggb0 e1 ?_))
    ((repeat refine Y01 ?_); (refine gdzb (F := _∧_∧_∧_) ⟨hkw, hwd, hrb, hdec⟩ ?_))
    ((refine gga0 ?_))
    refine ⟨(decide (M.1 = b), k + 1, tt + 1 + 1 + 1), ⟨hlt, hd⟩, by show p.length - (k + 1) < p.length - k; omega, ?_⟩
    (simp (disch := omega) only [StLe, tmLe, Y03, hpLe, bl, bb, bt, zDs, zD, Y00, simprocAttr])
  ·have hke : k = p.length := by omega
   subst hke
   have hde : balR f (p.drop p.length) (w.drop p.length) ok = (ok, 0) := by
    rw [List.drop_eq_nil_of_le (Nat.le_refl _)]
    cases w.drop p.length <;> rfl
   rw [hde] at hd
   subst hd
   ((refine wqb @Int.lt_irrefl ?_))
   ((refine wia ?_))
   ((refine wxa ?_))
   exact ⟨tt, rfl, by (simp (disch := omega) only [StLe, tmLe, Y03, hpLe, bl, bb, bt, zDs, zD, Y00, simprocAttr])⟩
 rintro tt hR
 rw [if_pos hR]
 ((repeat refine Y01 ?_))
 refine Y04 ?_
 cases hR1 : R.1
 ·rw [if_pos rfl]
  ((refine ggb0 hR1 ?_))
  ((repeat refine Y01 ?_); (refine wta ?_); simp (disch := omega) only [retQ, resD, oneD, rsv, rs, rsL, Y02, List.map_map, bb, bt, zDs, zD, Y00, simprocAttr, Tryz.results84])
 ·rw [if_neg (by decide)]
  by_cases hf : f.1 < 0
  ·rw [if_pos hf]
   ((refine ggb0 (F := _∧_) ⟨hR1, hf⟩ ?_))
   ((repeat refine Y01 ?_); (refine wta ?_); simp (disch := omega) only [retQ, resD, oneD, rsv, rs, rsL, Y02, List.map_map, bb, bt, zDs, zD, Y00, simprocAttr, Tryz.results84])
  ·rw [if_neg hf]
   ((refine ggb0 (F := _∧_) ⟨hR1, hf⟩ ?_))
   ((repeat refine Y01 ?_); (refine wta ?_); simp (disch := omega) only [retQ, resD, oneD, rsv, rs, rsL, Y02, List.map_map, bb, bt, zDs, zD, Y00, simprocAttr, Tryz.results84])
theorem Yav {α : Type} {p : α → Bool} : ∀ (l : List α) (k i : Nat) (a b : α), (l.filter p).length ≤ 1 → l[k]? = some a → l[i]? = some b → p a = true → p b = true → k = i
 | [], k, i, a, b, _, h, _, _, _ => by simp at h
 | x :: l, 0, 0, a, b, _, _, _, _, _ => rfl
 | x :: l, 0, i + 1, a, b, h, h1, h2, pa, pb => by
  simp only [List.getElem?_cons_zero, Option.some.injEq] at h1
  subst h1
  rw [List.filter_cons_of_pos pa, List.length_cons] at h
  simp only [List.getElem?_cons_succ] at h2
  have := List.length_pos_of_mem (List.mem_filter.2 ⟨List.mem_of_getElem? h2, pb⟩)
  omega
 | x :: l, k + 1, 0, a, b, h, h1, h2, pa, pb => by
  simp only [List.getElem?_cons_zero, Option.some.injEq] at h2
  subst h2
  rw [List.filter_cons_of_pos pb, List.length_cons] at h
  simp only [List.getElem?_cons_succ] at h1
  have := List.length_pos_of_mem (List.mem_filter.2 ⟨List.mem_of_getElem? h1, pa⟩)
  omega
 | x :: l, k + 1, i + 1, a, b, h, h1, h2, pa, pb => by
  simp only [List.getElem?_cons_succ] at h1 h2
  refine congrArg (· + 1) (Yav l k i a b (Nat.le_trans ?_ h) h1 h2 pa pb)
  rw [List.filter_cons]
  split
  ·simp
  ·exact Nat.le_refl _
theorem containsFuncHd (l : List Hd) (g : FuncId) (caps : List D) (p : Hd → Bool) (hl : l.length ≤ 1000000) (hp : ∀ x ∈ l, PRet Tryz.prog g ((.agg (hd1 x) :: caps).map ufa) (bool (p x))) : PRet Tryz.prog 50 [hds l, .fn g caps] (bool (l.any p)) := by
 refine PRet.intro 1 fun t => ACall.enter tab_ok Tryz.func50 rfl rfl Tryz.ntmps50 (by simp) ?_
 simp only [Y06]
 have hI := indexFuncHd l g caps p hl hp
 have hA : decide (0 ≤ idx p l 0) = l.any p := by
  obtain ⟨h1, h2⟩ := Y6l p l 0
  cases ha : l.any p
  ·rw [h2 ha]; rfl
  ·obtain ⟨k, x, e, _⟩ := h1 ha
   rw [e]
   simp
 generalize idx p l 0 = z at *
 ((refine gga1 hI ?_))
 ((repeat refine Y01 ?_); (refine wta ?_); simp (disch := omega) only [retQ, resD, oneD, rsv, rs, rsL, Y02, List.map_map, bb, bt, zDs, zD, Y00, simprocAttr, Tryz.results50, hA])
theorem giv14_1 (r : Rp) : PRet Tryz.prog 106 [.agg (rp1 r)] (bool r.hl) := by
 refine PRet.intro 1 fun t => ACall.enter tab_ok Tryz.func106 rfl rfl Tryz.ntmps106 (by simp) ?_
 simp only [Y06]
 ((refine gga0 ?_))
 ((repeat refine Y01 ?_); (refine wta ?_); simp (disch := omega) only [retQ, resD, oneD, rsv, rs, rsL, Y02, List.map_map, bb, bt, zDs, zD, Y00, simprocAttr, Tryz.results106])
theorem giv14_2 (h : Hd) : PRet Tryz.prog 107 [.agg (hd1 h)] (bool (!(h.n == 1 && h.d == 1))) := by
 refine PRet.intro 1 fun t => ACall.enter tab_ok Tryz.func107 rfl rfl Tryz.ntmps107 (by simp) ?_
 simp only [Y06]
 have h1 := Y2s 1
 obtain ⟨b, p, n, d⟩ := h
 simp only
 cases e1 : (n == 1) <;> cases e2 : (d == 1)
 all_goals
  ((refine gga0 ?_))
  ((repeat refine Y01 ?_); (refine gdzb1 (F := _∧_) ⟨e1, e2⟩ h1 ?_))
  ((refine gga0 ?_))
  ((repeat refine Y01 ?_); (refine wta ?_); simp (disch := omega) only [retQ, resD, oneD, rsv, rs, rsL, Y02, List.map_map, bb, bt, zDs, zD, Y00, simprocAttr, Tryz.results107])
set_option maxHeartbeats 4000000 in
theorem given14 (s : Sy) (hf : Fits s) : PRet Tryz.prog 79 [syD s] (.tup [int (if givL s = 0 then hix s else 0), int (givL s)]) := by
 refine PRet.intro 1 fun t => ACall.enter tab_ok Tryz.func79 rfl rfl Tryz.ntmps79 (by simp) ?_
 simp only [Y06]
 have hV := Y8v s hf
 have hI := indexFuncRp s.rs 106 [] (fun r => r.hl) hf.nr (fun x _ => giv14_1 x)
 have eI : idx (fun r : Rp => r.hl) s.rs 0 = hix s := rfl
 rw [eI] at hI
 have hdr := Y1l s.rs
 have hnr := hf.nr
 cases hv : Y0f s
 ·rw [hv] at hV
  have e : givL s = 1 := by unfold givL; rw [if_neg (by simp [hv])]
  rw [e]
  ((refine gga1 hV ?_))
  ((repeat refine Y01 ?_); (refine wta ?_); simp (disch := omega) only [retQ, resD, oneD, rsv, rs, rsL, Y02, List.map_map, bb, bt, zDs, zD, Y00, simprocAttr, Tryz.results79])
 rw [hv] at hV
 by_cases hh : hix s < 0
 ·have e : givL s = 12 := by unfold givL; rw [if_pos hv, if_pos hh]
  rw [e]
  ((refine ggb2 hh hV hI ?_))
  ((repeat refine Y01 ?_); (refine wta ?_); simp (disch := omega) only [retQ, resD, oneD, rsv, rs, rsL, Y02, List.map_map, bb, bt, zDs, zD, Y00, simprocAttr, Tryz.results79])
 obtain ⟨i, q, hi, hq, hqh⟩ := Y80 hh
 have ok := Y1b hv
 have e : givL s = if (s.rs.any fun r => !r.hl && lossR r) = true then 11 else 0 := by unfold givL; rw [if_pos hv, if_neg hh]
 rw [e]
 rw [hi] at hI hh ⊢
 have hone : hauls s.rs ≤ 1 := by
  unfold Y0f at hv
  rw [Bool.and_eq_true, decide_eq_true_eq] at hv
  exact hv.2
 have huniq : ∀ (k : Nat) (r : Rp), s.rs[k]? = some r → r.hl = true → k = i := fun k r hr hrl => Yav (p := fun r : Rp => r.hl) s.rs k i r q hone hr hq hrl hqh
 have hr6 := ok.r6
 ((refine ggb2 (F := _∧_) ⟨hh, hdr⟩ hV hI ?_))
 ((repeat refine Y01 ?_))
 refine Y0j (fun x : Nat => ⟨[(4, int i)], [], x⟩) (fun _ => (s.rs.any fun r => !r.hl && lossR r) = false) ?_ ?_
 ·refine Y04 ?_
  refine Y07 (fun x : Nat × Nat => ⟨[(4, int i), (16, rps s.rs), (17, int s.rs.length), (18, int x.1)], [], x.2⟩) (fun x => s.rs.length - x.1) (fun x => x.1 ≤ s.rs.length ∧ ((s.rs.take x.1).any fun r => !r.hl && lossR r) = false) (0, t + 1) ⟨Nat.zero_le _, rfl⟩ (by (simp (disch := omega) only [StLe, tmLe, Y03, hpLe, bl, bb, bt, zDs, zD, Y00, simprocAttr])) ?_
  rintro ⟨k, tt⟩ ⟨hk, hal⟩
  simp only at hk hal
  by_cases hlt : k < s.rs.length
  ·obtain ⟨r, hr⟩ : ∃ y, s.rs[k]? = some y := ⟨_, List.getElem?_eq_getElem hlt⟩
   have hra := Y1s s.rs k r hr
   have hsr := (hf.sr r (List.mem_of_getElem? hr)).2
   have hCF := containsFuncHd r.hs 107 [] (fun h => !(h.n == 1 && h.d == 1)) hsr (fun x _ => giv14_2 x)
   have eL : (r.hs.any fun h => !(h.n == 1 && h.d == 1)) = lossR r := rfl
   rw [eL] at hCF
   have hst : ((s.rs.take (k + 1)).any fun r => !r.hl && lossR r) = (!r.hl && lossR r) := by
    rw [List.take_add_one, hr, Option.toList_some, List.any_append, hal]
    simp
   ((refine ggb0 (F := _∧_) ⟨@Int.ofNat_lt, hlt⟩ ?_))
   ((repeat refine Y01 ?_))
   refine Y04 ?_
   by_cases hki : k = i
   ·subst hki
    rw [hq, Option.some.injEq] at hr
    subst hr
    have hql : q.hl = true := hqh
    have c1 : ((k : Int) != (k : Int)) = false := by simp
    ((refine ggb0 (F := _∧_∧_∧_) ⟨hlt, hdr, hra, c1⟩ ?_))
    refine ⟨(k + 1, tt + 1), ⟨hlt, by rw [hst, hql]; rfl⟩, by show s.rs.length - (k + 1) < s.rs.length - k; omega, ?_⟩
    (simp (disch := omega) only [StLe, tmLe, Y03, hpLe, bl, bb, bt, zDs, zD, Y00, simprocAttr])
   ·have c1 : ((k : Int) != (i : Int)) = true := by simp; omega
    have hrl : r.hl = false := by
     cases hb : r.hl
     ·rfl
     ·exact absurd (huniq k r hr hb) hki
    cases hlo : lossR r
    ·rw [hlo] at hCF
     ((refine ggb1 (F := _∧_∧_∧_) ⟨hlt, hdr, hra, c1⟩ hCF ?_))
     refine ⟨(k + 1, tt + 1), ⟨hlt, by rw [hst, hrl, hlo]; rfl⟩, by show s.rs.length - (k + 1) < s.rs.length - k; omega, ?_⟩
     (simp (disch := omega) only [StLe, tmLe, Y03, hpLe, bl, bb, bt, zDs, zD, Y00, simprocAttr])
    ·rw [hlo] at hCF
     have ha : (s.rs.any fun r => !r.hl && lossR r) = true := by
      rw [List.any_eq_true]
      exact ⟨r, List.mem_of_getElem? hr, by simp [hrl, hlo]⟩
     rw [if_pos ha]
     ((refine ggb1 (F := _∧_∧_∧_) ⟨hlt, hdr, hra, c1⟩ hCF ?_))
     ((repeat refine Y01 ?_); (refine wta ?_); simp (disch := omega) only [retQ, resD, oneD, rsv, rs, rsL, Y02, List.map_map, bb, bt, zDs, zD, Y00, simprocAttr, Tryz.results79])
  ·have hke : k = s.rs.length := by omega
   subst hke
   rw [List.take_length] at hal
   ((refine wqb @Int.lt_irrefl ?_))
   ((refine wia ?_))
   ((refine wxa ?_))
   exact ⟨tt, hal, by (simp (disch := omega) only [StLe, tmLe, Y03, hpLe, bl, bb, bt, zDs, zD, Y00, simprocAttr])⟩
 rintro tt hal
 rw [hal]
 simp only [Bool.false_eq_true, ↓reduceIte]
 ((refine gga0 ?_))
 ((repeat refine Y01 ?_); (refine wta ?_); simp (disch := omega) only [retQ, resD, oneD, rsv, rs, rsL, Y02, List.map_map, bb, bt, zDs, zD, Y00, simprocAttr, Tryz.results79])
theorem endH_mid {n k : Nat} (h1 : 1 ≤ k) (h2 : k + 1 < n) : endH n k = false := by
 unfold endH
 rw [Bool.or_eq_false_iff]
 constructor
 ·rw [beq_eq_false_iff_ne]; omega
 ·rw [beq_eq_false_iff_ne]; omega
def alnC (n k : Nat) : Nat := min (max k 1) (n - 1)
def alnS (r : Rp) (up : Bool) (t : Nat) (x : Bool × Nat × Nat × Nat) : St :=
 if x.1 = true then ⟨[(1, bool up), (2, .ptr 0 (t + 1) 0), (6, int r.hs.length), (7, .own 2 3 x.2.2.1 0 (alnC r.hs.length x.2.1)), (25, hds r.hs), (26, int r.hs.length), (27, int x.2.1)], [some ⟨39, t + 1, rp1 r⟩, none, none, some ⟨33, x.2.2.1, frC (facL r up (alnC r.hs.length x.2.1))⟩], x.2.2.2⟩
 else ⟨[(1, bool up), (2, .ptr 0 (t + 1) 0), (6, int r.hs.length), (7, .sl 2 (frC (facL r up (alnC r.hs.length x.2.1))) true), (25, hds r.hs), (26, int r.hs.length), (27, int x.2.1)], [some ⟨39, t + 1, rp1 r⟩], x.2.2.2⟩
theorem Yec (r : Rp) (up : Bool) : frC (facL r up 1) = [int 1, int 1] := rfl
set_option maxRecDepth 100000 in
set_option maxHeartbeats 16000000 in
theorem along14 (r : Rp) (up : Bool) (hl : r.hs.length ≤ 1000000) : PRet Tryz.prog 80 [.agg (rp1 r), bool up] (fse (Y1j r up)) := by
 refine PRet.intro 1 fun t => ACall.enter tab_ok Tryz.func80 rfl rfl Tryz.ntmps80 (by simp) ?_
 simp only [Y06]
 have hdh := Y2a r.hs
 have hw1 := Y2s 1
 by_cases hsz : 2 ≤ r.hs.length ∧ r.hs.length ≤ 10
 rotate_left 1
 ·have e : Y1j r up = ([], 1) := by
   unfold Y1j
   rw [if_neg]
   intro h
   exact hsz (Y1y h)
  rw [e]
  by_cases h2 : (r.hs.length : Int) < 2
  ·((refine ggb0 (F := _∧_) ⟨h2, hdh⟩ ?_))
   ((repeat refine Y01 ?_); (refine wta ?_); simp (disch := omega) only [retQ, resD, oneD, rsv, rs, rsL, Y02, List.map_map, bb, bt, zDs, zD, Y00, simprocAttr, Tryz.results80])
   rfl
  ·have h10 : (10 : Int) < r.hs.length := by omega
   ((refine ggb0 (F := _∧_∧_) ⟨h2, h10, hdh⟩ ?_))
   ((repeat refine Y01 ?_); (refine wta ?_); simp (disch := omega) only [retQ, resD, oneD, rsv, rs, rsL, Y02, List.map_map, bb, bt, zDs, zD, Y00, simprocAttr, Tryz.results80])
   rfl
 obtain ⟨n2, n10⟩ := hsz
 have h2 : ¬ (r.hs.length : Int) < 2 := by omega
 have h10 : ¬ (10 : Int) < r.hs.length := by omega
 have bad : ∀ {i : Nat} {x : Hd}, r.hs[i]? = some x → Y26 (endH r.hs.length i) x = false → Y1j r up = ([], 1) := fun hx h => by
  unfold Y1j
  rw [if_neg (by rw [rightR_not hx h]; decide)]
 ((refine ggb1 (F := _∧_∧_) ⟨h2, h10, hdh⟩ hw1 ?_))
 have hc0 : alnC r.hs.length 0 = 1 := by unfold alnC; omega
 have hf1 := Yec r up
 have hfn : frC [] = [] := rfl
 ((repeat refine Y01 ?_))
 refine Y04 ?_
 refine Y07 (alnS r up t) (fun x => r.hs.length - x.2.1) (fun x => x.2.1 ≤ r.hs.length ∧ (x.1 = false → alnC r.hs.length x.2.1 = 1) ∧ (x.1 = true → 2 ≤ x.2.1) ∧ ∀ i h, i < x.2.1 → r.hs[i]? = some h → Y26 (endH r.hs.length i) h = true) (false, 0, t, t + 1) ⟨Nat.zero_le _, fun _ => hc0, fun h => (by cases h), fun i h hi => absurd hi (Nat.not_lt_zero _)⟩ (by simp only [alnS, Bool.false_eq_true, ↓reduceIte, hc0, hf1]; (simp (disch := omega) only [StLe, tmLe, Y03, hpLe, bl, bb, bt, zDs, zD, Y00, simprocAttr])) ?_
 rintro ⟨o, k, g, tt⟩ ⟨hk, ho1, ho2, hal⟩
 simp only at hk ho1 ho2 hal
 by_cases hlt : k < r.hs.length
 ·obtain ⟨x, hx⟩ : ∃ y, r.hs[k]? = some y := ⟨_, List.getElem?_eq_getElem hlt⟩
  have hra := Y28 r.hs k x hx
  have hLy := lossy14 x.n x.d
  have nxt : Y26 (endH r.hs.length k) x = true → ∀ i h, i < k + 1 → r.hs[i]? = some h → Y26 (endH r.hs.length i) h = true := fun hok i h hi hh => by
   by_cases hik : i = k
   ·subst hik
    rw [hx, Option.some.injEq] at hh
    exact hh ▸ hok
   ·exact hal i h (by omega) hh
  by_cases hend : k = 0 ∨ k + 1 = r.hs.length
  ·have hE : endH r.hs.length k = true := by
    unfold endH
    rcases hend with h | h
    ·rw [h]; rfl
    ·rw [h]; simp
   have hc1 : alnC r.hs.length (k + 1) = alnC r.hs.length k := by unfold alnC; rcases hend with h | h <;> omega
   have e1 : k ≠ 0 → ((k : Int) == (r.hs.length : Int) - 1) = true := fun h => by
    rw [beq_iff_eq]
    rcases hend with h' | h' <;> omega
   by_cases hone : x.n = 1 ∧ x.d = 1
   ·obtain ⟨hn1, hd1⟩ := hone
    have hok : Y26 (endH r.hs.length k) x = true := by unfold Y26; rw [hn1, hd1]; simp; decide
    rw [hn1, hd1] at hLy
    have hl1 : lossy 1 1 = true := by decide
    rw [hl1] at hLy
    by_cases hk0 : k = 0
    ·have e0 : ((k : Int) == 0) = true := by simp [hk0]
     cases o
     rotate_left 1
     ·have := ho2 rfl
      omega
     simp only [alnS, Bool.false_eq_true, ↓reduceIte]
     ((refine ggb0 (F := _∧_) ⟨@Int.ofNat_lt, hlt⟩ ?_))
     ((repeat refine Y01 ?_))
     refine Y04 ?_
     ((refine ggb0 (F := _∧_∧_∧_) ⟨hlt, hdh, hra, e0⟩ ?_))
     ((repeat refine Y01 ?_); (refine gdzb2 (F := _∧_) ⟨hn1, hd1⟩ hw1 hLy ?_))
     ((refine gga0 ?_))
     refine ⟨(false, k + 1, t, tt + 1 + 1), ⟨hlt, fun _ => by rw [hc1]; exact ho1 rfl, fun h => (by cases h), nxt hok⟩, by show r.hs.length - (k + 1) < r.hs.length - k; omega, ?_⟩
     simp only [alnS, Bool.false_eq_true, ↓reduceIte, hc1]
     (simp (disch := omega) only [StLe, tmLe, Y03, hpLe, bl, bb, bt, zDs, zD, Y00, simprocAttr])
    ·have e0 : ((k : Int) == 0) = false := by simpa using hk0
     have e1 := e1 hk0
     cases o
     ·simp only [alnS, Bool.false_eq_true, ↓reduceIte]
      ((refine ggb0 (F := _∧_) ⟨@Int.ofNat_lt, hlt⟩ ?_))
      ((repeat refine Y01 ?_))
      refine Y04 ?_
      ((refine ggb0 (F := _∧_∧_∧_∧_) ⟨hlt, hdh, hra, e0, e1⟩ ?_))
      ((repeat refine Y01 ?_); (refine gdzb2 (F := _∧_) ⟨hn1, hd1⟩ hw1 hLy ?_))
      ((refine gga0 ?_))
      refine ⟨(false, k + 1, t, tt + 1 + 1), ⟨hlt, fun _ => by rw [hc1]; exact ho1 rfl, fun h => (by cases h), nxt hok⟩, by show r.hs.length - (k + 1) < r.hs.length - k; omega, ?_⟩
      simp only [alnS, Bool.false_eq_true, ↓reduceIte, hc1]
      (simp (disch := omega) only [StLe, tmLe, Y03, hpLe, bl, bb, bt, zDs, zD, Y00, simprocAttr])
     ·simp only [alnS, ↓reduceIte]
      ((refine ggb0 (F := _∧_) ⟨@Int.ofNat_lt, hlt⟩ ?_))
      ((repeat refine Y01 ?_))
      refine Y04 ?_
      ((refine ggb0 (F := _∧_∧_∧_∧_) ⟨hlt, hdh, hra, e0, e1⟩ ?_))
      ((repeat refine Y01 ?_); (refine gdzb2 (F := _∧_) ⟨hn1, hd1⟩ hw1 hLy ?_))
      ((refine gga0 ?_))
      refine ⟨(true, k + 1, g, tt + 1 + 1), ⟨hlt, fun h => (by cases h), fun _ => by have := ho2 rfl; show 2 ≤ k + 1; omega, nxt hok⟩, by show r.hs.length - (k + 1) < r.hs.length - k; omega, ?_⟩
      simp only [alnS, ↓reduceIte, hc1]
      (simp (disch := omega) only [StLe, tmLe, Y03, hpLe, bl, bb, bt, zDs, zD, Y00, simprocAttr])
   ·have hok : Y26 (endH r.hs.length k) x = false := by
     rw [hE]
     unfold Y26
     cases lossy x.n x.d
     ·rfl
     ·simp
      intro h
      exact fun h2 => hone ⟨h, h2⟩
    rw [bad hx hok]
    have hne2 : (x.n == 1 && x.d == 1) = false := by
     rw [Bool.and_eq_false_iff]
     by_cases hn : x.n = 1
     ·right
      rw [beq_eq_false_iff_ne]
      exact fun h => hone ⟨hn, h⟩
     ·left
      rw [beq_eq_false_iff_ne]
      exact hn
    by_cases hk0 : k = 0
    ·have e0 : ((k : Int) == 0) = true := by simp [hk0]
     cases o
     rotate_left 1
     ·have := ho2 rfl
      omega
     simp only [alnS, Bool.false_eq_true, ↓reduceIte]
     ((refine ggb0 (F := _∧_) ⟨@Int.ofNat_lt, hlt⟩ ?_))
     ((repeat refine Y01 ?_))
     refine Y04 ?_
     ((refine ggb0 (F := _∧_∧_∧_) ⟨hlt, hdh, hra, e0⟩ ?_))
     ((repeat refine Y01 ?_); (refine gdzb2 hne2 hw1 hLy ?_))
     ((refine gga0 ?_))
     ((repeat refine Y01 ?_); (refine wta ?_); simp (disch := omega) only [retQ, resD, oneD, rsv, rs, rsL, Y02, List.map_map, bb, bt, zDs, zD, Y00, simprocAttr, Tryz.results80])
     rfl
    ·have e0 : ((k : Int) == 0) = false := by simpa using hk0
     have e1 := e1 hk0
     cases o
     ·simp only [alnS, Bool.false_eq_true, ↓reduceIte]
      ((refine ggb0 (F := _∧_) ⟨@Int.ofNat_lt, hlt⟩ ?_))
      ((repeat refine Y01 ?_))
      refine Y04 ?_
      ((refine ggb0 (F := _∧_∧_∧_∧_) ⟨hlt, hdh, hra, e0, e1⟩ ?_))
      ((repeat refine Y01 ?_); (refine gdzb2 hne2 hw1 hLy ?_))
      ((refine gga0 ?_))
      ((repeat refine Y01 ?_); (refine wta ?_); simp (disch := omega) only [retQ, resD, oneD, rsv, rs, rsL, Y02, List.map_map, bb, bt, zDs, zD, Y00, simprocAttr, Tryz.results80])
      rfl
     ·simp only [alnS, ↓reduceIte]
      ((refine ggb0 (F := _∧_) ⟨@Int.ofNat_lt, hlt⟩ ?_))
      ((repeat refine Y01 ?_))
      refine Y04 ?_
      ((refine ggb0 (F := _∧_∧_∧_∧_) ⟨hlt, hdh, hra, e0, e1⟩ ?_))
      ((repeat refine Y01 ?_); (refine gdzb2 hne2 hw1 hLy ?_))
      ((refine gga0 ?_))
      ((repeat refine Y01 ?_); (refine wta ?_); simp (disch := omega) only [retQ, resD, oneD, rsv, rs, rsL, Y02, List.map_map, bb, bt, zDs, zD, Y00, simprocAttr, Tryz.results80])
      rfl
  ·have hk0 : k ≠ 0 := fun h => hend (.inl h)
   have hkn : k + 1 < r.hs.length := by
    have : k + 1 ≠ r.hs.length := fun h => hend (.inr h)
    omega
   have hE := endH_mid (n := r.hs.length) (k := k) (by omega) hkn
   have e0 : ((k : Int) == 0) = false := by simpa using hk0
   have e1 : ((k : Int) == (r.hs.length : Int) - 1) = false := by rw [beq_eq_false_iff_ne]; omega
   cases hlo : lossy x.n x.d
   ·have hok : Y26 (endH r.hs.length k) x = false := by unfold Y26; rw [hlo]; rfl
    rw [hlo] at hLy
    rw [bad hx hok]
    cases o
    ·simp only [alnS, Bool.false_eq_true, ↓reduceIte]
     ((refine ggb0 (F := _∧_) ⟨@Int.ofNat_lt, hlt⟩ ?_))
     ((repeat refine Y01 ?_))
     refine Y04 ?_
     ((refine ggb0 (F := _∧_∧_∧_∧_) ⟨hlt, hdh, hra, e0, e1⟩ ?_))
     ((repeat refine Y01 ?_); (refine gdza2 hw1 hLy ?_))
     ((refine gga0 ?_))
     ((repeat refine Y01 ?_); (refine wta ?_); simp (disch := omega) only [retQ, resD, oneD, rsv, rs, rsL, Y02, List.map_map, bb, bt, zDs, zD, Y00, simprocAttr, Tryz.results80])
     rfl
    ·simp only [alnS, ↓reduceIte]
     ((refine ggb0 (F := _∧_) ⟨@Int.ofNat_lt, hlt⟩ ?_))
     ((repeat refine Y01 ?_))
     refine Y04 ?_
     ((refine ggb0 (F := _∧_∧_∧_∧_) ⟨hlt, hdh, hra, e0, e1⟩ ?_))
     ((repeat refine Y01 ?_); (refine gdza2 hw1 hLy ?_))
     ((refine gga0 ?_))
     ((repeat refine Y01 ?_); (refine wta ?_); simp (disch := omega) only [retQ, resD, oneD, rsv, rs, rsL, Y02, List.map_map, bb, bt, zDs, zD, Y00, simprocAttr, Tryz.results80])
     rfl
   ·have hok : Y26 (endH r.hs.length k) x = true := by unfold Y26; rw [hlo, hE]; rfl
    rw [hlo] at hLy
    obtain ⟨j, rfl⟩ : ∃ j, k = j + 1 := ⟨k - 1, by omega⟩
    have hls : ∀ i h, 1 ≤ i → i ≤ j → r.hs[i]? = some h → lossy h.n h.d = true := fun i h _ hi hh => Y1z (hal i h (by omega) hh)
    obtain ⟨n1, n2, n3⟩ := Yc8 (hs := r.hs) (up := up) (k := j) (by omega) hls hx hlo
    have hfv := (Y52 (up := up) j (by omega) hls).v
    have hlv := (Y5q hlo).v
    have hM := rMul (facK r.hs up j) (x.n, x.d)
    have hD := rDiv (facK r.hs up j) (x.n, x.d)
    rw [Y41 hfv hlv, n1] at hM
    rw [Y8i hfv hlv, n2] at hD
    have hcj : alnC r.hs.length (j + 1) = j + 1 := by unfold alnC; omega
    have hcn : alnC r.hs.length (j + 1 + 1) = j + 1 + 1 := by unfold alnC; omega
    have hat := Y8b r up (k := j + 1) (i := j) (by omega)
    have hrf := Y0p (facL r up (j + 1)) j _ hat
    have hll := Y0o (facL r up (j + 1))
    rw [Y33] at hll
    have hsub : ((j + 1 : Nat) : Int) - 1 = (j : Int) := by omega
    have hpu := Yc7 r up (j + 1)
    have hap : frC (facL r up (j + 1)) ++ [int (facK r.hs up (j + 1)).1, int (facK r.hs up (j + 1)).2] = frC (facL r up (j + 1 + 1)) := by rw [hpu]; simp [frC]
    have hj1 : j < j + 1 := by omega
    rw [n3] at hap
    generalize (mulR (facK r.hs up j) (x.n, x.d)).1 = A at *
    generalize (divR (facK r.hs up j) (x.n, x.d)).1 = B at *
    have hll2 : (frC (facL r up (j + 1))).length / 2 = j + 1 := by omega
    have hdv : ((j + 1) * 2 + 2) / 2 = j + 1 + 1 := by omega
    cases o
    ·have hj0 : j = 0 := by have := ho1 rfl; omega
     have hfe : frC (facL r up (j + 1)) = [int 1, int 1] := by rw [hj0]; exact hf1
     have hcn2 : alnC r.hs.length (j + 1 + 1) = 2 := by rw [hcn, hj0]
     have hj2 : j < 1 := by omega
     rw [hfe] at hrf hap
     have hap := hap.symm
     simp only [List.cons_append, List.nil_append] at hap
     rw [show j + 1 + 1 = 2 by omega] at hap
     simp only [alnS, Bool.false_eq_true, ↓reduceIte, hcj, hfe]
     cases up
     ·simp only [Bool.false_eq_true, ↓reduceIte] at hap
      ((refine ggb0 (F := _∧_) ⟨@Int.ofNat_lt, hlt⟩ ?_))
      ((repeat refine Y01 ?_))
      refine Y04 ?_
      ((refine ggb0 (F := _∧_∧_∧_∧_) ⟨hlt, hdh, hra, e0, e1⟩ ?_))
      ((repeat refine Y01 ?_); (refine gdza2 hw1 hLy ?_))
      ((refine gga0 ?_))
      ((repeat refine Y01 ?_); (refine gdob1 (F := _∧_∧_) ⟨hsub, hj2, hrf⟩ hM ?_))
      ((refine gga0 ?_))
      ((repeat refine Y01 ?_); (refine gdzb1 (F := _∧_∧_) ⟨hsub, hj2, hrf⟩ hD ?_))
      ((refine gga0 ?_))
      refine ⟨(true, j + 1 + 1, tt + 1 + 1 + 1 + 1 + 1, tt + 1 + 1 + 1 + 1 + 1), ⟨hlt, fun h => (by cases h), fun _ => (by show 2 ≤ j + 1 + 1; omega), nxt hok⟩, by show r.hs.length - (j + 1 + 1) < r.hs.length - (j + 1); omega, ?_⟩
      simp only [alnS, ↓reduceIte, hcn2, hap]
      (simp (disch := omega) only [StLe, tmLe, Y03, hpLe, bl, bb, bt, zDs, zD, Y00, simprocAttr])
     ·simp only [↓reduceIte] at hap
      ((refine ggb0 (F := _∧_) ⟨@Int.ofNat_lt, hlt⟩ ?_))
      ((repeat refine Y01 ?_))
      refine Y04 ?_
      ((refine ggb0 (F := _∧_∧_∧_∧_) ⟨hlt, hdh, hra, e0, e1⟩ ?_))
      ((repeat refine Y01 ?_); (refine gdza2 hw1 hLy ?_))
      ((refine gga0 ?_))
      ((repeat refine Y01 ?_); (refine gdob1 (F := _∧_∧_) ⟨hsub, hj2, hrf⟩ hM ?_))
      ((refine gga0 ?_))
      ((refine gga0 ?_))
      refine ⟨(true, j + 1 + 1, tt + 1 + 1 + 1 + 1, tt + 1 + 1 + 1 + 1), ⟨hlt, fun h => (by cases h), fun _ => (by show 2 ≤ j + 1 + 1; omega), nxt hok⟩, by show r.hs.length - (j + 1 + 1) < r.hs.length - (j + 1); omega, ?_⟩
      simp only [alnS, ↓reduceIte, hcn2, hap]
      (simp (disch := omega) only [StLe, tmLe, Y03, hpLe, bl, bb, bt, zDs, zD, Y00, simprocAttr])
    ·simp only [alnS, ↓reduceIte, hcj]
     cases up
     ·simp only [Bool.false_eq_true, ↓reduceIte] at hap
      ((refine ggb0 (F := _∧_) ⟨@Int.ofNat_lt, hlt⟩ ?_))
      ((repeat refine Y01 ?_))
      refine Y04 ?_
      ((refine ggb0 (F := _∧_∧_∧_∧_) ⟨hlt, hdh, hra, e0, e1⟩ ?_))
      ((repeat refine Y01 ?_); (refine gdza2 hw1 hLy ?_))
      ((refine gga0 ?_))
      ((repeat refine Y01 ?_); (refine gdob1 (F := _∧_∧_∧_∧_) ⟨hsub, hll, hll2, hj1, hrf⟩ hM ?_))
      ((refine gga0 ?_))
      ((repeat refine Y01 ?_); (refine gdzb1 (F := _∧_∧_∧_∧_) ⟨hsub, hll, hll2, hj1, hrf⟩ hD ?_))
      ((refine ggb0 (F := _∧_∧_∧_) ⟨hap, hll, hll2, hdv⟩ ?_))
      refine ⟨(true, j + 1 + 1, tt + 1 + 1 + 1 + 1 + 1, tt + 1 + 1 + 1 + 1 + 1), ⟨hlt, fun h => (by cases h), fun _ => (by show 2 ≤ j + 1 + 1; omega), nxt hok⟩, by show r.hs.length - (j + 1 + 1) < r.hs.length - (j + 1); omega, ?_⟩
      simp only [alnS, ↓reduceIte, hcn]
      (simp (disch := omega) only [StLe, tmLe, Y03, hpLe, bl, bb, bt, zDs, zD, Y00, simprocAttr])
     ·simp only [↓reduceIte] at hap
      ((refine ggb0 (F := _∧_) ⟨@Int.ofNat_lt, hlt⟩ ?_))
      ((repeat refine Y01 ?_))
      refine Y04 ?_
      ((refine ggb0 (F := _∧_∧_∧_∧_) ⟨hlt, hdh, hra, e0, e1⟩ ?_))
      ((repeat refine Y01 ?_); (refine gdza2 hw1 hLy ?_))
      ((refine gga0 ?_))
      ((repeat refine Y01 ?_); (refine gdob1 (F := _∧_∧_∧_∧_) ⟨hsub, hll, hll2, hj1, hrf⟩ hM ?_))
      ((refine ggb0 (F := _∧_∧_∧_) ⟨hap, hll, hll2, hdv⟩ ?_))
      refine ⟨(true, j + 1 + 1, tt + 1 + 1 + 1 + 1, tt + 1 + 1 + 1 + 1), ⟨hlt, fun h => (by cases h), fun _ => (by show 2 ≤ j + 1 + 1; omega), nxt hok⟩, by show r.hs.length - (j + 1 + 1) < r.hs.length - (j + 1); omega, ?_⟩
      simp only [alnS, ↓reduceIte, hcn]
      (simp (disch := omega) only [StLe, tmLe, Y03, hpLe, bl, bb, bt, zDs, zD, Y00, simprocAttr])
 ·have hke : k = r.hs.length := by omega
  subst hke
  have hr : Y1m r = true := Ybl ⟨n2, n10⟩ fun i h hi => hal i h (List.getElem?_eq_some_iff.1 hi).1 hi
  have e : Y1j r up = (facL r up (r.hs.length - 1), 0) := by unfold Y1j; rw [if_pos hr]
  have hcn : alnC r.hs.length r.hs.length = r.hs.length - 1 := by unfold alnC; omega
  rw [e]
  cases o
  ·have hm1 : r.hs.length - 1 = 1 := by have := ho1 rfl; rw [hcn] at this; exact this
   rw [hm1]
   simp only [alnS, Bool.false_eq_true, ↓reduceIte, hcn, hm1, hf1]
   ((refine ggb0 @Int.lt_irrefl ?_))
   ((repeat refine Y01 ?_); (refine wta ?_); simp (disch := omega) only [retQ, resD, oneD, rsv, rs, rsL, Y02, List.map_map, bb, bt, zDs, zD, Y00, simprocAttr, Tryz.results80])
   rfl
  ·simp only [alnS, ↓reduceIte, hcn]
   have hlen := Y33 r up (r.hs.length - 1)
   generalize facL r up (r.hs.length - 1) = W at *
   have hlw := Y0o W
   rw [hlen] at hlw
   have hfin : List.take ((r.hs.length - 1) * 2) (frC W) = frC W := List.take_of_length_le (by omega)
   ((refine wqb @Int.lt_irrefl ?_))
   ((refine wia ?_))
   ((refine wxa ?_))
   ((refine AW.freeze (3) (by first | rfl | (simp only [setH, List.getElem?_cons_zero, List.getElem?_cons_succ, fz_hd, Y2b, hfin, hlw, Nat.le_refl]; done)) ?_); simp (disch := omega) only [fzT, fz, fzL, Y0d, Y0m, fzH, fzB, eq_self, bb, bt, zDs, zD, Y00, simprocAttr, fz_hd, Y2b, hfin, hlw, Nat.le_refl])
   ((refine gga0 ?_))
   ((repeat refine Y01 ?_); (refine wta ?_); simp (disch := omega) only [retQ, resD, oneD, bb, bt, zDs, zD, Y00, simprocAttr, Tryz.results80])
   exact Y2m _ _ (by simp only [tidyD, tidyL, Y7f, Bool.not_false, Bool.and_self])
end Go.Proofs.YtpcakodemleoiaaGreat.T

namespace Go.Proofs.YtpcakodemleoiaaGreat.T
open Go Go.RowKit Lin
theorem Y86 {C1 C2 P Q : Prop} (c1 : C1) (c2 : C2) (q : Q) (h : C1 → C2 → Q → P := by
 intro cc1 cc2 hq
 (try with_reducible intro KR hKR)
 (repeat refine Y01 ?_); (repeat refine Y01 ?_); (refine Y0a tab_ok Y08 1 fun KR hKR => ?_); simp only [List.replicate_succ, List.replicate_zero, List.append_nil, List.nil_append, List.cons_append, List.length_cons, List.length_nil, Nat.reduceAdd]; (repeat' ((first | refine awD_n rfl fun KK hKK => ?_ | refine awD_g rfl rfl fun KK hKK => ?_ | refine Y1a rfl fun KK hKK => ?_ | refine Y19 fun KK hKK => ?_); simp (disch := omega) only [bb, bt, zDs, zD, Y00, simprocAttr, bne_self_eq_false, Int.reduceBNe, Int.reduceBEq, Bool.bne_false, Bool.bne_true, Bool.false_bne, Bool.true_bne, goCDS, Y0e, argsZ, argsD, ufa, uf]; (try ((first | with_reducible refine PGive.ret (cc1) ?_ | with_reducible refine PGive.ret (cc2) ?_); simp (disch := omega) only [bb, bt, zDs, zD, Y00, simprocAttr, Y0x, bne_self_eq_false, Int.reduceBNe, Int.reduceBEq, Bool.bne_false, Bool.bne_true, Bool.false_bne, Bool.true_bne])); refine hKK _ _ _ ?_; clear hKK KK)); (refine Y0n ?_); simp only [List.reverse_cons, List.reverse_nil, List.nil_append, List.cons_append]; (refine hKR _ _ (by first | rfl | kernel_rfl) ?_); (try clear hKR KR); (repeat (with_reducible first | refine q1 ?_ | refine q2 ?_ | refine q3 ?_ | refine q4 ?_ | refine q5 ?_ | refine q6 ?_ | (refine q7 ?_ ?_; (focus (with_unfolding_all rfl)))))
 (first | exact hq | (revert hKR; revert KR; exact hq))) : P := h c1 c2 q
theorem Yaq {F P Q : Prop} (f : F) (q : Q) (h : F → Q → P := by
 intro ff  hq
 (try with_reducible intro KR hKR)
 (repeat refine Y01 ?_); (repeat refine Y01 ?_); (refine Y0a tab_ok Y08 1 fun KR hKR => ?_); simp only [List.replicate_succ, List.replicate_zero, List.append_nil, List.nil_append, List.cons_append, List.length_cons, List.length_nil, Nat.reduceAdd]; (repeat' ((first | refine awD_n rfl fun KK hKK => ?_ | refine awD_g rfl rfl fun KK hKK => ?_ | refine Y1a rfl fun KK hKK => ?_ | refine Y19 fun KK hKK => ?_); simp (disch := omega) only [bb, bt, zDs, zD, Y00, simprocAttr, ff, bne_self_eq_false, Int.reduceBNe, Int.reduceBEq, Bool.bne_false, Bool.bne_true, Bool.false_bne, Bool.true_bne]; refine hKK _ _ _ ?_; clear hKK KK)); (refine Y0n ?_); simp only [List.reverse_cons, List.reverse_nil, List.nil_append, List.cons_append]; (refine hKR _ _ (by first | rfl | kernel_rfl) ?_); (try clear hKR KR); (repeat (with_reducible first | refine q1 ?_ | refine q2 ?_ | refine q3 ?_ | refine q4 ?_ | refine q5 ?_ | refine q6 ?_ | (refine q7 ?_ ?_; (focus (with_unfolding_all rfl)))))
 (first | exact hq | (revert hKR; revert KR; exact hq))) : P := h f  q
theorem Y82 {r : Rp} {up : Bool} {bs : List Bk} {k : Nat} {b : Bk} (h : bs[k]? = some b) (acc : List (Int × Int)) : Y11 r up (bs.drop k) acc = if (gripP r up b.nm).2 = 0 then Y11 r up (bs.drop (k + 1)) (acc ++ [(gripP r up b.nm).1]) else ([], (gripP r up b.nm).2) := by
 rw [List.drop_eq_getElem_cons (List.getElem?_eq_some_iff.1 h).1, (List.getElem?_eq_some_iff.1 h).2]
 rfl
theorem Y9n {n : Nat} {F : Nat → Int × Int} {nm : ByteArray} {hs : List Hd} {i : Nat} {h : Hd} (hx : hs[i]? = some h) (c : Int × Int) : gripA n F nm (hs.drop i) i c = if h.b = nm then (if (gripT n F i h).2 = 0 then (if (addP c (gripT n F i h).1).2 = 0 then gripA n F nm (hs.drop (i + 1)) (i + 1) (addP c (gripT n F i h).1).1 else ((0, 0), (addP c (gripT n F i h).1).2)) else ((0, 0), (gripT n F i h).2)) else gripA n F nm (hs.drop (i + 1)) (i + 1) c := by
 rw [List.drop_eq_getElem_cons (List.getElem?_eq_some_iff.1 hx).1, (List.getElem?_eq_some_iff.1 hx).2]
 rfl
set_option maxRecDepth 100000 in
set_option maxHeartbeats 16000000 in
theorem grips14 (s : Sy) (r : Rp) (up : Bool) (hr : Y1m r = true) (hnb : s.bs.length ≤ 1000) (hp : ∀ h ∈ r.hs, -2 ≤ h.p ∧ h.p ≤ 2) : PRet Tryz.prog 81 [syD s, .agg (rp1 r), frs (facL r up (r.hs.length - 1))] (fse (Y11 r up s.bs [])) := by
 refine PRet.intro 1 fun t => ACall.enter tab_ok Tryz.func81 rfl rfl Tryz.ntmps81 (by simp) ?_
 simp only [Y06]
 have hdb := Y2k s.bs
 have hdh := Y2a r.hs
 have hw0 := Y2s 0
 obtain ⟨n2, n10⟩ := Y1y hr
 have hWl := Y33 r up (r.hs.length - 1)
 have hWa := fun i => Y8b r up (k := r.hs.length - 1) (i := i)
 generalize facL r up (r.hs.length - 1) = W at *
 have hWd := Y2q W
 rw [hWl] at hWd
 have hz : frC [] = [] := rfl
 generalize hRR : Y11 r up s.bs [] = R
 ((refine ggb0 hdb ?_))
 refine AW.begin 8 2 33 rfl (by decide) ?_
 simp only [putTM, List.length_cons, List.length_nil, Nat.reduceEqDiff, ↓reduceIte, List.cons_append, List.nil_append]
 refine Y0j (fun x : Nat × Nat => ⟨[(8, .own 2 2 x.1 0 R.1.length)], [none, none, some ⟨33, x.1, frC R.1⟩], x.2⟩) (fun _ => R.2 = 0) ?_ ?_
 ·refine Y04 ?_
  refine Y07 (fun x : List (Int × Int) × Nat × Nat × Nat => ⟨[(2, frs W), (3, .ptr 0 (t + 1) 0), (4, .ptr 1 (t + 1 + 1) 0), (8, .own 2 2 x.2.2.1 0 x.1.length), (19, bks s.bs), (20, int s.bs.length), (21, int x.2.1)], [some ⟨25, t + 1, [bks s.bs, rps s.rs]⟩, some ⟨39, t + 1 + 1, rp1 r⟩, some ⟨33, x.2.2.1, frC x.1⟩], x.2.2.2⟩) (fun x => s.bs.length - x.2.1) (fun x => x.2.1 ≤ s.bs.length ∧ x.1.length = x.2.1 ∧ Y11 r up (s.bs.drop x.2.1) x.1 = R) ([], 0, t + 1 + 1 + 1, t + 1 + 1 + 1) ⟨Nat.zero_le _, rfl, hRR⟩ (by (simp (disch := omega) only [StLe, tmLe, Y03, hpLe, bl, bb, bt, zDs, zD, Y00, simprocAttr, hz, List.length_nil])) ?_
  rintro ⟨acc, k, g, tt⟩ ⟨hk, hak, hd0⟩
  simp only at hk hak hd0
  by_cases hlt : k < s.bs.length
  ·obtain ⟨b, hb⟩ : ∃ y, s.bs[k]? = some y := ⟨_, List.getElem?_eq_getElem hlt⟩
   have hra := Y4m s.bs k b hb
   rw [Y82 hb] at hd0
   have hGd : gripA r.hs.length (facK r.hs up) b.nm r.hs 0 (0, 1) = gripP r up b.nm := rfl
   generalize gripP r up b.nm = G at *
   have hbad : G.2 ≠ 0 → R = ([], G.2) := fun h => by rw [← hd0, if_neg h]
   have hal := Y0o acc
   ((refine ggb0 (F := _∧_) ⟨@Int.ofNat_lt, hlt⟩ ?_))
   ((repeat refine Y01 ?_))
   refine Y04 ?_
   ((refine ggb1 (F := _∧_∧_∧_) ⟨hlt, hdb, hra, hdh⟩ hw0 ?_))
   ((repeat refine Y01 ?_))
   refine Y0j (fun x : Nat => ⟨[(2, frs W), (3, .ptr 0 (t + 1) 0), (4, .ptr 1 (t + 1 + 1) 0), (8, .own 2 2 g 0 acc.length), (11, .ptr 4 (tt + 1 + 1) 0), (19, bks s.bs), (20, int s.bs.length), (21, int k)], [some ⟨25, t + 1, [bks s.bs, rps s.rs]⟩, some ⟨39, t + 1 + 1, rp1 r⟩, some ⟨33, g, frC acc⟩, none, some ⟨33, tt + 1 + 1, [int G.1.1, int G.1.2]⟩], x⟩) (fun _ => G.2 = 0) ?_ ?_
   ·refine Y04 ?_
    refine Y07 (fun x : (Int × Int) × Nat × Nat => ⟨[(2, frs W), (3, .ptr 0 (t + 1) 0), (4, .ptr 1 (t + 1 + 1) 0), (8, .own 2 2 g 0 acc.length), (10, .ptr 3 (tt + 1) 0), (11, .ptr 4 (tt + 1 + 1) 0), (19, bks s.bs), (20, int s.bs.length), (21, int k), (27, hds r.hs), (28, int r.hs.length), (29, int x.2.1)], [some ⟨25, t + 1, [bks s.bs, rps s.rs]⟩, some ⟨39, t + 1 + 1, rp1 r⟩, some ⟨33, g, frC acc⟩, some ⟨45, tt + 1, bk1 b⟩, some ⟨33, tt + 1 + 1, [int x.1.1, int x.1.2]⟩], x.2.2⟩) (fun x => r.hs.length - x.2.1) (fun x => x.2.1 ≤ r.hs.length ∧ gripA r.hs.length (facK r.hs up) b.nm (r.hs.drop x.2.1) x.2.1 x.1 = G) ((0, 1), 0, tt + 1 + 1) ⟨Nat.zero_le _, hGd⟩ (by (simp (disch := omega) only [StLe, tmLe, Y03, hpLe, bl, bb, bt, zDs, zD, Y00, simprocAttr])) ?_
    rintro ⟨c, i, t2⟩ ⟨hi, hd⟩
    simp only at hi hd
    by_cases hlt2 : i < r.hs.length
    ·obtain ⟨h, hx⟩ : ∃ y, r.hs[i]? = some y := ⟨_, List.getElem?_eq_getElem hlt2⟩
     have hrh := Y28 r.hs i h hx
     have hpp := hp h (List.mem_of_getElem? hx)
     rw [Y9n hx] at hd
     by_cases hnm : h.b = b.nm
     rotate_left 1
     ·rw [if_neg hnm] at hd
      have en : decide (h.b = b.nm) = false := decide_eq_false hnm
      have en2 : (h.b == b.nm) = false := by simpa using hnm
      ((refine ggb0 (F := _∧_) ⟨@Int.ofNat_lt, hlt2⟩ ?_))
      ((repeat refine Y01 ?_))
      refine Y04 ?_
      ((refine ggb0 (F := _∧_∧_∧_∧_∧_) ⟨hlt2, hdh, hrh, hnm, en, en2⟩ ?_))
      refine ⟨(c, i + 1, t2 + 1), ⟨hlt2, hd⟩, by show r.hs.length - (i + 1) < r.hs.length - i; omega, ?_⟩
      (simp (disch := omega) only [StLe, tmLe, Y03, hpLe, bl, bb, bt, zDs, zD, Y00, simprocAttr])
     rw [if_pos hnm] at hd
     have en : decide (h.b = b.nm) = true := decide_eq_true hnm
     by_cases hi0 : i = 0
     ·have hgt : gripT r.hs.length (facK r.hs up) i h = mulP (h.p, 1) (facK r.hs up 0) := by unfold gripT; rw [if_pos hi0]
      rw [hgt] at hd
      have hrf : ((frC W).drop (i * 2)).take 2 = [int (facK r.hs up 0).1, int (facK r.hs up 0).2] := by rw [hi0]; exact Y0p W 0 _ (hWa 0 (by omega))
      have hiW : i < r.hs.length - 1 := by omega
      have m0 : ¬ ((r.hs.length - 1 : Nat) : Int) - 1 < (i : Int) := by omega
      have c0 : ¬ (0 : Int) < (i : Int) := by omega
      generalize facK r.hs up 0 = f at *
      ((refine ggb0 (F := _∧_) ⟨@Int.ofNat_lt, hlt2⟩ ?_))
      ((repeat refine Y01 ?_))
      refine Y04 ?_
      ((refine ggb0 (F := _∧_∧_∧_∧_) ⟨hlt2, hdh, hrh, hnm, en⟩ ?_))
      ((repeat refine Y01 ?_); (refine Yaq (F := _∧_∧_∧_) ⟨m0, hiW, hWd, hrf⟩ ?_))
      ((refine ggb0 c0 ?_))
      have hM := rMul (h.p, 1) f
      have hw := Y2s h.p
      generalize mulP (h.p, 1) f = M at *
      ((repeat refine Y01 ?_); (refine Y86 hw hM ?_))
      by_cases hm0 : M.2 = 0
      rotate_left 1
      ·have e1 : (M.2 != 0) = true := by simpa using hm0
       rw [if_neg hm0] at hd
       have hR := hbad (by rw [← hd]; exact hm0)
       rw [hR, ← hd]
       ((refine ggb0 e1 ?_))
       ((repeat refine Y01 ?_); (refine wta ?_); simp (disch := omega) only [retQ, resD, oneD, rsv, rs, rsL, Y02, List.map_map, bb, bt, zDs, zD, Y00, simprocAttr, Tryz.results81])
       rfl
      have e1 : (M.2 != 0) = false := by simpa using hm0
      rw [if_pos hm0] at hd
      have hA2 := rAdd c M.1
      generalize addP c M.1 = Q at *
      by_cases hq0 : Q.2 = 0
      rotate_left 1
      ·have e2 : (Q.2 != 0) = true := by simpa using hq0
       rw [if_neg hq0] at hd
       have hR := hbad (by rw [← hd]; exact hq0)
       rw [hR, ← hd]
       ((refine ggb1 (F := _∧_) ⟨e1, e2⟩ hA2 ?_))
       ((repeat refine Y01 ?_); (refine wta ?_); simp (disch := omega) only [retQ, resD, oneD, rsv, rs, rsL, Y02, List.map_map, bb, bt, zDs, zD, Y00, simprocAttr, Tryz.results81])
       rfl
      have e2 : (Q.2 != 0) = false := by simpa using hq0
      rw [if_pos hq0] at hd
      ((refine ggb1 (F := _∧_) ⟨e1, e2⟩ hA2 ?_))
      refine ⟨(Q.1, i + 1, t2 + 1 + 1 + 1), ⟨hlt2, hd⟩, by show r.hs.length - (i + 1) < r.hs.length - i; omega, ?_⟩
      (simp (disch := omega) only [StLe, tmLe, Y03, hpLe, bl, bb, bt, zDs, zD, Y00, simprocAttr])
     by_cases hin : i + 1 = r.hs.length
     ·have hgt : gripT r.hs.length (facK r.hs up) i h = mulP (h.p, 1) (facK r.hs up (r.hs.length - 2)) := by unfold gripT; rw [if_neg hi0, if_pos hin]
      rw [hgt] at hd
      have hrf := Y0p W (r.hs.length - 2) _ (hWa (r.hs.length - 2) (by omega))
      have hjW : r.hs.length - 2 < r.hs.length - 1 := by omega
      have m1 : ((r.hs.length - 1 : Nat) : Int) - 1 < (i : Int) := by omega
      have hsub : ((r.hs.length - 1 : Nat) : Int) - 1 = ((r.hs.length - 2 : Nat) : Int) := by omega
      have m2 : ((r.hs.length - 2 : Nat) : Int) < (i : Int) := by omega
      have c0 : (0 : Int) < (i : Int) := by omega
      have c1 : ¬ (i : Int) < (r.hs.length : Int) - 1 := by omega
      generalize facK r.hs up (r.hs.length - 2) = f at *
      ((refine ggb0 (F := _∧_) ⟨@Int.ofNat_lt, hlt2⟩ ?_))
      ((repeat refine Y01 ?_))
      refine Y04 ?_
      ((refine ggb0 (F := _∧_∧_∧_∧_) ⟨hlt2, hdh, hrh, hnm, en⟩ ?_))
      ((repeat refine Y01 ?_); (refine Yaq (F := _∧_∧_∧_∧_) ⟨hsub, m2, hjW, hWd, hrf⟩ ?_))
      ((refine ggb0 (F := _∧_∧_) ⟨c0, c1, hdh⟩ ?_))
      have hM := rMul (h.p, 1) f
      have hw := Y2s h.p
      generalize mulP (h.p, 1) f = M at *
      ((repeat refine Y01 ?_); (refine Y86 hw hM ?_))
      by_cases hm0 : M.2 = 0
      rotate_left 1
      ·have e1 : (M.2 != 0) = true := by simpa using hm0
       rw [if_neg hm0] at hd
       have hR := hbad (by rw [← hd]; exact hm0)
       rw [hR, ← hd]
       ((refine ggb0 e1 ?_))
       ((repeat refine Y01 ?_); (refine wta ?_); simp (disch := omega) only [retQ, resD, oneD, rsv, rs, rsL, Y02, List.map_map, bb, bt, zDs, zD, Y00, simprocAttr, Tryz.results81])
       rfl
      have e1 : (M.2 != 0) = false := by simpa using hm0
      rw [if_pos hm0] at hd
      have hA2 := rAdd c M.1
      generalize addP c M.1 = Q at *
      by_cases hq0 : Q.2 = 0
      rotate_left 1
      ·have e2 : (Q.2 != 0) = true := by simpa using hq0
       rw [if_neg hq0] at hd
       have hR := hbad (by rw [← hd]; exact hq0)
       rw [hR, ← hd]
       ((refine ggb1 (F := _∧_) ⟨e1, e2⟩ hA2 ?_))
       ((repeat refine Y01 ?_); (refine wta ?_); simp (disch := omega) only [retQ, resD, oneD, rsv, rs, rsL, Y02, List.map_map, bb, bt, zDs, zD, Y00, simprocAttr, Tryz.results81])
       rfl
      have e2 : (Q.2 != 0) = false := by simpa using hq0
      rw [if_pos hq0] at hd
      ((refine ggb1 (F := _∧_) ⟨e1, e2⟩ hA2 ?_))
      refine ⟨(Q.1, i + 1, t2 + 1 + 1 + 1), ⟨hlt2, hd⟩, by show r.hs.length - (i + 1) < r.hs.length - i; omega, ?_⟩
      (simp (disch := omega) only [StLe, tmLe, Y03, hpLe, bl, bb, bt, zDs, zD, Y00, simprocAttr])
     have hgt : gripT r.hs.length (facK r.hs up) i h = if (addP (facK r.hs up (i - 1)) (facK r.hs up i)).2 = 0 then mulP (h.p.tdiv 2, 1) (addP (facK r.hs up (i - 1)) (facK r.hs up i)).1 else ((0, 0), (addP (facK r.hs up (i - 1)) (facK r.hs up i)).2) := by unfold gripT; rw [if_neg hi0, if_neg hin]
     rw [hgt] at hd
     have hrf := Y0p W i _ (hWa i (by omega))
     have hrg := Y0p W (i - 1) _ (hWa (i - 1) (by omega))
     have hiW : i < r.hs.length - 1 := by omega
     have hiV : i - 1 < r.hs.length - 1 := by omega
     have m0 : ¬ ((r.hs.length - 1 : Nat) : Int) - 1 < (i : Int) := by omega
     have c0 : (0 : Int) < (i : Int) := by omega
     have c1 : (i : Int) < (r.hs.length : Int) - 1 := by omega
     have hs1 : (i : Int) - 1 = ((i - 1 : Nat) : Int) := by omega
     have hA := rAdd (facK r.hs up (i - 1)) (facK r.hs up i)
     have hq : -2 ≤ h.p.tdiv 2 ∧ h.p.tdiv 2 ≤ 2 := by
      rcases (show h.p = -2 ∨ h.p = -1 ∨ h.p = 0 ∨ h.p = 1 ∨ h.p = 2 by omega) with e | e | e | e | e <;> rw [e] <;> decide
     have hqw := wr64 (h.p.tdiv 2) (by omega)
     generalize addP (facK r.hs up (i - 1)) (facK r.hs up i) = Y at *
     generalize facK r.hs up (i - 1) = f1 at *
     generalize facK r.hs up i = f2 at *
     ((refine ggb0 (F := _∧_) ⟨@Int.ofNat_lt, hlt2⟩ ?_))
     ((repeat refine Y01 ?_))
     refine Y04 ?_
     ((refine ggb0 (F := _∧_∧_∧_∧_) ⟨hlt2, hdh, hrh, hnm, en⟩ ?_))
     ((repeat refine Y01 ?_); (refine Yaq (F := _∧_∧_∧_) ⟨m0, hiW, hWd, hrf⟩ ?_))
     ((refine ggb0 (F := _∧_∧_) ⟨c0, c1, hdh⟩ ?_))
     ((repeat refine Y01 ?_); (refine gdzb1 (F := _∧_∧_∧_∧_∧_) ⟨hs1, hiW, hiV, hWd, hrf, hrg⟩ hA ?_))
     by_cases hy0 : Y.2 = 0
     rotate_left 1
     ·have e0 : (Y.2 != 0) = true := by simpa using hy0
      rw [if_neg hy0] at hd
      rw [if_neg hy0] at hd
      have hR := hbad (by rw [← hd]; exact hy0)
      rw [hR, ← hd]
      ((refine ggb0 (F := _∧_) ⟨e0, hqw⟩ ?_))
      ((repeat refine Y01 ?_); (refine wta ?_); simp (disch := omega) only [retQ, resD, oneD, rsv, rs, rsL, Y02, List.map_map, bb, bt, zDs, zD, Y00, simprocAttr, Tryz.results81])
      rfl
     have e0 : (Y.2 != 0) = false := by simpa using hy0
     rw [if_pos hy0] at hd
     ((refine ggb0 (F := _∧_) ⟨e0, hqw⟩ ?_))
     obtain ⟨y, ye⟩ := Y
     simp only at *
     have hM := rMul ((h.p.tdiv 2), 1) y
     have hw := Y2s (h.p.tdiv 2)
     generalize mulP ((h.p.tdiv 2), 1) y = M at *
     ((repeat refine Y01 ?_); (refine Y86 hw hM ?_))
     by_cases hm0 : M.2 = 0
     rotate_left 1
     ·have e1 : (M.2 != 0) = true := by simpa using hm0
      rw [if_neg hm0] at hd
      have hR := hbad (by rw [← hd]; exact hm0)
      rw [hR, ← hd]
      ((refine ggb0 e1 ?_))
      ((repeat refine Y01 ?_); (refine wta ?_); simp (disch := omega) only [retQ, resD, oneD, rsv, rs, rsL, Y02, List.map_map, bb, bt, zDs, zD, Y00, simprocAttr, Tryz.results81])
      rfl
     have e1 : (M.2 != 0) = false := by simpa using hm0
     rw [if_pos hm0] at hd
     have hA2 := rAdd c M.1
     generalize addP c M.1 = Q at *
     by_cases hq0 : Q.2 = 0
     rotate_left 1
     ·have e2 : (Q.2 != 0) = true := by simpa using hq0
      rw [if_neg hq0] at hd
      have hR := hbad (by rw [← hd]; exact hq0)
      rw [hR, ← hd]
      ((refine ggb1 (F := _∧_) ⟨e1, e2⟩ hA2 ?_))
      ((repeat refine Y01 ?_); (refine wta ?_); simp (disch := omega) only [retQ, resD, oneD, rsv, rs, rsL, Y02, List.map_map, bb, bt, zDs, zD, Y00, simprocAttr, Tryz.results81])
      rfl
     have e2 : (Q.2 != 0) = false := by simpa using hq0
     rw [if_pos hq0] at hd
     ((refine ggb1 (F := _∧_) ⟨e1, e2⟩ hA2 ?_))
     refine ⟨(Q.1, i + 1, t2 + 1 + 1 + 1 + 1), ⟨hlt2, hd⟩, by show r.hs.length - (i + 1) < r.hs.length - i; omega, ?_⟩
     (simp (disch := omega) only [StLe, tmLe, Y03, hpLe, bl, bb, bt, zDs, zD, Y00, simprocAttr])
    ·have hie : i = r.hs.length := by omega
     subst hie
     have hde : gripA r.hs.length (facK r.hs up) b.nm (r.hs.drop r.hs.length) r.hs.length c = (c, 0) := by rw [List.drop_eq_nil_of_le (Nat.le_refl _)]; try rfl
     rw [hde] at hd
     subst hd
     ((refine wqb @Int.lt_irrefl ?_))
     ((refine wia ?_))
     ((refine wxa ?_))
     exact ⟨t2, rfl, by (simp (disch := omega) only [StLe, tmLe, Y03, hpLe, bl, bb, bt, zDs, zD, Y00, simprocAttr])⟩
   rintro t3 hG
   rw [if_pos hG] at hd0
   have hap : frC acc ++ [int G.1.1, int G.1.2] = frC (acc ++ [G.1]) := by simp [frC]
   have hdv : (acc.length * 2 + 2) / 2 = acc.length + 1 := by omega
   ((refine ggb0 (F := _∧_∧_) ⟨hal, hap, hdv⟩ ?_))
   refine ⟨(acc ++ [G.1], k + 1, t3 + 1, t3 + 1), ⟨hlt, by simp [hak], hd0⟩, by show s.bs.length - (k + 1) < s.bs.length - k; omega, ?_⟩
   simp only [List.length_append, List.length_singleton]
   (simp (disch := omega) only [StLe, tmLe, Y03, hpLe, bl, bb, bt, zDs, zD, Y00, simprocAttr])
  ·have hke : k = s.bs.length := by omega
   subst hke
   have hde : Y11 r up (s.bs.drop s.bs.length) acc = (acc, 0) := by rw [List.drop_eq_nil_of_le (Nat.le_refl _)]; try rfl
   rw [hde] at hd0
   subst hd0
   ((refine wqb @Int.lt_irrefl ?_))
   ((refine wia ?_))
   ((refine wxa ?_))
   exact ⟨(g, tt), rfl, by (simp (disch := omega) only [StLe, tmLe, Y03, hpLe, bl, bb, bt, zDs, zD, Y00, simprocAttr])⟩
 rintro ⟨g, tt⟩ hR
 obtain ⟨L, e⟩ := R
 simp only at hR
 subst hR
 have hlw := Y0o L
 have hfin : List.take (L.length * 2) (frC L) = frC L := List.take_of_length_le (by omega)
 ((refine AW.freeze (2) (by first | rfl | (simp only [setH, List.getElem?_cons_zero, List.getElem?_cons_succ, fz_hd, Y2b, hfin, hlw, Nat.le_refl]; done)) ?_); simp (disch := omega) only [fzT, fz, fzL, Y0d, Y0m, fzH, fzB, eq_self, bb, bt, zDs, zD, Y00, simprocAttr, fz_hd, Y2b, hfin, hlw, Nat.le_refl])
 ((refine gga0 ?_))
 ((repeat refine Y01 ?_); (refine wta ?_); simp (disch := omega) only [retQ, resD, oneD, bb, bt, zDs, zD, Y00, simprocAttr, Tryz.results81])
 exact Y2m _ _ (by simp only [tidyD, tidyL, Y7f, Bool.not_false, Bool.and_self])
end Go.Proofs.YtpcakodemleoiaaGreat.T

section
namespace Go.Proofs.YtpcakodemleoiaaGreat.T
open Go Go.RowKit
end Go.Proofs.YtpcakodemleoiaaGreat.T
end
section
namespace Go.Proofs.YtpcakodemleoiaaGreat.T
open Go Go.RowKit Go.Shelf Go.Sort
end Go.Proofs.YtpcakodemleoiaaGreat.T
end
section
namespace Go.Proofs.YtpcakodemleoiaaGreat.T
open Go Go.RowKit Lin
def fixB (rs : List Rp) (but : Int) (i : Nat) : Bool := (match rs[i]? with | some r => !r.hl | none => false) && !((i : Int) == but)
def fixP (rs : List Rp) (but : Int) (k : Nat) : List Nat := (List.range k).filter (fixB rs but)
theorem Yc6 {rs : List Rp} {but : Int} {k : Nat} {r : Rp} (hr : rs[k]? = some r) : fixP rs but (k + 1) = if (!r.hl && !((k : Int) == but)) = true then fixP rs but k ++ [k] else fixP rs but k := by
 unfold fixP
 rw [List.range_succ, List.filter_append]
 have h : fixB rs but k = (!r.hl && !((k : Int) == but)) := by simp [fixB, hr]
 by_cases e : (!r.hl && !((k : Int) == but)) = true
 ·rw [if_pos e, List.filter_cons_of_pos (by rw [h]; exact e)]; rfl
 ·rw [if_neg e, List.filter_cons_of_neg (by rw [h]; exact e)]; simp
theorem Ye8 {rs : List Rp} {but : Int} {k i : Nat} : i ∈ fixP rs but k ↔ i < k ∧ fixB rs but i = true := by simp [fixP]
theorem Y3m (rs : List Rp) (but : Int) (k : Nat) : (fixP rs but k).length ≤ k := by
 have := List.length_filter_le (fixB rs but) (List.range k)
 simpa [fixP] using this
def nums (l : List Nat) : List Int := l.map fun i : Nat => (i : Int)
def rowsF (s : Sy) (l : List Nat) : List (List Int) := l.map fun i => (trS s).getD i []
theorem Y2u (s : Sy) (l : List Nat) : (rowsF s l).length = l.length := by simp [rowsF]
def fixA (s : Sy) : List Nat := fixP s.rs (-1) s.rs.length
theorem trS_at (s : Sy) {i : Nat} (h : i < s.rs.length) : (trS s)[i]? = some (colP (matS s) i) := by
 unfold trS turnP
 rw [List.getElem?_map, List.getElem?_range h]
 rfl
theorem Yd7 (s : Sy) {i : Nat} (h : i < s.rs.length) : (trS s).getD i [] = colP (matS s) i := by rw [List.getD_eq_getElem?_getD, trS_at s h]; rfl
end Go.Proofs.YtpcakodemleoiaaGreat.T
end

section
section
namespace Go.Proofs.YtpcakodemleoiaaGreat.T
open Go Go.RowKit Lin
theorem Yfu : ∀ (l : List (Int × Int)) (i : Nat) (p : Int × Int), l[i]? = some p → (frC l)[i * 2]? = some (int p.1)
 | [], i, p, h => by simp at h
 | x :: l, 0, p, h => by
  simp at h; subst h; rfl
 | x :: l, i + 1, p, h => by
  have := Yfu l i p (by simpa using h)
  show (int x.1 :: int x.2 :: frC l)[(i + 1) * 2]? = _
  rw [show (i + 1) * 2 = i * 2 + 1 + 1 by omega, List.getElem?_cons_succ, List.getElem?_cons_succ]
  exact this
def unitR (n i : Nat) : List (Int × Int) := (List.range n).map fun k => (if k = i then 1 else 0, 1)
def unitM (n : Nat) : List (List (Int × Int)) := (List.range n).map (unitR n)
def Y1c (s : Sy) : List (List (Int × Int)) × Int := if Y0f s = true then (if fixA s = [] then (unitM s.bs.length, 0) else nullP (rowsF s (fixA s))) else ([], 1)
theorem Y88 {rs : List Rp} {but : Int} {k i : Nat} (h : i ∈ fixP rs but k) : i < k := (Ye8.1 h).1
theorem Y3k {s : Sy} (ok : OkS s) {L : List Nat} (h0 : L ≠ []) (h1 : L.length ≤ 6) (h2 : ∀ i ∈ L, i < s.rs.length) : Y12 (rowsF s L) = true ∧ wid (rowsF s L) = s.bs.length ∧ ∀ r ∈ rowsF s L, r ∈ trS s ∧ r.length = s.bs.length := by
 obtain ⟨tv, tw⟩ := ok.tr_valid
 obtain ⟨m1, m2, m3⟩ := Y0y.1 tv
 have hm : ∀ r ∈ rowsF s L, r ∈ trS s ∧ r.length = s.bs.length := fun r hr => by
  unfold rowsF at hr
  obtain ⟨i, hi, rfl⟩ := List.mem_map.1 hr
  have hlt : i < (trS s).length := by rw [ok.tr_len]; exact h2 i hi
  have e : (trS s).getD i [] = (trS s)[i] := by rw [List.getD_eq_getElem?_getD, List.getElem?_eq_getElem hlt]; rfl
  rw [e]
  exact ⟨List.getElem_mem _, by rw [(m3 _ (List.getElem_mem _)).1, tw]⟩
 have hw : wid (rowsF s L) = s.bs.length := by
  cases hL : L with
  | nil => exact absurd hL h0
  | cons i L' =>
   have := (hm ((trS s).getD i []) (by rw [hL]; simp [rowsF])).2
   rw [← this]
   rfl
 refine ⟨Y0y.2 ⟨⟨?_, ?_⟩, ?_, fun r hr => ⟨?_, ?_⟩⟩, hw, hm⟩
 ·rw [Y2u]
  exact List.length_pos_iff.2 h0
 ·rw [Y2u]
  exact h1
 ·rw [hw, ← tw]
  exact m2
 ·rw [hw]
  exact (hm r hr).2
 ·exact (m3 r (hm r hr).1).2
end Go.Proofs.YtpcakodemleoiaaGreat.T
end
section
namespace Go.Proofs.YtpcakodemleoiaaGreat.T
open Go Go.RowKit Lin
def unitC (k j : Nat) : List (Int × Int) := (List.range j).map fun i => (if i = k then 1 else 0, 1)
theorem unitC_succ (k j : Nat) : unitC k (j + 1) = unitC k j ++ [(if j = k then 1 else 0, 1)] := by simp [unitC, List.range_succ]
theorem Y7e (k j : Nat) : (unitC k j).length = j := by simp [unitC]
def unitL (n k : Nat) : List (List (Int × Int)) := (List.range k).map (unitR n)
theorem Y8x (n k : Nat) : unitL n (k + 1) = unitL n k ++ [unitC k n] := by simp [unitL, List.range_succ, unitR, unitC]
theorem Y56 (n k : Nat) : (unitL n k).length = k := by simp [unitL]
theorem Ye7 (l : List (Int × Int)) (x : Int × Int) : frC (l ++ [x]) = frC l ++ [int x.1, int x.2] := by simp [frC]
theorem Yh0 (b g : Nat) (cs : List D) : ∀ l : List (Int × Int), fzL b g cs (frC l) = frC l
 | [] => rfl
 | x :: l => by
  show fzL b g cs (int x.1 :: int x.2 :: frC l) = _
  simp only [fzL, fz, Yh0 b g cs l]
  rfl
theorem Y2c (b g : Nat) (cs : List D) : ∀ l : List (List (Int × Int)), fzL b g cs (l.map frs) = l.map frs
 | [] => rfl
 | x :: l => by simp only [List.map_cons, fzL, fz, Yh0, Y2c b g cs l]
theorem Y42 (s : Sy) : (∀ v ∈ (Y1c s).1, v.length = s.bs.length) ∧ (Y1c s).1.length ≤ 12 ∧ ((Y1c s).2 = 0 ↔ Y0f s = true) := by
 unfold Y1c
 cases hv : Y0f s
 ·simp
 have ok := Y1b hv
 have hr6 := ok.r6
 have hb6 := ok.b6
 simp only [if_true]
 by_cases h0 : fixA s = []
 ·rw [if_pos h0]
  refine ⟨fun v hv => ?_, by simp [unitM]; omega, by simp⟩
  obtain ⟨i, _, rfl⟩ := List.mem_map.1 hv
  simp [unitR]
 ·rw [if_neg h0]
  have hfl := Y3m s.rs (-1) s.rs.length
  obtain ⟨rv, rw', rm⟩ := Y3k ok h0 (by unfold fixA; omega) (fun i hi => Y88 hi)
  unfold nullP
  rw [if_pos rv]
  refine ⟨fun v hv => ?_, ?_, by simp⟩
  ·obtain ⟨c, _, _, rfl⟩ := Y5k _ _ _ v hv
   rw [Y4h, rw']
  ·have := Y5l (elim (rowsF s (fixA s)) (wid (rowsF s (fixA s)))) (wid (rowsF s (fixA s))) (wid (rowsF s (fixA s)))
   simp only
   omega
end Go.Proofs.YtpcakodemleoiaaGreat.T
end
section
namespace Go.Proofs.YtpcakodemleoiaaGreat.T
open Go Go.RowKit Lin
end Go.Proofs.YtpcakodemleoiaaGreat.T
end
end
section
section
namespace Go.Proofs.YtpcakodemleoiaaGreat.T
open Go Go.RowKit Lin
end Go.Proofs.YtpcakodemleoiaaGreat.T
end
section
namespace Go.Proofs.YtpcakodemleoiaaGreat.T
open Go Go.RowKit Lin
end Go.Proofs.YtpcakodemleoiaaGreat.T
end
section
namespace Go.Proofs.YtpcakodemleoiaaGreat.T
open Go Go.RowKit Lin
theorem modes_val {m : List (List Int)} (hv : Y12 m = true) {v : List (Int × Int)} (hmem : v ∈ (nullP m).1) : (v.any fun x => x.1 != 0) = true ∧ ∃ Z D, D ≠ 0 ∧ Ker m Z ∧ ∀ (k : Nat) (f : Int × Int), v[k]? = some f → Val f (Z k) D := by
 unfold nullP at hmem
 rw [if_pos hv] at hmem
 simp only at hmem
 obtain ⟨h1, h2, h3⟩ := Y0y.1 hv
 have hs := Y2t hv
 have iv := Y1i (Y21 m (wid m)) hs.lens (wid m) (Nat.le_refl _)
 rw [← Y3n] at iv
 have in2 := iv.small2 hs (Nat.le_refl _)
 have hd2 := iv.den_small2 hs (Nat.le_refl _)
 generalize elim m (wid m) = f at *
 obtain ⟨c, hcn, hc, rfl⟩ := Y5k f (wid m) (wid m) v hmem
 have ok : ∀ k c, k < f.pivots.length → c < wid m → (makeP (-(Lin.at_ (Lin.row f.rows k) c)) f.den).2 = 0 := fun k c hk hc => by
  have := in2 k c hk hc
  exact Y6y (by omega) hd2 iv.den0
 obtain ⟨q1', q2'⟩ := Ygs iv ok hcn f.pivots.length (Nat.le_refl _)
 have ho := Ydo iv hcn hc f.pivots.length (Nat.le_refl _)
 refine ⟨List.any_eq_true.2 ⟨_, List.mem_of_getElem? ho, by decide⟩, nX f c f.pivots.length, f.den, iv.den0, fun r hr => ?_, fun k p hp => ⟨allV_at q1' hp, iv.den0, q2' k p hp⟩⟩
 rw [Ygt iv hcn hc (Lin.at_ r) f.pivots.length (Nat.le_refl _), Yev iv hcn (iv.van_lt hcn) hr]
 omega
end Go.Proofs.YtpcakodemleoiaaGreat.T
end
end
section
namespace Go.Proofs.YtpcakodemleoiaaGreat.T
open Go Go.RowKit Lin
theorem Ye9 {s : Sy} {j : Nat} {r : Rp} (hr : s.rs[j]? = some r) : j ∈ fixA s ↔ r.hl = false := by
 have hj := (List.getElem?_eq_some_iff.1 hr).1
 unfold fixA
 rw [Ye8]
 unfold fixB
 rw [hr]
 have : ((j : Int) == -1) = false := by simp
 simp only [this, Bool.not_false, Bool.and_true, hj, true_and]
 cases r.hl <;> simp
end Go.Proofs.YtpcakodemleoiaaGreat.T
end

