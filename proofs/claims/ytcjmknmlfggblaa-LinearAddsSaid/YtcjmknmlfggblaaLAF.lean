import Derived.Test.YtcjmknmlfggblaaLHD
import Derived.Test.YtcjmknmlfggblaaWZ
set_option linter.all false
section
namespace Go.Proofs.Ytcjmknmlfggblaa.T
open Go Go.RowKit Lin

/-! A system of equations determines its solution (plain). -/
def phi (Z : Nat → Int) (D : Int) (n : Nat) (g : Nat → Int) : Int := sumN (fun k => g k * Z k) n - D * g n
theorem phi_dot (Z : Nat → Int) (D : Int) (n : Nat) : ∀ (ks : List Int) (rs : List Row), (∀ r ∈ rs, phi Z D n r = 0) → phi Z D n (dot ks rs) = 0
  | [], rs, _ => by
    have e : (dot [] rs) = fun _ => 0 := by funext j; cases rs <;> rfl
    rw [e]
    simp [phi, sumN_zero]
  | k :: ks, [], _ => by
    have e : (dot (k :: ks) []) = fun _ => 0 := rfl
    rw [e]
    simp [phi, sumN_zero]
  | k :: ks, r :: rs, h => by
    have ih := phi_dot Z D n ks rs fun x hx => h x (List.mem_cons_of_mem _ hx)
    have h0 := h r (by simp)
    have e : (dot (k :: ks) (r :: rs)) = fun j => k * r j + dot ks rs j := rfl
    rw [e]
    unfold phi at *
    have e2 : sumN (fun j => (k * r j + dot ks rs j) * Z j) n = k * sumN (fun j => r j * Z j) n + sumN (fun j => dot ks rs j * Z j) n := by
      rw [← sumN_mul, ← sumN_add]
      exact sumN_congr n fun j _ => by rw [Int.add_mul, Int.mul_assoc]
    rw [e2, Int.mul_add, Int.mul_left_comm]
    have : k * (sumN (fun j => r j * Z j) n - D * r n) = 0 := by rw [h0, Int.mul_zero]
    rw [Int.mul_sub] at this
    omega
theorem phi_span {Z : Nat → Int} {D : Int} {n : Nat} {rs : List Row} {g : Nat → Int} (hg : Span rs g) (h : ∀ r ∈ rs, phi Z D n r = 0) : phi Z D n g = 0 := by
  obtain ⟨ks, _, he⟩ := hg
  have : g = dot ks rs := funext he
  rw [this]
  exact phi_dot Z D n ks rs h
section
variable {M : List (List Int)} {n : Nat} {f : Frm}
/-- Numbers that solve the equations: no row of the form is left over, and they are the form's. -/
theorem unique (h : Lin.Inv M (n + 1) n f) (hk : f.pivots.length = n) {Z : Nat → Int} {D : Int} (hD : D ≠ 0) (hZ : ∀ s ∈ M, phi Z D n (Lin.at_ s) = 0) :
    Van (M.map Lin.at_) (SS M f) (CC f) n ∧ ∀ k, k < n → Z k * f.den = D * Lin.at_ (Lin.row f.rows k) n := by
  have hp := pivots_full n f.pivots h.nd h.lt hk
  have hSS : ∀ r ∈ SS M f, phi Z D n r = 0 := fun r hr => by
    obtain ⟨s, hs, rfl⟩ := SS_mem h r hr
    exact hZ s hs
  constructor
  · intro r hr
    obtain ⟨s, hs, rfl⟩ := List.mem_map.1 hr
    have hsp : Span (Lin.at_ s :: SS M f) fun j => E (SS M f) (CC f) (Lin.at_ s) j := w_span (Lin.at_ s :: SS M f) (CC f)
    have h0 := phi_span hsp fun x hx => by
      rcases List.mem_cons.1 hx with rfl | hx
      · exact hZ s hs
      · exact hSS x hx
    unfold phi at h0
    simp only at h0
    rw [sumN_congr (G := fun _ => 0) n fun j hj => by
      rw [h.van_lt hj (Lin.at_ s) hr, Int.zero_mul], sumN_zero] at h0
    have : D * E (SS M f) (CC f) (Lin.at_ s) n = 0 := by omega
    rcases Int.mul_eq_zero.1 this with e | e
    · exact absurd e hD
    · exact e
  · intro k hkn
    have hCC : CC f = ((List.range n).drop (k + 1)).reverse ++ k :: ((List.range n).take k).reverse := by
      have e : List.range n = (List.range n).take k ++ k :: (List.range n).drop (k + 1) := by
        conv => lhs; rw [← List.take_append_drop k (List.range n)]
        rw [List.drop_eq_getElem_cons (by simpa using hkn), List.getElem_range]
      unfold CC
      rw [hp]
      conv => lhs; rw [e]
      simp
    have hpost : ((List.range n).take k).reverse.length = k := by simp; omega
    have hpv := fun j (hj : j < n + 1) => h.piv _ _ k hCC j hj
    rw [hpost] at hpv
    have h0 := phi_span (w_span_at (SS M f) ((List.range n).drop (k + 1)).reverse ((List.range n).take k).reverse) hSS
    unfold phi at h0
    simp only at h0
    rw [← hpv n (by omega)] at h0
    have hsum : sumN (fun j => w (SS M f) (((List.range n).drop (k + 1)).reverse ++ j :: ((List.range n).take k).reverse) * Z j) n = Z k * f.den := by
      have e : ∀ j, j < n → w (SS M f) (((List.range n).drop (k + 1)).reverse ++ j :: ((List.range n).take k).reverse) * Z j = Z j * (if j = k then f.den else 0) := fun j hj => by
        by_cases hjk : j = k
        · subst hjk
          rw [if_pos rfl, ← hCC, ← h.den, Int.mul_comm]
        · rw [if_neg hjk, Int.mul_zero, piv_same (ci := k) (d := j) ?_ hjk, Int.zero_mul]
          rw [← hCC]
          unfold CC
          rw [hp]
          simpa using hj
      rw [sumN_congr n e, sumN_one Z k f.den n hkn]
    rw [hsum] at h0
    omega
end
theorem frac_eq {p q : Int × Int} (hp : vfrac p.1 p.2 = true) (hq : vfrac q.1 q.2 = true) (h : p.1 * q.2 = q.1 * p.2) : p = q := by
  obtain ⟨p1, _, _, _, p5⟩ := fr_bounds hp
  obtain ⟨r1, _, _, _, r5⟩ := fr_bounds hq
  have hn : p.1.natAbs * q.2.natAbs = q.1.natAbs * p.2.natAbs := by rw [← Int.natAbs_mul, ← Int.natAbs_mul, h]
  obtain ⟨h1, h2⟩ := ratio_nat (show 0 < p.2.natAbs by omega) (show 0 < q.2.natAbs by omega) hn
  have e1 : Nat.gcd p.1.natAbs p.2.natAbs = 1 := p5
  have e2 : Nat.gcd q.1.natAbs q.2.natAbs = 1 := r5
  rw [e1, e2, Nat.div_one, Nat.div_one] at h1 h2
  have h3 : p.2 = q.2 := by omega
  rw [h3] at h
  exact Prod.ext (cancel (c := q.2) (by omega) h) h3
end Go.Proofs.Ytcjmknmlfggblaa.T
end

section
namespace Go.Proofs.Ytcjmknmlfggblaa.T
open Go Go.RowKit Lin

/-! A row is added to another one (plain). -/
def addRow (m : List (List Int)) (a b : Nat) : List (List Int) := m.set a (List.zipWith (· + ·) (Lin.row m a) (Lin.row m b))
theorem at_zip {x y : List Int} (h : x.length = y.length) (j : Nat) : Lin.at_ (List.zipWith (· + ·) x y) j = Lin.at_ x j + Lin.at_ y j := by
  unfold Lin.at_
  rw [List.getElem?_zipWith]
  by_cases hj : j < x.length
  · rw [List.getElem?_eq_getElem hj, List.getElem?_eq_getElem (show j < y.length by omega)]; rfl
  · rw [List.getElem?_eq_none (by omega), List.getElem?_eq_none (show y.length ≤ j by omega)]; rfl
theorem w_lin (p q : Int) (x y : Row) (post : List Row) : ∀ (pre : List Row) (cs : List Nat), w (pre ++ (fun j => p * x j + q * y j) :: post) cs = p * w (pre ++ x :: post) cs + q * w (pre ++ y :: post) cs
  | [], cs => w_row_add p q x y post cs
  | r :: pre, cs => by
    simp only [List.cons_append, w_cons]
    rw [← ex_mul, ← ex_mul, ← ex_add]
    exact ex_congr fun c rest => by rw [w_lin p q x y post pre rest, Int.mul_add, Int.mul_left_comm, Int.mul_left_comm (r c) q]
theorem w_twice {pre post : List Row} {y : Row} (h : y ∈ pre ++ post) (cs : List Nat) : w (pre ++ y :: post) cs = 0 := by
  have h0 := w_mem h cs
  rcases w_perm (List.perm_middle : (pre ++ y :: post).Perm (y :: (pre ++ post))) with e | e
  · rw [e, h0]
  · rw [e, h0]; rfl
theorem split_at {m : List (List Int)} {a : Nat} (ha : a < m.length) : ∃ u v, m = u ++ Lin.row m a :: v ∧ u.length = a := by
  refine ⟨m.take a, m.drop (a + 1), ?_, by simp; omega⟩
  conv => lhs; rw [← List.take_append_drop a m]
  rw [List.drop_eq_getElem_cons ha, row_get ha]
theorem row_mem {m : List (List Int)} {a : Nat} (ha : a < m.length) : Lin.row m a ∈ m := by rw [row_get ha]; exact List.getElem_mem ha
section
variable {m : List (List Int)} {a b n : Nat}
theorem add_fun (hl : ∀ r ∈ m, r.length = n) (ha : a < m.length) (hb : b < m.length) : Lin.at_ (List.zipWith (· + ·) (Lin.row m a) (Lin.row m b)) = fun j => 1 * Lin.at_ (Lin.row m a) j + 1 * Lin.at_ (Lin.row m b) j := by
  funext j
  rw [at_zip (by rw [hl _ (row_mem ha), hl _ (row_mem hb)]), Int.one_mul, Int.one_mul]
theorem add_split (ha : a < m.length) (hb : b < m.length) (hab : a ≠ b) : ∃ u v, m = u ++ Lin.row m a :: v ∧ addRow m a b = u ++ List.zipWith (· + ·) (Lin.row m a) (Lin.row m b) :: v ∧ Lin.row m b ∈ u ++ v := by
  obtain ⟨u, v, h1, h2⟩ := split_at ha
  refine ⟨u, v, h1, ?_, ?_⟩
  · unfold addRow
    conv => lhs; arg 1; rw [h1]
    rw [List.set_append_right _ _ (by omega), h2, Nat.sub_self]
    rfl
  · rw [row_get hb]
    have e : m[b]? = some m[b] := List.getElem?_eq_getElem hb
    conv at e => lhs; rw [h1]
    rcases Nat.lt_or_gt_of_ne hab with h | h
    · rw [List.getElem?_append_right (by omega), show b - u.length = (b - u.length - 1) + 1 by omega, List.getElem?_cons_succ] at e
      exact List.mem_append_right _ (List.mem_of_getElem? e)
    · rw [List.getElem?_append_left (by omega)] at e
      exact List.mem_append_left _ (List.mem_of_getElem? e)
theorem det_add (hl : ∀ r ∈ m, r.length = n) (ha : a < m.length) (hb : b < m.length) (hab : a ≠ b) (cs : List Nat) : w ((addRow m a b).reverse.map Lin.at_) cs = w (m.reverse.map Lin.at_) cs := by
  obtain ⟨u, v, h1, h2, h3⟩ := add_split ha hb hab
  rw [h2]
  conv => rhs; rw [h1]
  simp only [List.reverse_append, List.reverse_cons, List.map_append, List.map_cons, List.map_nil, List.append_assoc, List.cons_append, List.nil_append]
  rw [add_fun hl ha hb, w_lin, w_twice (y := Lin.at_ (Lin.row m b))]
  · simp
  · rcases List.mem_append.1 h3 with h | h
    · exact List.mem_append_right _ (List.mem_map.2 ⟨_, by simpa using h, rfl⟩)
    · exact List.mem_append_left _ (List.mem_map.2 ⟨_, by simpa using h, rfl⟩)
/-- A minor of the one gives a minor of the other. -/
theorem minor_add (hl : ∀ r ∈ m, r.length = n) (ha : a < m.length) (hb : b < m.length) (hab : a ≠ b) {S : List Row} {C : List Nat} (hS : ∀ s ∈ S, s ∈ (addRow m a b).map Lin.at_) (hne : w S C ≠ 0) : ∃ S' : List Row, (∀ s ∈ S', s ∈ m.map Lin.at_) ∧ S'.length = S.length ∧ w S' C ≠ 0 := by
  obtain ⟨u, v, h1, h2, h3⟩ := add_split ha hb hab
  have hx := add_fun hl ha hb
  have old : ∀ s ∈ S, s ≠ Lin.at_ (List.zipWith (· + ·) (Lin.row m a) (Lin.row m b)) → s ∈ m.map Lin.at_ := fun s hs hne => by
    obtain ⟨r, hr, rfl⟩ := List.mem_map.1 (hS s hs)
    rw [h2] at hr
    refine List.mem_map.2 ⟨r, ?_, rfl⟩
    rw [h1]
    rcases List.mem_append.1 hr with h | h
    · exact List.mem_append_left _ h
    · rcases List.mem_cons.1 h with rfl | h
      · exact absurd rfl hne
      · exact List.mem_append_right _ (List.mem_cons_of_mem _ h)
  by_cases hin : Lin.at_ (List.zipWith (· + ·) (Lin.row m a) (Lin.row m b)) ∈ S
  · obtain ⟨V1, V2, rfl⟩ := List.append_of_mem hin
    have hnot : Lin.at_ (List.zipWith (· + ·) (Lin.row m a) (Lin.row m b)) ∉ V1 ++ V2 := fun h => hne (w_twice h C)
    have oth : ∀ s ∈ V1 ++ V2, s ∈ m.map Lin.at_ := fun s hs => old s (by
      rcases List.mem_append.1 hs with h | h
      · exact List.mem_append_left _ h
      · exact List.mem_append_right _ (List.mem_cons_of_mem _ h)) fun e => hnot (e ▸ hs)
    rw [hx, w_lin] at hne
    have go : ∀ r ∈ m, w (V1 ++ Lin.at_ r :: V2) C ≠ 0 → ∃ S' : List Row, (∀ s ∈ S', s ∈ m.map Lin.at_) ∧ S'.length = (V1 ++ Lin.at_ (List.zipWith (· + ·) (Lin.row m a) (Lin.row m b)) :: V2).length ∧ w S' C ≠ 0 := fun r hr h0 =>
      ⟨V1 ++ Lin.at_ r :: V2, fun s hs => by
        rcases List.mem_append.1 hs with h | h
        · exact oth s (List.mem_append_left _ h)
        · rcases List.mem_cons.1 h with rfl | h
          · exact List.mem_map.2 ⟨r, hr, rfl⟩
          · exact oth s (List.mem_append_right _ h), by simp, h0⟩
    by_cases h0 : w (V1 ++ Lin.at_ (Lin.row m a) :: V2) C = 0
    · refine go _ (row_mem hb) fun e => hne (by rw [h0, e]; rfl)
    · exact go _ (row_mem ha) h0
  · exact ⟨S, fun s hs => old s hs fun e => hin (e ▸ hs), rfl, hne⟩
theorem minor_sub (hl : ∀ r ∈ m, r.length = n) (ha : a < m.length) (hb : b < m.length) (hab : a ≠ b) {S : List Row} {C : List Nat} (hS : ∀ s ∈ S, s ∈ m.map Lin.at_) (hne : w S C ≠ 0) : ∃ S' : List Row, (∀ s ∈ S', s ∈ (addRow m a b).map Lin.at_) ∧ S'.length = S.length ∧ w S' C ≠ 0 := by
  obtain ⟨u, v, h1, h2, h3⟩ := add_split ha hb hab
  have hx := add_fun hl ha hb
  have hsub : Lin.at_ (Lin.row m a) = fun j => 1 * Lin.at_ (List.zipWith (· + ·) (Lin.row m a) (Lin.row m b)) j + (-1) * Lin.at_ (Lin.row m b) j := by
    rw [hx]; funext j; show _ = 1 * (1 * Lin.at_ (Lin.row m a) j + 1 * Lin.at_ (Lin.row m b) j) + (-1) * Lin.at_ (Lin.row m b) j; omega
  have mx : List.zipWith (· + ·) (Lin.row m a) (Lin.row m b) ∈ addRow m a b := by rw [h2]; simp
  have mb : Lin.row m b ∈ addRow m a b := by
    rw [h2]
    rcases List.mem_append.1 h3 with h | h
    · exact List.mem_append_left _ h
    · exact List.mem_append_right _ (List.mem_cons_of_mem _ h)
  have old : ∀ s ∈ S, s ≠ Lin.at_ (Lin.row m a) → s ∈ (addRow m a b).map Lin.at_ := fun s hs hne => by
    obtain ⟨r, hr, rfl⟩ := List.mem_map.1 (hS s hs)
    rw [h1] at hr
    refine List.mem_map.2 ⟨r, ?_, rfl⟩
    rw [h2]
    rcases List.mem_append.1 hr with h | h
    · exact List.mem_append_left _ h
    · rcases List.mem_cons.1 h with h | h
      · exact absurd (by rw [h]) hne
      · exact List.mem_append_right _ (List.mem_cons_of_mem _ h)
  by_cases hin : Lin.at_ (Lin.row m a) ∈ S
  · obtain ⟨V1, V2, rfl⟩ := List.append_of_mem hin
    have hnot : Lin.at_ (Lin.row m a) ∉ V1 ++ V2 := fun h => hne (w_twice h C)
    have oth : ∀ s ∈ V1 ++ V2, s ∈ (addRow m a b).map Lin.at_ := fun s hs => old s (by
      rcases List.mem_append.1 hs with h | h
      · exact List.mem_append_left _ h
      · exact List.mem_append_right _ (List.mem_cons_of_mem _ h)) fun e => hnot (e ▸ hs)
    have go : ∀ r ∈ addRow m a b, w (V1 ++ Lin.at_ r :: V2) C ≠ 0 → ∃ S' : List Row, (∀ s ∈ S', s ∈ (addRow m a b).map Lin.at_) ∧ S'.length = (V1 ++ Lin.at_ (Lin.row m a) :: V2).length ∧ w S' C ≠ 0 := fun r hr h0 =>
      ⟨V1 ++ Lin.at_ r :: V2, fun s hs => by
        rcases List.mem_append.1 hs with h | h
        · exact oth s (List.mem_append_left _ h)
        · rcases List.mem_cons.1 h with rfl | h
          · exact List.mem_map.2 ⟨r, hr, rfl⟩
          · exact oth s (List.mem_append_right _ h), by simp, h0⟩
    by_cases h0 : w (V1 ++ Lin.at_ (List.zipWith (· + ·) (Lin.row m a) (Lin.row m b)) :: V2) C = 0
    · refine go _ mb fun e => hne ?_
      rw [hsub, w_lin, h0, e]; rfl
    · exact go _ mx h0
  · exact ⟨S, fun s hs => old s hs fun e => hin (e ▸ hs), rfl, hne⟩
/-- The rank is the same. -/
theorem rank_add {k r s : Nat} (hl : ∀ r ∈ m, r.length = n) (ha : a < m.length) (hb : b < m.length) (hab : a ≠ b) (h1 : IsRank (m.map Lin.at_) k r) (h2 : IsRank ((addRow m a b).map Lin.at_) k s) : r = s := by
  refine Nat.le_antisymm ?_ ?_
  · obtain ⟨S, C, k1, k2, k3, k4, k5, _⟩ := h1
    obtain ⟨S', l1, l2, l3⟩ := minor_sub hl ha hb hab k1 k5
    have := h2.max l1 k4 l3
    omega
  · obtain ⟨S, C, k1, k2, k3, k4, k5, _⟩ := h2
    obtain ⟨S', l1, l2, l3⟩ := minor_add hl ha hb hab k1 k5
    have := h1.max l1 k4 l3
    omega
end
end Go.Proofs.Ytcjmknmlfggblaa.T
end

section
namespace Go.Proofs.Ytcjmknmlfggblaa.T
open Go Go.RowKit Lin

/-! Solutions add up (plain). -/
abbrev solM (m : List (List Int)) (right : List Int) : Frm := elim (copyP m right) (wid m)
def solX (m : List (List Int)) (right : List Int) (k : Nat) : Int := Lin.at_ (Lin.row (solM m right).rows k) (wid m)
section
variable {m : List (List Int)} {right : List Int}
theorem sol_inv (hv : validP m = true) (hr : right.length = m.length) (hw : withinP right 67108864 = true) : Lin.Inv (copyP m right) (wid m + 1) (wid m) (solM m right) := by
  have iv := elim_inv (ups_mover (copyP m right) (wid m + 1)) (both_small hv hr hw).lens (wid m) (by omega)
  rw [← elim_by] at iv
  exact iv
theorem copy_row (hr : right.length = m.length) {s : List Int} (hs : s ∈ copyP m right) : ∃ (i : Nat) (r : List Int) (b : Int), m[i]? = some r ∧ right[i]? = some b ∧ s = r ++ [b] := by
  obtain ⟨i, hi⟩ := List.mem_iff_getElem?.1 hs
  have hil : i < m.length := by have := (List.getElem?_eq_some_iff.1 hi).1; simpa [copyP] using this
  have hir : i < right.length := by omega
  simp only [copyP, List.getElem?_mapIdx, List.getElem?_eq_getElem hil, Option.map_some, List.getElem?_eq_getElem hir, Option.toList_some, Option.some.injEq] at hi
  exact ⟨i, m[i], right[i], List.getElem?_eq_getElem hil, List.getElem?_eq_getElem hir, hi.symm⟩
theorem copy_mem {i : Nat} {r : List Int} {b : Int} (hi : m[i]? = some r) (hb : right[i]? = some b) : r ++ [b] ∈ copyP m right :=
  List.mem_of_getElem? (i := i) (by simp [copyP, hi, hb])
theorem phi_row {Z : Nat → Int} {D : Int} {n : Nat} {r : List Int} {b : Int} (hrl : r.length = n) : phi Z D n (Lin.at_ (r ++ [b])) = sumN (fun k => Lin.at_ r k * Z k) n - D * b := by
  unfold phi
  have e1 : Lin.at_ (r ++ [b]) n = b := by simp [Lin.at_, ← hrl]
  rw [e1, sumN_congr n fun k hk => by
    show Lin.at_ (r ++ [b]) k * Z k = Lin.at_ r k * Z k
    simp [Lin.at_, List.getElem?_append_left (show k < r.length by omega)]]
/-- The equations hold for the form's numbers. -/
theorem sol_eq (hv : validP m = true) (hr : right.length = m.length) (hw : withinP right 67108864 = true) (hok : (solF (solM m right) (wid m)).2 = 0) :
    (solM m right).pivots.length = wid m ∧ (∀ (i : Nat) (r : List Int) (b : Int), m[i]? = some r → right[i]? = some b → sumN (fun k => Lin.at_ r k * solX m right k) (wid m) = (solM m right).den * b) ∧ (solF (solM m right) (wid m)).1 = (List.range (wid m)).map fun k => (makeP (solX m right k) (solM m right).den).1 := by
  obtain ⟨_, _, h3⟩ := validP_iff.1 hv
  have iv := sol_inv hv hr hw
  have hp : (solM m right).pivots.length = wid m := by
    rcases sol_prod hv hr hw hok with ⟨h, _⟩ | ⟨h, _⟩ <;> exact h
  unfold solX
  generalize solM m right = f at *
  unfold solF at hok ⊢
  split at hok
  · simp at hok
  rename_i hz
  rw [if_neg hz]
  split at hok
  · simp at hok
  rename_i hk
  rw [if_neg hk]
  refine ⟨hp, fun i r b hi hb => ?_, rfl⟩
  have hvan : Van ((copyP m right).map Lin.at_) (SS (copyP m right) f) (CC f) (wid m) := by
    rw [iv.van (by omega)]
    have := (any_drop f.rows f.pivots.length (wid m)).1 (by simpa using hz)
    rw [iv.nr] at this
    exact this
  have hrl := (h3 r (List.mem_of_getElem? hi)).1
  have hf := full_sum iv hp (by omega) hvan (copy_mem hi hb)
  have e1 : Lin.at_ (r ++ [b]) (wid m) = b := by simp [Lin.at_, ← hrl]
  rw [e1] at hf
  rw [Int.mul_comm, hf]
  refine sumN_congr _ fun k hkn => ?_
  have : Lin.at_ (r ++ [b]) k = Lin.at_ r k := by simp [Lin.at_, List.getElem?_append_left (show k < r.length by omega)]
  rw [this]
/-- Numbers that solve the equations are the solution. -/
theorem sol_of (hv : validP m = true) (hr : right.length = m.length) (hw : withinP right 67108864 = true) (hfull : rankP m (wid m) = wid m) {Z : Nat → Int} {D : Int} (hD : D ≠ 0)
    (hZ : ∀ (i : Nat) (r : List Int) (b : Int), m[i]? = some r → right[i]? = some b → sumN (fun k => Lin.at_ r k * Z k) (wid m) = D * b) :
    (solF (solM m right) (wid m)).2 = 0 ∧ ∀ k, k < wid m → Z k * (solM m right).den = D * solX m right k := by
  obtain ⟨_, _, h3⟩ := validP_iff.1 hv
  have iv := sol_inv hv hr hw
  have hp : (solM m right).pivots.length = wid m := by rw [both_rank hv hr hw, hfull]
  unfold solX
  generalize solM m right = f at *
  obtain ⟨u1, u2⟩ := unique iv hp hD fun s hs => by
    obtain ⟨i, r, b, hi, hb, rfl⟩ := copy_row hr hs
    rw [phi_row (h3 r (List.mem_of_getElem? hi)).1, hZ i r b hi hb]
    omega
  refine ⟨?_, u2⟩
  have hz : (f.rows.drop f.pivots.length).any (fun r => Lin.at_ r (wid m) != 0) = false := by
    rw [any_drop, iv.nr]
    exact (iv.van (by omega)).1 u1
  unfold solF
  rw [hz, if_neg (by simp), if_neg (by omega)]
end
end Go.Proofs.Ytcjmknmlfggblaa.T
end

section
namespace Go.Proofs.Ytcjmknmlfggblaa.T
open Go Go.RowKit Lin

/-! The sum of two solutions (plain). -/
theorem sum_frac {a b c : Int × Int} {X Y W dx dy dz : Int} (ha : vfrac a.1 a.2 = true) (hb : vfrac b.1 b.2 = true) (hc : vfrac c.1 c.2 = true) (hx : dx ≠ 0) (hy : dy ≠ 0) (hz : dz ≠ 0)
    (ea : a.1 * dx = X * a.2) (eb : b.1 * dy = Y * b.2) (ec : c.1 * dz = W * c.2) (hW : (X * dy + Y * dx) * dz = dx * dy * W) (ok : (addR a b).2 = 0) : (addR a b).1 = c := by
  have hq := add_q ha hb ok
  have hv := addR_valid ha hb ok
  generalize (addR a b).1 = s at *
  obtain ⟨a1, _⟩ := fr_bounds ha
  obtain ⟨b1, _⟩ := fr_bounds hb
  refine frac_eq hv hc ?_
  -- s (dx dy) = (X dy + Y dx) s.2
  have h1 : s.1 * (dx * dy) = (X * dy + Y * dx) * s.2 := by
    refine cancel (c := a.2 * b.2) (Int.ne_of_gt (Int.mul_pos (by omega) (by omega))) ?_
    calc s.1 * (dx * dy) * (a.2 * b.2) = (s.1 * (a.2 * b.2)) * (dx * dy) := by ac_rfl
      _ = ((a.1 * b.2 + b.1 * a.2) * s.2) * (dx * dy) := by rw [hq]
      _ = ((a.1 * dx) * b.2 * dy + (b.1 * dy) * a.2 * dx) * s.2 := by rw [Int.add_mul, Int.add_mul, Int.add_mul]; ac_rfl
      _ = ((X * a.2) * b.2 * dy + (Y * b.2) * a.2 * dx) * s.2 := by rw [ea, eb]
      _ = (X * dy + Y * dx) * s.2 * (a.2 * b.2) := by rw [Int.add_mul, Int.add_mul, Int.add_mul]; ac_rfl
  refine cancel (c := dx * dy * dz) (Int.mul_ne_zero (Int.mul_ne_zero hx hy) hz) ?_
  calc s.1 * c.2 * (dx * dy * dz) = (s.1 * (dx * dy)) * c.2 * dz := by ac_rfl
    _ = ((X * dy + Y * dx) * s.2) * c.2 * dz := by rw [h1]
    _ = ((X * dy + Y * dx) * dz) * (s.2 * c.2) := by ac_rfl
    _ = (dx * dy * W) * (s.2 * c.2) := by rw [hW]
    _ = (W * c.2) * s.2 * (dx * dy) := by ac_rfl
    _ = (c.1 * dz) * s.2 * (dx * dy) := by rw [ec]
    _ = c.1 * s.2 * (dx * dy * dz) := by ac_rfl
section
variable {m : List (List Int)} {right other : List Int}
/-- The equations of the sum. -/
theorem sum_eq (hv : validP m = true) (hr : right.length = m.length) (ho : other.length = m.length) (hw : withinP right 67108864 = true) (hwo : withinP other 67108864 = true) (hws : withinP (List.zipWith (· + ·) right other) 67108864 = true)
    (h1 : (solF (solM m right) (wid m)).2 = 0) (h2 : (solF (solM m other) (wid m)).2 = 0) :
    (solF (solM m (List.zipWith (· + ·) right other)) (wid m)).2 = 0 ∧ ∀ k, k < wid m → (solX m right k * (solM m other).den + solX m other k * (solM m right).den) * (solM m (List.zipWith (· + ·) right other)).den = (solM m right).den * (solM m other).den * solX m (List.zipWith (· + ·) right other) k := by
  obtain ⟨p1, e1, _⟩ := sol_eq hv hr hw h1
  obtain ⟨p2, e2, _⟩ := sol_eq hv ho hwo h2
  have d1 := (sol_inv hv hr hw).den0
  have d2 := (sol_inv hv ho hwo).den0
  have hfull : rankP m (wid m) = wid m := by rw [← both_rank hv hr hw]; exact p1
  refine sol_of hv (by simp; omega) hws hfull (Int.mul_ne_zero d1 d2) fun i r b hi hb => ?_
  have hir : i < right.length := by have := (List.getElem?_eq_some_iff.1 hi).1; omega
  have hio : i < other.length := by omega
  have x1 := e1 i r right[i] hi (List.getElem?_eq_getElem hir)
  have x2 := e2 i r other[i] hi (List.getElem?_eq_getElem hio)
  rw [List.getElem?_zipWith, List.getElem?_eq_getElem hir, List.getElem?_eq_getElem hio] at hb
  have hb' : right[i] + other[i] = b := by simpa using hb
  generalize (solM m right).den = dx at *
  generalize (solM m other).den = dy at *
  have e : sumN (fun k => Lin.at_ r k * (solX m right k * dy + solX m other k * dx)) (wid m) = dy * sumN (fun k => Lin.at_ r k * solX m right k) (wid m) + dx * sumN (fun k => Lin.at_ r k * solX m other k) (wid m) := by
    rw [← sumN_mul, ← sumN_mul, ← sumN_add]
    exact sumN_congr _ fun k _ => by rw [Int.mul_add]; ac_rfl
  rw [e, x1, x2, ← hb', Int.mul_add]
  ac_rfl
end
end Go.Proofs.Ytcjmknmlfggblaa.T
end

section
namespace Go.Proofs.Ytcjmknmlfggblaa.T
open Go Go.RowKit Lin

/-! Equations with one added to another one have the same solution (plain). -/
section
variable {m : List (List Int)} {right : List Int} {a b : Nat}
def addNum (right : List Int) (a b : Nat) : List Int := right.set a (Lin.at_ right a + Lin.at_ right b)
theorem copy_add (hl : ∀ r ∈ m, r.length = wid m) (hr : right.length = m.length) (ha : a < m.length) (hb : b < m.length) : copyP (addRow m a b) (addNum right a b) = addRow (copyP m right) a b := by
  have hcl : (copyP m right).length = m.length := by simp [copyP]
  have hrow : ∀ i, i < m.length → Lin.row (copyP m right) i = Lin.row m i ++ [Lin.at_ right i] := fun i hi => by
    have hir : i < right.length := by omega
    simp [Lin.row, Lin.at_, copyP, List.getElem?_eq_getElem hi, List.getElem?_eq_getElem hir]
  unfold addRow addNum
  rw [hrow a ha, hrow b hb]
  refine List.ext_getElem (by simp [copyP]) fun i h1 h2 => ?_
  have hi : i < m.length := by simpa [copyP] using h1
  have hir : i < right.length := by omega
  have hlab : (Lin.row m a).length = (Lin.row m b).length := by rw [hl _ (row_mem ha), hl _ (row_mem hb)]
  by_cases e : a = i
  · subst e
    simp only [copyP, List.getElem_mapIdx, List.getElem_set_self]
    rw [List.getElem?_set_self hir, List.zipWith_append hlab]
    rfl
  · have g1 : (copyP m right)[i]'(by omega) = m[i] ++ [right[i]] := by simp [copyP, List.getElem?_eq_getElem hir]
    rw [List.getElem_set_ne e, g1]
    simp only [copyP, List.getElem_mapIdx]
    rw [List.getElem_set_ne e, List.getElem?_set_ne e, List.getElem?_eq_getElem hir]
    rfl
theorem van_rank {M : List (List Int)} {n : Nat} {f : Frm} (h : Lin.Inv M (n + 1) n f) : Van (M.map Lin.at_) (SS M f) (CC f) n ↔ IsRank (M.map Lin.at_) (n + 1) f.pivots.length := by
  have hC : ∀ c ∈ CC f, c < n + 1 := fun c hc => by
    have := h.lt c (by simpa [CC] using hc)
    omega
  constructor
  · intro hv
    refine ⟨SS M f, CC f, h.sub, SS_length h, CC_length f, hC, h.wne, fun j hj => ?_⟩
    by_cases e : j = n
    · subst e; exact hv
    · exact h.van_lt (by omega)
  · intro hr
    exact van_of hr h.sub (SS_length h) hC n (by omega)
theorem sol_add (hv : validP m = true) (hv' : validP (addRow m a b) = true) (hw' : wid (addRow m a b) = wid m) (hr : right.length = m.length) (hw : withinP right 67108864 = true) (hwa : withinP (addNum right a b) 67108864 = true) (ha : a < m.length) (hb : b < m.length) (hab : a ≠ b) :
    solF (solM (addRow m a b) (addNum right a b)) (wid m) = solF (solM m right) (wid m) := by
  obtain ⟨_, _, h3⟩ := validP_iff.1 hv
  have hl : ∀ r ∈ m, r.length = wid m := fun r hr => (h3 r hr).1
  have hlen : (addNum right a b).length = (addRow m a b).length := by simp [addNum, addRow, hr]
  have iv := sol_inv hv hr hw
  have iv' := sol_inv hv' hlen hwa
  rw [hw'] at iv'
  have bs := both_small hv hr hw
  have hcl : (copyP m right).length = m.length := by simp [copyP]
  have k1 := both_rank hv hr hw
  have k2 := both_rank hv' hlen hwa
  rw [hw'] at k2
  have hs' := valid_small hv'
  rw [hw'] at hs'
  have kk : rankP m (wid m) = rankP (addRow m a b) (wid m) := rank_add hl ha hb hab (rk_is (valid_small hv)) (rk_is hs')
  have hpp : (solM (addRow m a b) (addNum right a b)).pivots.length = (solM m right).pivots.length := by
    show (elim _ (wid (addRow m a b))).pivots.length = _
    rw [hw', k2, ← kk, k1]
  have hM := copy_add hl hr ha hb
  have vv : Van ((copyP (addRow m a b) (addNum right a b)).map Lin.at_) (SS (copyP (addRow m a b) (addNum right a b)) (solM (addRow m a b) (addNum right a b))) (CC (solM (addRow m a b) (addNum right a b))) (wid m) ↔ Van ((copyP m right).map Lin.at_) (SS (copyP m right) (solM m right)) (CC (solM m right)) (wid m) := by
    rw [van_rank iv, van_rank iv', hpp, hM]
    have r1 := (elim_inv (ups_mover (copyP m right) (wid m + 1)) bs.lens (wid m + 1) (Nat.le_refl _)).isRank
    have bs' := both_small hv' hlen hwa
    rw [hw', hM] at bs'
    have r2 := (elim_inv (ups_mover (addRow (copyP m right) a b) (wid m + 1)) bs'.lens (wid m + 1) (Nat.le_refl _)).isRank
    have e := rank_add bs.lens (by omega) (by omega) hab r1 r2
    constructor
    · intro h
      rw [h.uniq r2, ← e]; exact r1
    · intro h
      rw [h.uniq r1, e]; exact r2
  have any1 := any_drop (solM m right).rows (solM m right).pivots.length (wid m)
  have any2 := any_drop (solM (addRow m a b) (addNum right a b)).rows (solM (addRow m a b) (addNum right a b)).pivots.length (wid m)
  rw [iv.nr] at any1
  rw [iv'.nr] at any2
  have hany : ((solM (addRow m a b) (addNum right a b)).rows.drop (solM (addRow m a b) (addNum right a b)).pivots.length).any (fun r => Lin.at_ r (wid m) != 0) = ((solM m right).rows.drop (solM m right).pivots.length).any (fun r => Lin.at_ r (wid m) != 0) := by
    rw [Bool.eq_iff_iff, ← Bool.not_eq_false, ← Bool.not_eq_false, any1, any2, ← iv.van (by omega), ← iv'.van (by omega)]
    exact not_congr vv
  by_cases hok : (solF (solM m right) (wid m)).2 = 0
  · obtain ⟨p1, e1, l1⟩ := sol_eq hv hr hw hok
    have hfull : rankP (addRow m a b) (wid (addRow m a b)) = wid (addRow m a b) := by rw [hw', ← kk, ← k1]; exact p1
    obtain ⟨ok2, u⟩ := sol_of hv' hlen hwa hfull iv.den0 (Z := solX m right) fun i r c hi hc => by
      rw [hw']
      have hra : right[a]? = some (Lin.at_ right a) := by rw [List.getElem?_eq_getElem (show a < right.length by omega)]; simp [Lin.at_, List.getElem?_eq_getElem (show a < right.length by omega)]
      have hrb : right[b]? = some (Lin.at_ right b) := by rw [List.getElem?_eq_getElem (show b < right.length by omega)]; simp [Lin.at_, List.getElem?_eq_getElem (show b < right.length by omega)]
      have hma : m[a]? = some (Lin.row m a) := by rw [row_get ha]; exact List.getElem?_eq_getElem ha
      have hmb : m[b]? = some (Lin.row m b) := by rw [row_get hb]; exact List.getElem?_eq_getElem hb
      by_cases e : a = i
      · subst e
        unfold addRow at hi
        unfold addNum at hc
        rw [List.getElem?_set_self ha] at hi
        rw [List.getElem?_set_self (show a < right.length by omega)] at hc
        cases hi
        cases hc
        have x1 := e1 a _ _ hma hra
        have x2 := e1 b _ _ hmb hrb
        rw [Int.mul_add, ← x1, ← x2, ← sumN_add]
        exact sumN_congr _ fun k _ => by rw [at_zip (by rw [hl _ (row_mem ha), hl _ (row_mem hb)]), Int.add_mul]
      · unfold addRow at hi
        unfold addNum at hc
        rw [List.getElem?_set_ne e] at hi hc
        exact e1 i r c hi hc
    rw [hw'] at ok2 u
    obtain ⟨_, _, l2⟩ := sol_eq hv' hlen hwa (by rw [hw']; exact ok2)
    rw [hw'] at l2
    refine Prod.ext ?_ (by rw [ok2, hok])
    rw [l1, l2]
    refine List.map_congr_left fun k hk => ?_
    have := u k (List.mem_range.1 hk)
    rw [makeP_same iv'.den0 iv.den0 (show solX (addRow m a b) (addNum right a b) k * (solM m right).den = solX m right k * (solM (addRow m a b) (addNum right a b)).den by rw [this, Int.mul_comm])]
  · unfold solF at hok ⊢
    rw [hany, hpp]
    split
    · rfl
    · rename_i hz
      rw [if_neg hz] at hok
      split
      · rfl
      · rename_i hk
        rw [if_neg hk] at hok
        exact absurd rfl hok
end
end Go.Proofs.Ytcjmknmlfggblaa.T
end

section
namespace Go.Proofs.Ytcjmknmlfggblaa.T
open Go Go.RowKit Lin

/-! What the law of sums asks (plain). -/
section
variable {m : List (List Int)} {right other : List Int} {a b : Nat}
theorem solveP_in (hv : validP m = true) (hr : right.length = m.length) (hw : withinP right 67108864 = true) : solveP m right = solF (solM m right) (wid m) := by
  unfold solveP
  rw [if_pos hv, if_pos hr, if_pos hw]
theorem solveP_out (hv : validP m = true) (hr : right.length = m.length) (hw : withinP right 67108864 = false) : solveP m right = ([], 2) := by
  unfold solveP
  rw [if_pos hv, if_pos hr, hw]
  simp
/-- Each number of a solution. -/
theorem sol_num (hv : validP m = true) (hr : right.length = m.length) (hw : withinP right 67108864 = true) (hok : (solF (solM m right) (wid m)).2 = 0) :
    (solF (solM m right) (wid m)).1.length = wid m ∧ ∀ (k : Nat) (g : Int × Int), (solF (solM m right) (wid m)).1[k]? = some g → k < wid m ∧ vfrac g.1 g.2 = true ∧ g.1 * (solM m right).den = solX m right k * g.2 := by
  obtain ⟨p1, _, e⟩ := sol_eq hv hr hw hok
  have iv := sol_inv hv hr hw
  have hb := both_small hv hr hw
  have in2 := iv.small2 hb (Nat.le_refl _)
  have hd2 := iv.den_small2 hb (Nat.le_refl _)
  have hcl : (copyP m right).length = m.length := by simp [copyP]
  have hpm : wid m ≤ m.length := by
    have := iv.k_le
    rw [p1] at this
    omega
  rw [e]
  refine ⟨by simp, fun k g hg => ?_⟩
  have hkl : k < wid m := by have := (List.getElem?_eq_some_iff.1 hg).1; simpa using this
  rw [List.getElem?_map, List.getElem?_range hkl] at hg
  simp only [Option.map_some, Option.some.injEq] at hg
  subst hg
  have ok : (makeP (solX m right k) (solM m right).den).2 = 0 := makeP_ok (in2 k (wid m) (by omega) (by omega)) hd2 iv.den0
  exact ⟨hkl, makeP_q iv.den0 ok⟩
theorem sums (hv : validP m = true) (hr : right.length = m.length) (ho : other.length = m.length) (hw : withinP right 67108864 = true) (hwo : withinP other 67108864 = true) (h1 : (solveP m right).2 = 0) (h2 : (solveP m other).2 = 0) :
    solveP m (List.zipWith (· + ·) right other) = ([], 2) ∨ (solveP m (List.zipWith (· + ·) right other)).2 = 0 ∧ (solveP m (List.zipWith (· + ·) right other)).1.length = (solveP m right).1.length ∧
      ∀ (k : Nat) (z : Int × Int), (solveP m (List.zipWith (· + ·) right other)).1[k]? = some z → ∃ x y : Int × Int, (solveP m right).1[k]? = some x ∧ (solveP m other).1[k]? = some y ∧ vfrac x.1 x.2 = true ∧ vfrac y.1 y.2 = true ∧ ((addR x y).2 = 0 → (addR x y).1 = z) := by
  have hs : (List.zipWith (· + ·) right other).length = m.length := by simp; omega
  cases hws : withinP (List.zipWith (· + ·) right other) 67108864
  · left; exact solveP_out hv hs hws
  right
  rw [solveP_in hv hr hw] at h1 ⊢
  rw [solveP_in hv ho hwo] at h2 ⊢
  rw [solveP_in hv hs hws]
  obtain ⟨h3, he⟩ := sum_eq hv hr ho hw hwo hws h1 h2
  obtain ⟨l1, n1⟩ := sol_num hv hr hw h1
  obtain ⟨l2, n2⟩ := sol_num hv ho hwo h2
  obtain ⟨l3, n3⟩ := sol_num hv hs hws h3
  refine ⟨h3, by rw [l1, l3], fun k z hz => ?_⟩
  obtain ⟨hk, vz, ez⟩ := n3 k z hz
  obtain ⟨x, hx⟩ : ∃ x, (solF (solM m right) (wid m)).1[k]? = some x := ⟨_, List.getElem?_eq_getElem (by omega)⟩
  obtain ⟨y, hy⟩ : ∃ y, (solF (solM m other) (wid m)).1[k]? = some y := ⟨_, List.getElem?_eq_getElem (by omega)⟩
  obtain ⟨_, vx, ex⟩ := n1 k x hx
  obtain ⟨_, vy, ey⟩ := n2 k y hy
  refine ⟨x, y, hx, hy, vx, vy, fun ok => ?_⟩
  exact sum_frac vx vy vz (sol_inv hv hr hw).den0 (sol_inv hv ho hwo).den0 (sol_inv hv hs hws).den0 ex ey ez (he k hk) ok
theorem add_facts (hv : validP m = true) (hv' : validP (addRow m a b) = true) (ha : a < m.length) (hb : b < m.length) (hab : a ≠ b) :
    wid (addRow m a b) = wid m ∧ (addRow m a b).length = m.length ∧ (m.length = wid m → detP (addRow m a b) = detP m) := by
  obtain ⟨h1, h2, h3⟩ := validP_iff.1 hv
  obtain ⟨k1, k2, k3⟩ := validP_iff.1 hv'
  have hl : ∀ r ∈ m, r.length = wid m := fun r hr => (h3 r hr).1
  have hlen : (addRow m a b).length = m.length := by simp [addRow]
  have hrow : List.zipWith (· + ·) (Lin.row m a) (Lin.row m b) ∈ addRow m a b := by
    unfold addRow
    exact List.mem_of_getElem? (i := a) (by rw [List.getElem?_set_self ha])
  have hwid : wid (addRow m a b) = wid m := by
    rw [← (k3 _ hrow).1]
    simp [hl _ (row_mem ha), hl _ (row_mem hb)]
  refine ⟨hwid, hlen, fun hsq => ?_⟩
  rw [(detP_w (valid_small hv) hsq).1, (detP_w (valid_small hv') (by omega)).1, hwid]
  exact det_add hl ha hb hab _
theorem solve_add (hv : validP m = true) (hv' : validP (addRow m a b) = true) (hr : right.length = m.length) (hw : withinP right 67108864 = true) (ha : a < m.length) (hb : b < m.length) (hab : a ≠ b) :
    solveP (addRow m a b) (addNum right a b) = ([], 2) ∨ solveP (addRow m a b) (addNum right a b) = solveP m right := by
  obtain ⟨w1, w2, _⟩ := add_facts hv hv' ha hb hab
  have hl : (addNum right a b).length = (addRow m a b).length := by rw [w2]; simp [addNum, hr]
  cases hwa : withinP (addNum right a b) 67108864
  · left; exact solveP_out hv' hl hwa
  right
  rw [solveP_in hv' hl hwa, solveP_in hv hr hw, w1]
  exact sol_add hv hv' w1 hr hw hwa ha hb hab
theorem solveP_le (m : List (List Int)) (right : List Int) (hv : validP m = true) : (solveP m right).1.length ≤ 1000 := by
  have h2 := (validP_iff.1 hv).2.1
  unfold solveP
  rw [if_pos hv]
  split
  · split
    · unfold solF
      split
      · simp
      · split
        · simp
        · simp; omega
    · simp
  · simp
theorem zipW_take {x y : List Int} {k : Nat} {p q : Int} (hx : x[k]? = some p) (hy : y[k]? = some q) {n : Nat} (hn : k < n) :
    ((List.zipWith (· + ·) x y).take k ++ List.replicate (n - k) 0).set k (p + q) = (List.zipWith (· + ·) x y).take (k + 1) ++ List.replicate (n - (k + 1)) 0 := by
  obtain ⟨h1, h2⟩ := List.getElem?_eq_some_iff.1 hx
  obtain ⟨g1, g2⟩ := List.getElem?_eq_some_iff.1 hy
  have hl : ((List.zipWith (· + ·) x y).take k).length = k := by simp; omega
  obtain ⟨j, hj⟩ : ∃ j, n - k = j + 1 := ⟨n - k - 1, by omega⟩
  have hz : (List.zipWith (· + ·) x y)[k]? = some (p + q) := by simp [List.getElem?_zipWith, hx, hy]
  rw [List.set_append_right _ _ (by omega), hl, Nat.sub_self, hj, show n - (k + 1) = j by omega, List.replicate_succ, List.set_cons_zero, List.take_add_one, hz]
  simp
end
end Go.Proofs.Ytcjmknmlfggblaa.T
end
