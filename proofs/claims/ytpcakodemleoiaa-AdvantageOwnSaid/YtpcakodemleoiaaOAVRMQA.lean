import Derived.Test.YtpcakodemleoiaaOMJAVQ
import Derived.Test.YtpcakodemleoiaaLSJ
import Derived.Test.YtpcakodemleoiaaWRJ
import Derived.Test.YtpcakodemleoiaaWPJ
import Derived.Test.YtpcakodemleoiaaSDE
import Derived.Test.YtpcakodemleoiaaOVJ
import Derived.Test.YtpcakodemleoiaaTB
import Derived.Test.YtpcakodemleoiaaTTab
import Derived.Test.YtpcakodemleoiaaTN
import Derived.Shelf.SlicesE.Delete
import Derived.Test.YtpcakodemleoiaaOVUMJA
set_option linter.all false
namespace Go.Proofs.Ytpcakodemleoiaa.T
open Go Go.RowKit Lin
set_option linter.unusedSimpArgs false

/-! Comparisons of fractions (plain). -/
/-! Best (plain). -/
/-! AdvantageHolds (plain): the tension is the sum of the weights over their advantages. -/
def keepB (l : List Bk) (k : Nat) : List Int := (l.take k).map (·.w) ++ List.replicate (l.length - k) 0
theorem keepB_get {l : List Bk} {k i : Nat} {b : Bk} (hk : k ≤ l.length) (hb : l[i]? = some b) : (keepB l k)[i]? = some (if i < k then b.w else 0) := by
  have hi := (List.getElem?_eq_some_iff.1 hb).1
  unfold keepB
  split
  · rename_i h
    rw [List.getElem?_append_left (by simp; omega), List.getElem?_map, List.getElem?_take, if_pos h, hb]
    rfl
  · rename_i h
    rw [List.getElem?_append_right (by simp; omega), List.getElem?_replicate, if_pos (by simp; omega)]
/-- What is known of the sum over the first k blocks. -/
def SumI (s : Sy) (i k : Nat) (c : Int × Int) : Prop := ∃ (Z : Nat → Int) (D : Int), D ≠ 0 ∧ SolQ (matS s) (keepB s.bs k) Z D ∧ Val c (Z i) D
theorem SumI.zero (s : Sy) (i : Nat) : SumI s i 0 (0, 1) := by
  refine ⟨fun _ => 0, 1, by decide, fun j r b _ hb => ?_, Val.one (by decide)⟩
  have : b = 0 := by
    have hm := List.mem_of_getElem? hb
    simp only [keepB, List.take_zero, List.map_nil, List.nil_append] at hm
    exact (List.mem_replicate.1 hm).2
  subst this
  simp [sumN_zero]
/-- One block more. -/
theorem SumI.next {s : Sy} (hv : validS s = true) {i k : Nat} (ei : hix s = (i : Int)) {c : Int × Int} (h : SumI s i k c) {b : Bk} (hb : s.bs[k]? = some b) {Y : Nat → Int} {E : Int} (hE : E ≠ 0) (hY : SolQ (matS (unitS s b.nm)) (wtsS (unitS s b.nm)) Y E) {d : Int × Int} {r q : Int} (hd : Val d r q) (e : b.w * Y i * q = r * E) (ha : (addR c d).2 = 0) : SumI s i (k + 1) (addR c d).1 := by
  obtain ⟨Z, D, hD, hZ, hV⟩ := h
  have ok := validS_ok hv
  have em : matS (unitS s b.nm) = matS s := matS_names rfl (unit_names s b.nm)
  rw [em] at hY
  have hk := (List.getElem?_eq_some_iff.1 hb).1
  refine ⟨fun j => Z j * E + (Y j * b.w) * D, D * E, Int.mul_ne_zero hD hE, fun j row x hj hx => ?_, (hV.add hd ha).to (Int.mul_ne_zero hD hE) ?_⟩
  · have hjl : j < s.bs.length := by
      have := (List.getElem?_eq_some_iff.1 hj).1
      rw [ok.mat_len] at this
      exact this
    obtain ⟨g, hg⟩ : ∃ y, s.bs[j]? = some y := ⟨_, List.getElem?_eq_getElem hjl⟩
    rw [keepB_get (by omega) hg, Option.some.injEq] at hx
    have h1 := hZ j row _ hj (keepB_get (by omega) hg)
    have hu : (wtsS (unitS s b.nm))[j]? = some (if k = j then 1 else 0) := by
      have := at_unit ok hb rfl hjl
      rw [← this]
      unfold Lin.at_
      rw [List.getElem?_eq_getElem (show j < (wtsS (unitS s b.nm)).length by simp [wtsS, unitS]; exact hjl)]
      rfl
    have h2 := hY j row _ hj hu
    rw [sum_two, h1]
    have e3 : sumN (fun n => Lin.at_ row n * (Y n * b.w)) (wid (matS s)) = b.w * sumN (fun n => Lin.at_ row n * Y n) (wid (matS s)) := by
      rw [← sumN_mul]
      exact sumN_congr _ fun n _ => by ac_rfl
    rw [e3, h2, ← hx]
    by_cases hjk : k = j
    · subst hjk
      rw [hb, Option.some.injEq] at hg
      subst hg
      rw [if_pos rfl, if_neg (by omega), if_pos (by omega)]
      grind
    · rw [if_neg hjk]
      by_cases hlt : j < k
      · rw [if_pos hlt, if_pos (by omega)]
        grind
      · rw [if_neg hlt, if_neg (by omega)]
        grind
  · grind
theorem SumI.same {s : Sy} (hv : validS s = true) {i k : Nat} (ei : hix s = (i : Int)) {c : Int × Int} (h : SumI s i k c) {b : Bk} (hb : s.bs[k]? = some b) {Y : Nat → Int} {E : Int} (hE : E ≠ 0) (hY : SolQ (matS (unitS s b.nm)) (wtsS (unitS s b.nm)) Y E) (e : Y i = 0) : SumI s i (k + 1) c := by
  have h0 : Val ((0, 1) : Int × Int) 0 1 := Val.one (by decide)
  obtain ⟨Z, D, hD, hZ, hV⟩ := h
  have hs : addR c (0, 1) = (c, 0) := addR_is hV h0 (by simpa using hV)
  have := SumI.next hv ei ⟨Z, D, hD, hZ, hV⟩ hb hE hY h0 (by rw [e]; simp) (by rw [hs])
  rw [hs] at this
  exact this
end Go.Proofs.Ytpcakodemleoiaa.T

namespace Go.Proofs.Ytpcakodemleoiaa.T
open Go Go.RowKit Lin
set_option linter.unusedSimpArgs false

/-! Chapter 14 (plain): factors along a rope. -/
structure FB (f : Int × Int) (A : Nat) : Prop where
  v : vfrac f.1 f.2 = true
  n1 : 1 ≤ f.1
  nA : f.1 ≤ A
  dA : f.2 ≤ A
theorem FB.d1 {f : Int × Int} {A : Nat} (h : FB f A) : 1 ≤ f.2 := (fr_bounds h.v).1
theorem made_small {a d B : Nat} (ha : 0 < a) (hd : 0 < d) (hA : a ≤ B) (hB : d ≤ B) (h : B ≤ 1152921504606846976) : (madeP a false d).2 = 0 ∧ FB (madeP a false d).1 B := by
  have hg : 0 < Nat.gcd a d := Nat.gcd_pos_of_pos_right _ hd
  have e : madeP a false d = signP false (a / Nat.gcd a d) (d / Nat.gcd a d) := by unfold madeP; rw [if_neg (by omega)]
  have h1 : 1 ≤ a / Nat.gcd a d := Nat.div_pos (Nat.le_of_dvd ha (Nat.gcd_dvd_left a d)) hg
  have h2 : 1 ≤ d / Nat.gcd a d := Nat.div_pos (Nat.le_of_dvd hd (Nat.gcd_dvd_right a d)) hg
  have h3 := Nat.div_le_self a (Nat.gcd a d)
  have h4 := Nat.div_le_self d (Nat.gcd a d)
  have z : (madeP a false d).2 = 0 := by
    rw [e]
    unfold signP
    rw [if_neg (by omega)]
  have hv := madeP_valid hd z
  refine ⟨z, hv, ?_, ?_, ?_⟩
  all_goals
    rw [e]
    unfold signP
    rw [if_neg (by omega)]
    simp only [Bool.false_eq_true, if_false]
    omega
theorem FB.mul {f l : Int × Int} {A : Nat} (h : FB f A) (hl : FB l 100) (hA : A * 100 ≤ 1152921504606846976) : (mulR f l).2 = 0 ∧ FB (mulR f l).1 (A * 100) := by
  have a1 := h.n1
  have a2 := h.d1
  have b1 := hl.n1
  have b2 := hl.d1
  have a3 := h.nA
  have a4 := h.dA
  have b3 := hl.nA
  have b4 := hl.dA
  have e : mulR f l = madeP (f.1.natAbs * l.1.natAbs) false (f.2.natAbs * l.2.natAbs) := by
    unfold mulR
    rw [decide_eq_false (show ¬ f.1 < 0 by omega), decide_eq_false (show ¬ l.1 < 0 by omega)]
    rfl
  rw [e]
  exact made_small (Nat.mul_pos (by omega) (by omega)) (Nat.mul_pos (by omega) (by omega)) (Nat.mul_le_mul (by omega) (by omega)) (Nat.mul_le_mul (by omega) (by omega)) hA
theorem FB.recip {l : Int × Int} {A : Nat} (h : FB l A) : FB (T.recip l) A := by
  have a1 := h.n1
  have e : T.recip l = (l.2, l.1) := by unfold T.recip; rw [if_neg (by omega)]
  have hv := recip_ok h.v (by omega)
  rw [e] at hv ⊢
  exact ⟨hv, h.d1, h.dA, h.nA⟩
theorem FB.div {f l : Int × Int} {A : Nat} (h : FB f A) (hl : FB l 100) (hA : A * 100 ≤ 1152921504606846976) : (divR f l).2 = 0 ∧ FB (divR f l).1 (A * 100) := by
  rw [div_recip hl.v]
  exact h.mul hl.recip hA
/-! Grips, motions' sums, and the first tension. -/
end Go.Proofs.Ytpcakodemleoiaa.T

namespace Go.Proofs.Ytpcakodemleoiaa.T
open Go Go.RowKit Lin
set_option linter.unusedSimpArgs false

/-! Comparisons of fractions. -/
end Go.Proofs.Ytpcakodemleoiaa.T

namespace Go.Proofs.Ytpcakodemleoiaa.T
open Go Go.RowKit Lin
set_option linter.unusedSimpArgs false

/-! Chapter 14's program. -/
end Go.Proofs.Ytpcakodemleoiaa.T

namespace Go.Proofs.Ytpcakodemleoiaa.T
open Go Go.RowKit Lin
set_option linter.unusedSimpArgs false

/-! Chapter 14's program: the grips. -/
end Go.Proofs.Ytpcakodemleoiaa.T

section
namespace Go.Proofs.Ytpcakodemleoiaa.T
open Go Go.RowKit
set_option linter.unusedSimpArgs false

end Go.Proofs.Ytpcakodemleoiaa.T
end

section
namespace Go.Proofs.Ytpcakodemleoiaa.T
open Go Go.RowKit Go.Shelf Go.Sort
set_option linter.unusedSimpArgs false

/-! slices.Delete of one element, in the caller's block. -/
/-! Its two instances. -/
end Go.Proofs.Ytpcakodemleoiaa.T
end

section
namespace Go.Proofs.Ytpcakodemleoiaa.T
open Go Go.RowKit Lin
set_option linter.unusedSimpArgs false

/-! Chapter 16: the fixed ropes. -/
def nums (l : List Nat) : List Int := l.map fun i : Nat => (i : Int)
end Go.Proofs.Ytpcakodemleoiaa.T
end

