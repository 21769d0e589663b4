import Derived.Test.YtpcakodemleoiaaOAVRMQA
import Derived.Test.YtpcakodemleoiaaWN
import Derived.Test.YtpcakodemleoiaaOLHF
import Derived.Test.YtpcakodemleoiaaWRS
import Derived.Test.YtpcakodemleoiaaOVUMJA
import Derived.Test.YtpcakodemleoiaaTB
set_option linter.all false
section
section
namespace Go.Proofs.Ytpcakodemleoiaa.T
open Go Go.RowKit Lin
set_option linter.unusedSimpArgs false

/-! Chapter 16: find, without, modes, freedom, jammed. -/
/-! Lists of modes. -/
/-! Modes. -/
end Go.Proofs.Ytpcakodemleoiaa.T
end

section
namespace Go.Proofs.Ytpcakodemleoiaa.T
open Go Go.RowKit Lin
set_option linter.unusedSimpArgs false

/-! Chapter 16: modes, freedom, jammed. -/
end Go.Proofs.Ytpcakodemleoiaa.T
end

section
namespace Go.Proofs.Ytpcakodemleoiaa.T
open Go Go.RowKit Lin
set_option linter.unusedSimpArgs false

/-! Chapter 16: witnesses. -/
end Go.Proofs.Ytpcakodemleoiaa.T
end
end

section
section
namespace Go.Proofs.Ytpcakodemleoiaa.T
open Go Go.RowKit Lin
set_option linter.unusedSimpArgs false

/-! Chapter 16: the examples. -/
end Go.Proofs.Ytpcakodemleoiaa.T
end

section
namespace Go.Proofs.Ytpcakodemleoiaa.T
open Go Go.RowKit Lin
set_option linter.unusedSimpArgs false

/-! Chapter 16: what its laws' own functions return. -/
end Go.Proofs.Ytpcakodemleoiaa.T
end

section
namespace Go.Proofs.Ytpcakodemleoiaa.T
open Go Go.RowKit Lin
set_option linter.unusedSimpArgs false

/-! Chapter 16: sums of numbers times fractions. -/
/-! What the modes are (plain). -/
end Go.Proofs.Ytpcakodemleoiaa.T
end
end

section
namespace Go.Proofs.Ytpcakodemleoiaa.T
open Go Go.RowKit Lin
set_option linter.unusedSimpArgs false

/-! Chapter 16: redundant ropes. -/
/-! Chapter 16: a witness proves that a rope is redundant (plain). -/
/-! MobilityProves. -/
end Go.Proofs.Ytpcakodemleoiaa.T
end

namespace Go.Proofs.Ytpcakodemleoiaa.T
open Go Go.RowKit Lin
set_option linter.unusedSimpArgs false

/-! Chapter 14's program: the motions. -/
end Go.Proofs.Ytpcakodemleoiaa.T

namespace Go.Proofs.Ytpcakodemleoiaa.T
open Go Go.RowKit Lin
set_option linter.unusedSimpArgs false

/-! Chapter 14's program: the first tension, the force. -/
end Go.Proofs.Ytpcakodemleoiaa.T

namespace Go.Proofs.Ytpcakodemleoiaa.T
open Go Go.RowKit Lin
set_option linter.unusedSimpArgs false

/-! Chapter 14's program: clones for the efficiency. -/
def clH (l : List Hd) (k : Nat) : List Hd := (l.take k).map cleanH ++ l.drop k
theorem clH_len (l : List Hd) (k : Nat) (h : k ≤ l.length) : (clH l k).length = l.length := by simp [clH]; omega
theorem clH_zero (l : List Hd) : clH l 0 = l := by simp [clH]
theorem clH_end (l : List Hd) : clH l l.length = l.map cleanH := by simp [clH]
theorem hdC_ls {l : List Hd} {i : Nat} {h : Hd} (hx : l[i]? = some h) (a b : Int) : (hdC l).take (i * 4 + 2) ++ int a :: int b :: (hdC l).drop (i * 4 + 4) = hdC (l.set i ⟨h.b, h.p, a, b⟩) := by
  have h1 := hdC_set l i ⟨h.b, h.p, a, b⟩ (List.getElem?_eq_some_iff.1 hx).1
  have h2 := hdC_read l i h hx
  have h3 : ((hdC l).drop (i * 4)).take 2 = [str h.b, int h.p] := by
    have := congrArg (List.take 2) h2
    rw [List.take_take] at this
    simpa using this
  rw [← h1, List.take_add, h3]
  simp
theorem clH_at {h : List Hd} {x : Hd} {k : Nat} (hx : h[k]? = some x) : (clH h k)[k]? = some x := by
  have hk := (List.getElem?_eq_some_iff.1 hx).1
  unfold clH
  rw [List.getElem?_append_right (by simp; omega)]
  simp only [List.length_map, List.length_take]
  rw [List.getElem?_drop, Nat.min_eq_left (by omega), Nat.sub_self, Nat.add_zero, hx]
theorem clH_set {h : List Hd} {x : Hd} {k : Nat} (hx : h[k]? = some x) : (clH h k).set k (cleanH x) = clH h (k + 1) := by
  have hk := (List.getElem?_eq_some_iff.1 hx).1
  have hl : ((h.take k).map cleanH).length = k := by simp; omega
  unfold clH
  rw [List.set_append_right _ _ (by omega), hl, Nat.sub_self, List.take_add_one, hx, Option.toList_some, List.map_append, List.append_assoc, List.drop_eq_getElem_cons hk]
  rfl
end Go.Proofs.Ytpcakodemleoiaa.T

namespace Go.Proofs.Ytpcakodemleoiaa.T
open Go Go.RowKit Lin
set_option linter.unusedSimpArgs false

/-! Chapter 14's reference: a system without losses. -/
theorem roC_clean : ∀ (rs : List Rp) (qs : List (Nat × Nat)), roC (rs.map cleanR) qs = roC rs qs
  | [], _ => rfl
  | _ :: _, [] => by simp [roC]
  | r :: rs, p :: qs => by
    have ih := roC_clean rs qs
    unfold roC at ih ⊢
    rw [List.map_cons, List.zipWith_cons_cons, List.zipWith_cons_cons, ih]
    simp only [ro1, cleanR, List.length_map]
def idH (hs : List Hd) (i k j : Nat) : List Hd := if j < i then hs.map cleanH else if j = i then clH hs k else hs
structure IdR (s : Sy) (qs : List (Nat × Nat)) (i k : Nat) (R : List Blk) : Prop where
  lr : R.length = 2 * s.rs.length
  at_ : ∀ (j : Nat) (r : Rp) (p : Nat × Nat), s.rs[j]? = some r → qs[j]? = some p → p.1 = 2 * j + 9 ∧ R[2 * j + 1]? = some ⟨46, p.2, hdC (idH r.hs i k j)⟩
end Go.Proofs.Ytpcakodemleoiaa.T

namespace Go.Proofs.Ytpcakodemleoiaa.T
open Go Go.RowKit
set_option linter.unusedSimpArgs false

/-! A call whose result holds a slice of a block of its own among plain values. -/
theorem RepL_split {F : Mem} {G : Ghost} {d : D} {b : List D} : ∀ {a : List D} {us : List Value}, RepL F G (a ++ d :: b) us → ∃ ua u ub, us = ua ++ u :: ub ∧ RepL F G a ua ∧ Rep F G d u ∧ RepL F G b ub
  | [], us, h => by
    simp only [List.nil_append, RepL] at h
    obtain ⟨u, us', e, h1, h2⟩ := h
    exact ⟨[], u, us', e, by simp [RepL], h1, h2⟩
  | x :: a, us, h => by
    simp only [List.cons_append, RepL] at h
    obtain ⟨u, us', rfl, h1, h2⟩ := h
    obtain ⟨ua, v, ub, rfl, k1, k2, k3⟩ := RepL_split h2
    exact ⟨u :: ua, v, ub, rfl, by simp only [RepL]; exact ⟨u, ua, rfl, h1, k1⟩, k2, k3⟩
theorem RepL_join {F : Mem} {G : Ghost} {d : D} {b : List D} {u : Value} {ub : List Value} (h2 : Rep F G d u) (h3 : RepL F G b ub) : ∀ {a : List D} {ua : List Value}, RepL F G a ua → RepL F G (a ++ d :: b) (ua ++ u :: ub)
  | [], ua, h => by
    simp only [RepL] at h
    subst h
    simp only [List.nil_append, RepL]
    exact ⟨u, ub, rfl, h2, h3⟩
  | x :: a, ua, h => by
    simp only [RepL] at h
    obtain ⟨v, us', rfl, h1, h4⟩ := h
    simp only [List.cons_append, RepL]
    exact ⟨v, _, rfl, h1, RepL_join h2 h3 h4⟩
def wrapD (tup : Bool) (pre post : List D) (o : D) : D := if tup = true then .tup (pre ++ o :: post) else .agg (pre ++ o :: post)
theorem wrap_split {F : Mem} {G : Ghost} {tup : Bool} {pre post : List D} {o : D} {u : Value} (h1 : plainL pre = true) (h2 : plainL post = true) (h : Rep F G (wrapD tup pre post o) u) : ∃ v, Rep F G o v ∧ ∀ G' o', Rep F G' o' v → Rep F G' (wrapD tup pre post o') u := by
  unfold wrapD at h ⊢
  cases tup
  · simp only [Bool.false_eq_true, if_false, Rep] at h ⊢
    obtain ⟨vs, rfl, hL⟩ := h
    obtain ⟨ua, v, ub, rfl, k1, k2, k3⟩ := RepL_split hL
    exact ⟨v, k2, fun G' o' ho => ⟨_, rfl, RepL_join ho (plain_repL _ _ h2 k3) (plain_repL _ _ h1 k1)⟩⟩
  · simp only [if_true, Rep] at h ⊢
    obtain ⟨vs, rfl, hL⟩ := h
    obtain ⟨ua, v, ub, rfl, k1, k2, k3⟩ := RepL_split hL
    exact ⟨v, k2, fun G' o' ho => ⟨_, rfl, RepL_join ho (plain_repL _ _ h2 k3) (plain_repL _ _ h1 k1)⟩⟩
section
variable {P : Program}
theorem PFreshX.intro {f : FuncId} {ds : List D} {ty : TypeId} {sz n : Nat} {cells : List D} {tup : Bool} {pre post : List D} (hc : plainL cells = true) (h1 : plainL pre = true) (h2 : plainL post = true)
    (h : ∀ t, ACall P f ds [] t fun d H' _ => ∃ b g, d = wrapD tup pre post (.own sz b g 0 n) ∧ H'[b]? = some (some ⟨ty, g, cells⟩)) : PFreshX P f ds ty sz n cells (wrapD tup pre post) := by
  refine fun F G w us hF hL => ?_
  obtain ⟨t, ht⟩ := top_of G
  have R : Rel w F G [] t w := ⟨Below.refl _ _, hF, Nat.zero_le _, ht, fun i bl h => by simp at h, fun i j bi bj p q r s t u _ h => by simp at h⟩
  refine (h t w F G w us R hL).mono fun e w' hx => ?_
  obtain ⟨F', G', u, d', H', t', rfl, onw, R', hd, b, g, rfl, hb⟩ := hx
  obtain ⟨v, hv, hw⟩ := wrap_split h1 h2 hd
  obtain ⟨p, hp, hg, hl⟩ := R'.own b _ hb
  refine ⟨F', u, v, p, rfl, onw.mem, fun b o hb => onw.old b o hb, R'.mem, R'.below, ⟨rfl, ?_⟩, ?_, hw⟩
  · cases hr : p.r with
    | none => rw [hr] at hl; exact hl
    | some rs =>
      obtain ⟨r, s⟩ := rs
      rw [hr] at hl
      obtain ⟨k1, k2, hl⟩ := hl
      refine ⟨k1, k2, ?_⟩
      cases hpm : p.m with
      | false =>
        rw [hpm] at hl
        obtain ⟨vs, junk, k3, k4, k5⟩ := hl
        exact ⟨vs, junk, k3, k4, plain_repL _ _ hc k5⟩
      | true => rw [hpm] at hl; exact hl
  · simp only [Rep] at hv ⊢
    obtain ⟨k1, p', hp', k2, k3⟩ := hv
    rw [hp] at hp'; cases hp'
    exact ⟨k1, p, rfl, Nat.le_refl _, fun _ => k3 hg⟩
end
end Go.Proofs.Ytpcakodemleoiaa.T

