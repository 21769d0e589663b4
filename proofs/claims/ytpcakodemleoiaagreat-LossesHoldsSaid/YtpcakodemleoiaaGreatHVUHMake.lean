import Derived.Test.YtpcakodemleoiaaGreatHACRVU
import Derived.Test.YtpcakodemleoiaaGreatHALNARD
import Derived.Test.YtpcakodemleoiaaGreatHALMALR
import Derived.Test.YtpcakodemleoiaaGreatHFWALT
import Derived.Test.YtpcakodemleoiaaGreatHTJ
import Derived.Test.YtpcakodemleoiaaGreatHWA
import Derived.Test.YtpcakodemleoiaaGreatHWJK
import Derived.Test.YtpcakodemleoiaaGreatHSG
import Derived.Test.YtpcakodemleoiaaGreatRows
import Derived.Lib.SmallJoins
import Derived.ProofKit
set_option linter.all false
namespace Go.Proofs.YtpcakodemleoiaaGreat.T
open Go Go.RowKit Lin
mutual
theorem in_plain {k : Nat} : ∀ d : D, Y0z d = true → inD k d = true
  | .v _, _ => by simp only [inD]
  | .sl _ cs _, h => by simp only [Y0z] at h; simp only [inD]; exact Y2o cs h
  | .rp cs _, h => by simp only [Y0z] at h; simp only [inD]; exact Y2o cs h
  | .own .., h => by simp [Y0z] at h
  | .ptr .., h => by simp [Y0z] at h
  | .agg cs, h => by simp only [Y0z] at h; simp only [inD]; exact Y2o cs h
  | .tup cs, h => by simp only [Y0z] at h; simp only [inD]; exact Y2o cs h
  | .fn _ cs, h => by simp only [Y0z] at h; simp only [inD]; exact Y2o cs h
  | .mp .., h => by simp [Y0z] at h
  | .any, _ => by simp only [inD]
theorem Y2o {k : Nat} : ∀ l : List D, Y0q l = true → inL k l = true
  | [], _ => by simp only [inL]
  | d :: l, h => by simp only [Y0q, Bool.and_eq_true] at h; simp only [inL, in_plain d h.1, Y2o l h.2, Bool.and_self]
end
theorem Yab {n : Nat} : ∀ {l : List D}, (∀ d ∈ l, ∃ x, d = .v x) → shL n l = l
  | [], _ => by simp only [shL]
  | d :: l, h => by
    obtain ⟨x, rfl⟩ := h d (by simp)
    simp only [shL, shD, Yab fun e he => h e (List.mem_cons_of_mem _ he)]
theorem bkC_v (l : List Bk) : ∀ d ∈ bkC l, ∃ x, d = .v x := by
  intro d hd
  obtain ⟨b, _, hb⟩ := List.mem_flatMap.1 hd
  simp only [List.mem_cons, List.not_mem_nil, or_false] at hb
  rcases hb with rfl | rfl <;> exact ⟨_, rfl⟩
theorem hdC_v (l : List Hd) : ∀ d ∈ hdC l, ∃ x, d = .v x := by
  intro d hd
  obtain ⟨b, _, hb⟩ := List.mem_flatMap.1 hd
  simp only [List.mem_cons, List.not_mem_nil, or_false] at hb
  rcases hb with rfl | rfl | rfl | rfl <;> exact ⟨_, rfl⟩
theorem roC_mem {rs : List Rp} {ps : List (Nat × Nat)} {d : D} (h : d ∈ (roC rs ps).flatten) : ∃ (j : Nat) (r : Rp) (p : Nat × Nat), rs[j]? = some r ∧ ps[j]? = some p ∧ d ∈ ro1 r p := by
  obtain ⟨l, hl, hd⟩ := List.mem_flatten.1 h
  obtain ⟨j, hj⟩ := List.mem_iff_getElem?.1 hl
  unfold roC at hj
  rw [List.getElem?_zipWith] at hj
  cases h1 : rs[j]? with
  | none => rw [h1] at hj; simp at hj
  | some r =>
    cases h2 : ps[j]? with
    | none => rw [h1, h2] at hj; simp at hj
    | some p =>
      rw [h1, h2] at hj
      simp only [Option.some.injEq] at hj
      subst hj
      exact ⟨j, r, p, h1, h2, hd⟩
def shP (n : Nat) (p : Nat × Nat) : Nat × Nat := (p.1 + n, p.2)
theorem Ygm (n : Nat) : ∀ (rs : List Rp) (ps : List (Nat × Nat)), shL n (roC rs ps).flatten = (roC rs (ps.map (shP n))).flatten
  | [], _ => by simp [roC, shL]
  | _ :: _, [] => by simp [roC, shL]
  | r :: rs, p :: ps => by
    have ih := Ygm n rs ps
    unfold roC at ih ⊢
    simp only [List.map_cons, List.zipWith_cons_cons, List.flatten_cons, ro1, List.cons_append, List.nil_append, shL, shD, ih]
    rfl
structure CB (s : Sy) (n : Nat) (qs : List (Nat × Nat)) (R : List Blk) : Prop where
  lq : qs.length = s.rs.length
  lr : R.length = 2 * s.rs.length
  at_ : ∀ (j : Nat) (r : Rp) (p : Nat × Nat), s.rs[j]? = some r → qs[j]? = some p → p.1 = n + (2 * j + 6) ∧ R[2 * j + 1]? = some ⟨43, p.2, hdC r.hs⟩
theorem copyH {s : Sy} (ok : OkS s) {ds : List D} {H : Hp} {t : Nat} {K : D → Hp → Nat → Prop} (hd : ds.map ufa = [syD s])
    (hK : ∀ (g2 gr : Nat) (qs : List (Nat × Nat)) (R : List Blk) (B0 B1 B3 : Blk) (t' : Nat), CB s H.length qs R → t ≤ t' → K (.agg [.own 2 (H.length + 2) g2 0 s.bs.length, .own 3 (H.length + 4) gr 0 s.rs.length]) (H ++ (some B0 :: some B1 :: some ⟨45, g2, bkC s.bs⟩ :: some B3 :: some ⟨39, gr, (roC s.rs qs).flatten⟩ :: R.map some)) t') : ACall Tryz.prog 28 ds H t K := by
  have hpl : Y0q [bks s.bs, rps s.rs] = true := by simp only [Y0q, Y4f, Y5j, Y0z, Bool.and_self]
  have hp : Y0q [syD s] = true := by simp only [Y0q, Y0z, hpl, Y4f, Y5j, Bool.and_self]
  refine ACall.of_new (copy0S s ok t) hd hp fun d H' t' hk => ?_
  obtain ⟨x, g0, g1, g2, g3, z, cx, ck, rfl, rfl, h0, h1, h2, h3, rfl, rfl⟩ := hk
  obtain ⟨k, g, ps, R, tt⟩ := x
  obtain ⟨xk, xp, xr, xat, xnew, xg, xt⟩ := cx
  simp only at ck xk xp xr xat xnew xg xt
  subst ck
  refine ⟨⟨25, g0, [bks s.bs, rps s.rs]⟩ :: ⟨25, g1, _⟩ :: ⟨45, g2, bkC s.bs⟩ :: ⟨25, g3, _⟩ :: ⟨39, g, (roC s.rs ps).flatten⟩ :: R, rfl, ⟨xt, ?_, fun bl hbl => ?_⟩, ?_⟩
  · simp [inD, inL]
  · simp only [List.length_cons]
    have hz : inL (R.length + 1 + 1 + 1 + 1 + 1) [D.own 2 2 g2 0 s.bs.length, D.own 3 4 g 0 s.rs.length] = true := by simp [inL, inD]
    rcases List.mem_cons.1 hbl with rfl | hbl
    · exact ⟨h0, Y2o _ hpl⟩
    rcases List.mem_cons.1 hbl with rfl | hbl
    · exact ⟨h1, hz⟩
    rcases List.mem_cons.1 hbl with rfl | hbl
    · exact ⟨h2, Y2o _ (by have := Y4f s.bs; simpa only [Y0z] using this)⟩
    rcases List.mem_cons.1 hbl with rfl | hbl
    · exact ⟨h3, hz⟩
    rcases List.mem_cons.1 hbl with rfl | hbl
    · refine ⟨xg, Y7y fun d hd => ?_⟩
      obtain ⟨j, r, p, e1, e2, hm⟩ := roC_mem hd
      obtain ⟨a1, a2⟩ := xat j r p e1 e2
      have := (List.getElem?_eq_some_iff.1 a2).1
      simp only [ro1, List.mem_cons, List.not_mem_nil, or_false] at hm
      rcases hm with rfl | rfl | rfl
      · rfl
      · simp only [inD, decide_eq_true_eq]
        omega
      · rfl
    · obtain ⟨a1, a2⟩ := xnew bl hbl
      refine ⟨a1, ?_⟩
      rcases a2 with ⟨l, e⟩ | ⟨r, p, e, hp'⟩
      · rw [e]
        refine Y7y fun d hd => ?_
        obtain ⟨y, rfl⟩ := hdC_v l d hd
        rfl
      · rw [e]
        simp only [ro1, inL, inD, Bool.and_true, Bool.true_and, decide_eq_true_eq]
        omega
  · have hcb : CB s H.length (ps.map (shP H.length)) (R.map (shB H.length)) := by
      refine ⟨by simp [xp], by simp [xr], fun j r p hr hp' => ?_⟩
      rw [List.getElem?_map] at hp'
      cases e : ps[j]? with
      | none => rw [e] at hp'; simp at hp'
      | some q =>
        rw [e] at hp'
        simp only [Option.map_some, Option.some.injEq] at hp'
        subst hp'
        obtain ⟨a1, a2⟩ := xat j r q hr e
        refine ⟨by simp only [shP]; omega, ?_⟩
        rw [List.getElem?_map, a2, Option.map_some, shB, Yab (hdC_v r.hs)]
        rfl
    have hh := hK g2 g _ _ (shB H.length ⟨25, g0, [bks s.bs, rps s.rs]⟩) (shB H.length ⟨25, g1, [.own 2 2 g2 0 s.bs.length, .own 3 4 g 0 s.rs.length]⟩) (shB H.length ⟨25, g3, [.own 2 2 g2 0 s.bs.length, .own 3 4 g 0 s.rs.length]⟩) tt hcb xt
    have e1 : shB H.length ⟨45, g2, bkC s.bs⟩ = ⟨45, g2, bkC s.bs⟩ := by rw [shB, Yab (bkC_v s.bs)]
    have e2 : shB H.length ⟨39, g, (roC s.rs ps).flatten⟩ = ⟨39, g, (roC s.rs (ps.map (shP H.length))).flatten⟩ := by rw [shB, Ygm]
    simp only [List.map_cons, e1, e2, shD, shL]
    rw [Nat.add_comm 2 H.length, Nat.add_comm 4 H.length]
    exact hh
structure LayR (m : Nat) (H2 : Hp) (rs : List Rp) (qs : List (Nat × Nat)) : Prop where
  lq : qs.length = rs.length
  at_ : ∀ (j : Nat) (r : Rp) (p : Nat × Nat), rs[j]? = some r → qs[j]? = some p → m ≤ p.1 ∧ H2[p.1 - m]? = some (some ⟨43, p.2, hdC r.hs⟩)
theorem Yd1 (m : Nat) (H2 : Hp) (k : Nat) {l : List D} (h : ∀ d ∈ l, ∃ x, d = .v x) : l.map (zv m H2 k) = l := by
  conv => rhs; rw [← List.map_id l]
  refine List.map_congr_left fun d hd => ?_
  obtain ⟨x, rfl⟩ := h d hd
  exact zv_v m H2 k x
theorem zv_hold {m : Nat} {H2 : Hp} {b g k : Nat} {hs : List Hd} (hb : m ≤ b) (h : H2[b - m]? = some (some ⟨43, g, hdC hs⟩)) : zv m H2 (k + 1) (.own 4 b g 0 hs.length) = hds hs := by
  have hl := Y29 hs
  rw [zv]
  simp only [zz]
  rw [if_neg (by omega), h]
  simp only [true_and, Nat.zero_add, List.drop_zero]
  rw [if_pos (by omega), List.take_of_length_le (by omega), Yd1 m H2 k (hdC_v hs)]
theorem Ydi {m : Nat} {H2 : Hp} {k : Nat} : ∀ {rs : List Rp} {qs : List (Nat × Nat)}, LayR m H2 rs qs → (roC rs qs).flatten.map (zv m H2 (k + 1)) = rpC rs
  | [], qs, h => by
    have : qs = [] := by have := h.lq; simpa using this
    subst this
    rfl
  | r :: rs, [], h => by have := h.lq; simp at this
  | r :: rs, p :: qs, h => by
    have h0 := h.at_ 0 r p rfl rfl
    have ih := Ydi (k := k) (rs := rs) (qs := qs) ⟨by have := h.lq; simpa using this, fun j x y hx hy => h.at_ (j + 1) x y (by simpa using hx) (by simpa using hy)⟩
    unfold roC at ih ⊢
    rw [List.zipWith_cons_cons, List.flatten_cons, List.map_append, ih]
    simp only [ro1, List.map_cons, List.map_nil, zv_v, zv_hold h0.1 h0.2]
    rfl
theorem zv_ropes {m : Nat} {H2 : Hp} {b g k : Nat} {rs : List Rp} {qs : List (Nat × Nat)} (h : LayR m H2 rs qs) (hb : m ≤ b) (hh : H2[b - m]? = some (some ⟨39, g, (roC rs qs).flatten⟩)) : zv m H2 (k + 1 + 1) (.own 3 b g 0 rs.length) = rps rs := by
  have hl := Y7i h.lq
  rw [zv]
  simp only [zz]
  rw [if_neg (by omega), hh]
  simp only [true_and, Nat.zero_add, List.drop_zero]
  rw [if_pos (by omega), List.take_of_length_le (by omega), Ydi h]
theorem zv_blocks {m : Nat} {H2 : Hp} {b g k : Nat} {bs : List Bk} (hb : m ≤ b) (h : H2[b - m]? = some (some ⟨45, g, bkC bs⟩)) : zv m H2 (k + 1) (.own 2 b g 0 bs.length) = bks bs := by
  have hl := Y2w bs
  rw [zv]
  simp only [zz]
  rw [if_neg (by omega), h]
  simp only [true_and, Nat.zero_add, List.drop_zero]
  rw [if_pos (by omega), List.take_of_length_le (by omega), Yd1 m H2 k (bkC_v bs)]
theorem roC_hs {rs : List Rp} {qs : List (Nat × Nat)} : ∀ {i : Nat} {r : Rp} {p : Nat × Nat}, rs[i]? = some r → qs[i]? = some p → (roC rs qs).flatten[i * 3 + 1]? = some (.own 4 p.1 p.2 0 r.hs.length) := by
  induction rs generalizing qs with
  | nil => intro i r p h; simp at h
  | cons x rs ih =>
    intro i r p hr hp
    cases qs with
    | nil => simp at hp
    | cons q qs =>
      cases i with
      | zero =>
        simp only [List.getElem?_cons_zero, Option.some.injEq] at hr hp
        subst hr hp
        rfl
      | succ i =>
        have := ih (qs := qs) (i := i) (r := r) (p := p) (by simpa using hr) (by simpa using hp)
        unfold roC at this ⊢
        rw [List.zipWith_cons_cons, List.flatten_cons]
        have e : (i + 1) * 3 + 1 = (i * 3 + 1) + (ro1 x q).length := by simp only [ro1, List.length_cons, List.length_nil]; omega
        rw [e, List.getElem?_append_right (by omega), Nat.add_sub_cancel]
        exact this
theorem take_one {l : List D} {i : Nat} {x : D} (h : l[i]? = some x) : (l.drop i).take 1 = [x] := by
  obtain ⟨h1, h2⟩ := List.getElem?_eq_some_iff.1 h
  rw [List.drop_eq_getElem_cons h1, h2]
  rfl
end Go.Proofs.YtpcakodemleoiaaGreat.T

namespace Go.Proofs.YtpcakodemleoiaaGreat.T
open Go Go.RowKit Lin
theorem gdza_ARH {P Q : Prop} (q : Q) (h : Q → P := by
 intro  hq
 (try with_reducible intro KR hKR)
 (repeat refine Y01 ?_); (repeat refine Y01 ?_); (refine Y0a tab_ok Y08 0 fun KR hKR => ?_); simp only [List.replicate_succ, List.replicate_zero, List.append_nil, List.nil_append, List.cons_append, List.length_cons, List.length_nil, Nat.reduceAdd]; (repeat' ((first | refine awD_n rfl fun KK hKK => ?_ | refine awD_g rfl rfl fun KK hKK => ?_ | refine Y1a rfl fun KK hKK => ?_ | refine Y19 fun KK hKK => ?_); simp (disch := omega) only [bb, bt, zDs, zD, Y00, simprocAttr, bne_self_eq_false, Int.reduceBNe, Int.reduceBEq, Bool.bne_false, Bool.bne_true, Bool.false_bne, Bool.true_bne]; refine hKK _ _ _ ?_; clear hKK KK)); (refine Y0n ?_); simp only [List.reverse_cons, List.reverse_nil, List.nil_append, List.cons_append]; (refine hKR _ _ (by first | rfl | kernel_rfl) ?_); (try clear hKR KR); (repeat (with_reducible first | refine q1 ?_ | refine q2 ?_ | refine q3 ?_ | refine q4 ?_ | refine q5 ?_ | refine q6 ?_ | (refine q7 ?_ ?_; (focus (with_unfolding_all rfl)))))
 (first | exact hq | (revert hKR; revert KR; exact hq))) : P := h  q
set_option maxHeartbeats 8000000 in
theorem Y5t (s : Sy) (hf : Fits s) (up : Bool) : PRet Tryz.prog 20 [syD s, bool up] (fe (Y0b s up)) := by
 refine PRet.intro 1 fun t => ACall.enter tab_ok Tryz.func20 rfl rfl Tryz.ntmps20 (by simp) ?_
 simp only [Y06]
 have hF := first_ref s hf up
 have hfv := @firstP_v s up
 unfold Y0b
 by_cases h0 : (Y0h s up).2.2 = 0
 rotate_left 1
 ·have e1 : ((Y0h s up).2.2 != 0) = true := by simpa using h0
  rw [if_neg h0]
  generalize Y0h s up = X at *
  ((refine ggb1 e1 hF ?_))
  ((repeat refine Y01 ?_); (refine wta ?_); simp (disch := omega) only [retQ, resD, oneD, rsv, rs, rsL, Y02, List.map_map, bb, bt, zDs, zD, Y00, simprocAttr, Tryz.results20])
 obtain ⟨vt, el, hr, hv, hx0, hall⟩ := hfv h0
 have ok := Y1b hv
 have hr6 := ok.r6
 obtain ⟨i, r, hi, hrr, _⟩ := Y80 hx0
 have ehr : hauR s = r := by unfold hauR; rw [hi, Int.toNat_natCast, List.getD_eq_getElem?_getD, hrr]; rfl
 rw [ehr] at hr el
 have hA := Yci r up hr
 have hH := Ycr s (by omega)
 rw [hi] at hH
 have hir := (List.getElem?_eq_some_iff.1 hrr).1
 have hdr := Y1l s.rs
 have hra := Y1s s.rs i r hrr
 obtain ⟨n2, n10⟩ := Y1y hr
 have hll := Y33 r up (r.hs.length - 1)
 rw [← el] at hA hll
 rw [if_pos h0]
 generalize Y0h s up = X at *
 obtain ⟨f, l, e⟩ := X
 simp only at *
 subst h0
 obtain ⟨x, hx⟩ : ∃ y, l[l.length - 1]? = some y := ⟨_, List.getElem?_eq_getElem (by omega)⟩
 have hrx := Y0p l (l.length - 1) x hx
 have hd := Y2q l
 have hs : (l.length : Int) - 1 = ((l.length - 1 : Nat) : Int) := by omega
 have hlt : l.length - 1 < l.length := by omega
 rw [List.getD_eq_getElem?_getD, hx, Option.getD_some]
 have vx := hall x (List.mem_of_getElem? hx)
 have hM := Y5h f x vt vx
 have hMn := @Yam f x
 rw [Y41 vt vx]
 generalize mulR f x = M at *
 ((refine gga1 hF ?_))
 ((repeat refine Y01 ?_); (refine gdzb2 (F := _∧_∧_) ⟨hir, hdr, hra⟩ hH hA ?_))
 ((refine gga0 ?_))
 ((repeat refine Y01 ?_); (refine gdob1 (F := _∧_∧_∧_) ⟨hd, hs, hlt, hrx⟩ hM ?_))
 by_cases h1 : M.2 = 0
 ·have e1 : (M.2 != 0) = false := by simpa using h1
  obtain ⟨⟨m1, m2⟩, me⟩ := M
  simp only at h1
  subst h1
  ((refine gga0 ?_))
  ((repeat refine Y01 ?_); (refine wta ?_); simp (disch := omega) only [retQ, resD, oneD, rsv, rs, rsL, Y02, List.map_map, bb, bt, zDs, zD, Y00, simprocAttr, Tryz.results20])
 ·have e1 : (M.2 != 0) = true := by simpa using h1
  rw [fr00 (hMn h1)]
  ((refine ggb0 e1 ?_))
  ((repeat refine Y01 ?_); (refine wta ?_); simp (disch := omega) only [retQ, resD, oneD, rsv, rs, rsL, Y02, List.map_map, bb, bt, zDs, zD, Y00, simprocAttr, Tryz.results20])
set_option maxHeartbeats 4000000 in
theorem hold14_ref (s : Sy) (hf : Fits s) : PRet Tryz.prog 32 [syD s] (.tup [frD (holdP s).1, frD (holdP s).2.1, int (holdP s).2.2]) := by
 refine PRet.intro 1 fun t => ACall.enter tab_ok Tryz.func32 rfl rfl Tryz.ntmps32 (by simp) ?_
 simp only [Y06]
 have hR := Y5t s hf true
 have hL := Y5t s hf false
 have v1 := @Y44 s true
 have v2 := @Y44 s false
 unfold holdP
 generalize Y0b s true = A at *
 generalize Y0b s false = B at *
 by_cases h1 : A.2 = 0
 rotate_left 1
 ·have e1 : (A.2 != 0) = true := by simpa using h1
  rw [if_neg h1]
  ((refine ggb1 e1 hR ?_))
  ((repeat refine Y01 ?_); (refine wta ?_); simp (disch := omega) only [retQ, resD, oneD, rsv, rs, rsL, Y02, List.map_map, bb, bt, zDs, zD, Y00, simprocAttr, Tryz.results32])
 have e1 : (A.2 != 0) = false := by simpa using h1
 rw [if_pos h1]
 by_cases h2 : B.2 = 0
 rotate_left 1
 ·have e2 : (B.2 != 0) = true := by simpa using h2
  rw [if_neg h2]
  ((refine ggb2 (F := _∧_) ⟨e1, e2⟩ hR hL ?_))
  ((repeat refine Y01 ?_); (refine wta ?_); simp (disch := omega) only [retQ, resD, oneD, rsv, rs, rsL, Y02, List.map_map, bb, bt, zDs, zD, Y00, simprocAttr, Tryz.results32])
 have e2 : (B.2 != 0) = false := by simpa using h2
 rw [if_pos h2]
 have hC := Yfa A.1 B.1 (v1 h1) (v2 h2)
 generalize cmpV A.1 B.1 = c at *
 by_cases h3 : c < 0
 ·rw [if_pos h3]
  ((refine ggb3 (F := _∧_∧_) ⟨e1, e2, h3⟩ hR hL hC ?_))
  ((repeat refine Y01 ?_); (refine wta ?_); simp (disch := omega) only [retQ, resD, oneD, rsv, rs, rsL, Y02, List.map_map, bb, bt, zDs, zD, Y00, simprocAttr, Tryz.results32])
 ·rw [if_neg h3]
  ((refine ggb3 (F := _∧_∧_) ⟨e1, e2, h3⟩ hR hL hC ?_))
  ((repeat refine Y01 ?_); (refine gdza_ARH ?_))
  ((repeat refine Y01 ?_); (refine wta ?_); simp (disch := omega) only [retQ, resD, oneD, rsv, rs, rsL, Y02, List.map_map, bb, bt, zDs, zD, Y00, simprocAttr, Tryz.results32])
end Go.Proofs.YtpcakodemleoiaaGreat.T

namespace Go.Proofs.YtpcakodemleoiaaGreat.T
open Go Go.RowKit Lin
theorem Ybk : ∀ (rs : List Rp) (qs : List (Nat × Nat)), roC (rs.map Y3f) qs = roC rs qs
 | [], _ => rfl
 | _ :: _, [] => by simp [roC]
 | r :: rs, p :: qs => by
  have ih := Ybk rs qs
  unfold roC at ih ⊢
  rw [List.map_cons, List.zipWith_cons_cons, List.zipWith_cons_cons, ih]
  simp only [ro1, Y3f, List.length_map]
def idH (hs : List Hd) (i k j : Nat) : List Hd := if j < i then hs.map Y6p else if j = i then clH hs k else hs
structure IdR (s : Sy) (qs : List (Nat × Nat)) (i k : Nat) (R : List Blk) : Prop where
 lr : R.length = 2 * s.rs.length
 at_ : ∀ (j : Nat) (r : Rp) (p : Nat × Nat), s.rs[j]? = some r → qs[j]? = some p → p.1 = 2 * j + 9 ∧ R[2 * j + 1]? = some ⟨43, p.2, hdC (idH r.hs i k j)⟩
set_option maxRecDepth 100000 in
set_option maxHeartbeats 16000000 in
theorem ideal_ref (s : Sy) (ok : OkS s) : PRet Tryz.prog 25 [syD s] (syD (Y3q s)) := by
 refine PRet.intro 4 fun t => ACall.enter tab_ok Tryz.func25 rfl rfl Tryz.ntmps25 (by simp) ?_
 simp only [Y06]
 have o1 := refOf 1
 have hr6 := ok.r6
 ((refine wqa ?_))
 refine AW.reserve 1 ?_
 simp only [List.replicate_succ, List.replicate_zero, List.cons_append, List.nil_append]
 ((repeat refine Y01 ?_); (refine Y05 tab_ok fun KR hKR => ?_))
 ((refine wra ?_))
 ((try with_reducible intro KR hKR); (first | refine Y0v fun KK hKK => ?_ | refine Y0c rfl fun KK hKK => ?_); simp (disch := omega) only [bb, bt, zDs, zD, Y00, simprocAttr, goC, Y0u, argsD, and_self])
 refine copyH ok rfl fun g2 gr qs R0 B0 B1 B3 t1 hcb ht1 => ?_
 simp only [List.length_cons, List.length_nil, List.cons_append, List.nil_append, Nat.zero_add, Nat.reduceAdd]
 (simp (disch := omega) only [bb, bt, zDs, zD, Y00, simprocAttr, Y1e]; refine hKK _ ?_; clear hKK KK)
 refine Yem 2 rfl rfl (by decide) fun KK hKK => ?_
 (simp (disch := omega) only [bb, bt, zDs, zD, Y00, simprocAttr])
 refine hKK _ ?_; clear hKK KK
 ((refine wra ?_))
 ((refine wea ?_); (try clear hKR KR))
 ((refine gga0 ?_))
 have hlq := hcb.lq
 have hrc := Y7i hlq
 have hR0 : IdR s qs 0 0 R0 := ⟨hcb.lr, fun j r p hr hp => by
  obtain ⟨a1, a2⟩ := hcb.at_ j r p hr hp
  refine ⟨by simp only [List.length_cons, List.length_nil] at a1; omega, ?_⟩
  rw [a2]
  unfold idH
  rw [if_neg (by omega)]
  split
  ·rw [Yb1]
  ·rfl⟩
 have hcells : ∀ (i : Nat) (r : Rp) (p : Nat × Nat), s.rs[i]? = some r → qs[i]? = some p → (roC s.rs qs).flatten[i * 3 + 1]? = some (.own 4 p.1 p.2 0 r.hs.length) := fun i r p h1 h2 => roC_hs h1 h2
 generalize hRC : (roC s.rs qs).flatten = RC at *
 have hrd : RC.length / 3 = s.rs.length := by omega
 ((repeat refine Y01 ?_))
 refine Y0j (fun x : List Blk × Nat => ⟨[(2, .ptr 1 (t + 1 + 1) 0), (3, .ptr 2 (t1 + 1) 0)], none :: some ⟨25, t + 1 + 1, [.sl 2 [] true, .sl 3 [] true]⟩ :: some ⟨25, t1 + 1, [.own 2 5 g2 0 s.bs.length, .own 3 7 gr 0 s.rs.length]⟩ :: none :: none :: some ⟨45, g2, bkC s.bs⟩ :: none :: some ⟨39, gr, RC⟩ :: x.1.map some, x.2⟩) (fun x => IdR s qs s.rs.length 0 x.1) ?_ ?_
 ·refine Y04 ?_
  refine Y07 (fun x : Nat × List Blk × Nat => ⟨[(2, .ptr 1 (t + 1 + 1) 0), (3, .ptr 2 (t1 + 1) 0), (4, int x.1)], none :: some ⟨25, t + 1 + 1, [.sl 2 [] true, .sl 3 [] true]⟩ :: some ⟨25, t1 + 1, [.own 2 5 g2 0 s.bs.length, .own 3 7 gr 0 s.rs.length]⟩ :: none :: none :: some ⟨45, g2, bkC s.bs⟩ :: none :: some ⟨39, gr, RC⟩ :: x.2.1.map some, x.2.2⟩) (fun x => s.rs.length - x.1) (fun x => x.1 ≤ s.rs.length ∧ IdR s qs x.1 0 x.2.1) (0, R0, t1 + 1) ⟨Nat.zero_le _, hR0⟩ (by (simp (disch := omega) only [StLe, tmLe, Y03, hpLe, bl, bb, bt, zDs, zD, Y00, simprocAttr])) ?_
  rintro ⟨i, R1, tt⟩ ⟨hi, hR1⟩
  simp only at hi hR1
  by_cases hlt : i < s.rs.length
  ·obtain ⟨r, hr⟩ : ∃ y, s.rs[i]? = some y := ⟨_, List.getElem?_eq_getElem hlt⟩
   obtain ⟨p, hp⟩ : ∃ y, qs[i]? = some y := ⟨_, List.getElem?_eq_getElem (by omega)⟩
   have hc1 := hcells i r p hr hp
   have hc2 := take_one hc1
   obtain ⟨p1, p2⟩ := p
   simp only at hc1 hc2
   have ho2 := (ok.holds r (List.mem_of_getElem? hr)).2.1
   ((refine ggb0 (F := _∧_∧_) ⟨@Int.ofNat_lt, hlt, hrd⟩ ?_))
   ((repeat refine Y01 ?_))
   refine Y04 ?_
   ((refine gga0 ?_))
   refine Y04 ?_
   refine Y07 (fun x : Nat × List Blk × Nat => ⟨[(2, .ptr 1 (t + 1 + 1) 0), (3, .ptr 2 (t1 + 1) 0), (4, int i), (5, int x.1)], none :: some ⟨25, t + 1 + 1, [.sl 2 [] true, .sl 3 [] true]⟩ :: some ⟨25, t1 + 1, [.own 2 5 g2 0 s.bs.length, .own 3 7 gr 0 s.rs.length]⟩ :: none :: none :: some ⟨45, g2, bkC s.bs⟩ :: none :: some ⟨39, gr, RC⟩ :: x.2.1.map some, x.2.2⟩) (fun x => r.hs.length - x.1) (fun x => x.1 ≤ r.hs.length ∧ IdR s qs i x.1 x.2.1) (0, R1, tt) ⟨Nat.zero_le _, hR1⟩ (by (simp (disch := omega) only [StLe, tmLe, Y03, hpLe, bl, bb, bt, zDs, zD, Y00, simprocAttr])) ?_
   rintro ⟨k, R, t2⟩ ⟨hk, hR⟩
   simp only at hk hR
   obtain ⟨p9, pR⟩ := hR.at_ i r (p1, p2) hr hp
   have eid : idH r.hs i k i = clH r.hs k := by unfold idH; rw [if_neg (by omega), if_pos rfl]
   rw [eid] at pR
   simp only at p9 pR
   have hget : ∀ X0 X1 X2 X3 X4 X5 X6 X7 : Option Blk, (X0 :: X1 :: X2 :: X3 :: X4 :: X5 :: X6 :: X7 :: R.map some)[p1]? = some (some ⟨43, p2, hdC (clH r.hs k)⟩) := fun X0 X1 X2 X3 X4 X5 X6 X7 => by
    rw [p9, show 2 * i + 9 = (2 * i + 1) + 1 + 1 + 1 + 1 + 1 + 1 + 1 + 1 by omega]
    simp only [List.getElem?_cons_succ, List.getElem?_map, pR, Option.map_some]
   by_cases hlk : k < r.hs.length
   ·obtain ⟨h, hh⟩ : ∃ y, r.hs[k]? = some y := ⟨_, List.getElem?_eq_getElem hlk⟩
    have hlR := hR.lr
    have hl4 := Y29 (clH r.hs k)
    rw [Yb2 _ _ hk] at hl4
    have hs4 := Ygy (Yh5 hh) 1 1
    have hn4 : hdC ((clH r.hs k).set k ⟨h.b, h.p, 1, 1⟩) = hdC (clH r.hs (k + 1)) := by rw [← Yg9 hh]; rfl
    rw [hn4] at hs4
    have hle4 : k * 4 + 4 ≤ r.hs.length * 4 := by omega
    have hset : ∀ (X0 X1 X2 X3 X4 X5 X6 X7 : Option Blk) (Y : Blk), (X0 :: X1 :: X2 :: X3 :: X4 :: X5 :: X6 :: X7 :: R.map some).set p1 (some Y) = X0 :: X1 :: X2 :: X3 :: X4 :: X5 :: X6 :: X7 :: (R.set (2 * i + 1) Y).map some := fun X0 X1 X2 X3 X4 X5 X6 X7 Y => by
     rw [p9, show 2 * i + 9 = (2 * i + 1) + 1 + 1 + 1 + 1 + 1 + 1 + 1 + 1 by omega]
     simp only [List.set_cons_succ, List.map_set]
    have hne : (p1 = R.length + 1 + 1 + 1 + 1 + 1 + 1 + 1 + 1) = False := by simp only [eq_iff_iff, iff_false]; omega
    have hnx : IdR s qs i (k + 1) (R.set (2 * i + 1) ⟨43, p2, hdC (clH r.hs (k + 1))⟩) := by
     refine ⟨by rw [List.length_set]; exact hlR, fun j x q hx hq => ?_⟩
     obtain ⟨a1, a2⟩ := hR.at_ j x q hx hq
     refine ⟨a1, ?_⟩
     by_cases e : j = i
     ·subst e
      rw [hr, Option.some.injEq] at hx
      rw [hp, Option.some.injEq] at hq
      subst hx hq
      rw [List.getElem?_set_self (by omega)]
      unfold idH
      rw [if_neg (by omega), if_pos rfl]
     ·rw [List.getElem?_set_ne (by omega), a2]
      unfold idH
      rw [if_neg e, if_neg e]
    ((refine ggb0 (F := _∧_∧_∧_∧_∧_∧_) ⟨@Int.ofNat_lt, hlk, hlt, hrd, hc1, hc2, hget⟩ ?_))
    ((repeat refine Y01 ?_))
    refine Y04 ?_
    ((repeat refine Y01 ?_); (refine Y0a tab_ok Y08 0 fun KR hKR => ?_); simp only [List.replicate_succ, List.replicate_zero, List.append_nil, List.nil_append, List.cons_append, List.length_cons, List.length_nil, Nat.reduceAdd])
    ((refine wdb (F := _∧_∧_∧_∧_∧_∧_∧_∧_∧_∧_) ⟨hlk, hlt, hrd, hc1, hc2, hget, hset, hne, hl4, hs4, hle4⟩ ?_))
    ((first | refine Y19 fun KK hKK => ?_ | refine Y1a rfl fun KK hKK => ?_); simp (disch := omega) only [bb, bt, zDs, zD, Y00, simprocAttr, goCDS, Y0e, argsZ, argsD, ufa, uf]; refine PGive.ret (o1) ?_; simp (disch := omega) only [bb, bt, zDs, zD, Y00, simprocAttr, Y0x]; refine hKK _ _ _ ?_; clear hKK KK)
    ((refine wdb (F := _∧_∧_∧_∧_∧_∧_∧_∧_∧_∧_) ⟨hlk, hlt, hrd, hc1, hc2, hget, hset, hne, hl4, hs4, hle4⟩ ?_))
    ((refine Y0n ?_); simp only [List.reverse_cons, List.reverse_nil, List.nil_append, List.cons_append]; (refine hKR _ _ (by exact Y3o (clamp 0) (by kernel_rfl)) ?_); (try clear hKR KR); (repeat (with_reducible first | refine q1 ?_ | refine q2 ?_ | refine q3 ?_ | refine q4 ?_ | refine q5 ?_ | refine q6 ?_ | (refine q7 ?_ ?_; (focus (with_unfolding_all rfl))))))
    ((refine gga0 ?_))
    refine ⟨(k + 1, R.set (2 * i + 1) ⟨43, p2, hdC (clH r.hs (k + 1))⟩, t2 + 1), ⟨hlk, hnx⟩, by show r.hs.length - (k + 1) < r.hs.length - k; omega, ?_⟩
    (simp (disch := omega) only [StLe, tmLe, Y03, hpLe, bl, bb, bt, zDs, zD, Y00, simprocAttr])
   ·have hke : k = r.hs.length := by omega
    subst hke
    ((refine wqb (F := _∧_∧_∧_∧_∧_) ⟨@Int.lt_irrefl, hlt, hrd, hc1, hc2, hget⟩ ?_))
    ((refine wia ?_))
    ((refine wxa ?_))
    have hnx : IdR s qs (i + 1) 0 R := ⟨hR.lr, fun j x q hx hq => by
     obtain ⟨a1, a2⟩ := hR.at_ j x q hx hq
     refine ⟨a1, ?_⟩
     rw [a2]
     unfold idH
     by_cases e1 : j < i
     ·rw [if_pos e1, if_pos (by omega)]
     ·rw [if_neg e1]
      by_cases e2 : j = i
      ·subst e2
       rw [hr, Option.some.injEq] at hx
       subst hx
       rw [if_pos rfl, if_pos (by omega), Yga]
      ·rw [if_neg e2, if_neg (by omega)]
       split
       ·rw [Yb1]
       ·rfl⟩
    ((refine gga0 ?_))
    refine ⟨(i + 1, R, t2), ⟨hlt, hnx⟩, by show s.rs.length - (i + 1) < s.rs.length - i; omega, ?_⟩
    (simp (disch := omega) only [StLe, tmLe, Y03, hpLe, bl, bb, bt, zDs, zD, Y00, simprocAttr])
  ·have hie : i = s.rs.length := by omega
   subst hie
   ((refine wqb (F := _∧_) ⟨@Int.lt_irrefl, hrd⟩ ?_))
   ((refine wia ?_))
   ((refine wxa ?_))
   exact ⟨(R1, tt), hR1, by (simp (disch := omega) only [StLe, tmLe, Y03, hpLe, bl, bb, bt, zDs, zD, Y00, simprocAttr])⟩
 rintro ⟨R, tt⟩ hR
 simp only at hR
 have hlay : LayR 3 (none :: none :: some ⟨45, g2, bkC s.bs⟩ :: none :: some ⟨39, gr, RC⟩ :: R.map some) (s.rs.map Y3f) qs := ⟨by rw [List.length_map]; exact hlq, fun j x q hx hq => by
  rw [List.getElem?_map] at hx
  cases e : s.rs[j]? with
  | none => rw [e] at hx; simp at hx
  | some y =>
   rw [e] at hx
   simp only [Option.map_some, Option.some.injEq] at hx
   subst hx
   obtain ⟨a1, a2⟩ := hR.at_ j y q e hq
   refine ⟨by omega, ?_⟩
   rw [a1, show 2 * j + 9 - 3 = (2 * j + 1) + 1 + 1 + 1 + 1 + 1 by omega]
   simp only [List.getElem?_cons_succ, List.getElem?_map, a2, Option.map_some]
   unfold idH
   rw [if_pos (List.getElem?_eq_some_iff.1 e).1]
   rfl⟩
 have z1 := zv_blocks (k := 2) (m := 3) (H2 := none :: none :: some ⟨45, g2, bkC s.bs⟩ :: none :: some ⟨39, gr, RC⟩ :: R.map some) (b := 5) (g := g2) (bs := s.bs) (by decide) rfl
 have z2 := zv_ropes (k := 1) (b := 7) (g := gr) hlay (by decide) (by rw [Ybk, hRC]; rfl)
 rw [List.length_map] at z2
 refine AW.tail 3 [none, some ⟨25, t + 1 + 1, [.sl 2 [] true, .sl 3 [] true]⟩, some ⟨25, t1 + 1, [.own 2 5 g2 0 s.bs.length, .own 3 7 gr 0 s.rs.length]⟩] (none :: none :: some ⟨45, g2, bkC s.bs⟩ :: none :: some ⟨39, gr, RC⟩ :: R.map some) rfl ?_
 simp only [zT, zH, List.map_cons, List.map_nil, Option.map_some, Option.map_none, List.length_nil, List.length_cons, Nat.zero_add, Nat.reduceAdd, z1, z2]
 have p1 : ∀ H, zv 3 H 3 (.ptr 1 (t + 1 + 1) 0) = .ptr 1 (t + 1 + 1) 0 := fun H => by simp [zv, zz]
 have p2 : ∀ H, zv 3 H 3 (.ptr 2 (t1 + 1) 0) = .ptr 2 (t1 + 1) 0 := fun H => by simp [zv, zz]
 have p3 : ∀ H sz, zv 3 H 3 (.sl sz [] true) = .sl sz [] true := fun H sz => by simp [zv, zz, zzL]
 simp only [p1, p2, p3]
 ((refine gga0 ?_))
 ((repeat refine Y01 ?_); (refine wta ?_); simp (disch := omega) only [retQ, resD, oneD, bb, bt, zDs, zD, Y00, simprocAttr, Tryz.results25])
 exact Y2m _ _ (by simp only [tidyD, tidyL, tidy_bk, tidy_rp, Bool.not_false, Bool.and_self])
end Go.Proofs.YtpcakodemleoiaaGreat.T

namespace Go.Proofs.YtpcakodemleoiaaGreat.T
open Go Go.RowKit Lin
theorem gga8_ALZ {C1 C2 C3 C4 C5 C6 C7 C8 P Q : Prop} (c1 : C1) (c2 : C2) (c3 : C3) (c4 : C4) (c5 : C5) (c6 : C6) (c7 : C7) (c8 : C8) (q : Q) (h : C1 → C2 → C3 → C4 → C5 → C6 → C7 → C8 → Q → P := by
 intro cc1 cc2 cc3 cc4 cc5 cc6 cc7 cc8 hq
 (try with_reducible intro KR hKR)
 (repeat' (first | (with_reducible refine Y01 ?_) | (with_reducible refine Y05 tab_ok fun KR hKR => ?_) | ((first | with_reducible refine Y1q ?_ | with_reducible refine Y1r ?_ | ((with_reducible refine Y0g ?_); refine hKR _ ?_; (try clear hKR KR))); (repeat (with_reducible first | refine q1 ?_ | refine q2 ?_ | refine q3 ?_ | refine q4 ?_ | refine q5 ?_ | refine q6 ?_ | (refine q7 ?_ ?_; (focus (with_unfolding_all rfl)))))) | ((first | ((with_reducible refine Y14 ?_); (first | refine Y0r rfl fun KK hKK => ?_ | refine Y0s rfl rfl fun KK hKK => ?_ | refine Y0c rfl fun KK hKK => ?_ | refine Y0v fun KK hKK => ?_)) | with_reducible refine Y10 (tab := tab) fun KK hKK => ?_); simp (disch := omega) only [bb, bt, zDs, zD, Y00, simprocAttr, bne_self_eq_false, Int.reduceBNe, Int.reduceBEq, Bool.bne_false, Bool.bne_true, Bool.false_bne, Bool.true_bne, goC, Y0u, argsD, and_self]; (try ((first | (with_reducible refine ACall.of_pret (cc1) ?_ ?_; (focus (first | (simp only [um]; done) | rfl))) | (with_reducible refine ACall.of_pret (cc2) ?_ ?_; (focus (first | (simp only [um]; done) | rfl))) | (with_reducible refine ACall.of_pret (cc3) ?_ ?_; (focus (first | (simp only [um]; done) | rfl))) | (with_reducible refine ACall.of_pret (cc4) ?_ ?_; (focus (first | (simp only [um]; done) | rfl))) | (with_reducible refine ACall.of_pret (cc5) ?_ ?_; (focus (first | (simp only [um]; done) | rfl))) | (with_reducible refine ACall.of_pret (cc6) ?_ ?_; (focus (first | (simp only [um]; done) | rfl))) | (with_reducible refine ACall.of_pret (cc7) ?_ ?_; (focus (first | (simp only [um]; done) | rfl))) | (with_reducible refine ACall.of_pret (cc8) ?_ ?_; (focus (first | (simp only [um]; done) | rfl)))); simp only [Y1e, St.put, putTM, ↓reduceIte, Nat.reduceEqDiff])); refine hKK _ ?_; clear hKK KK; (first | with_reducible refine Y14 ?_ | with_reducible refine i1 ?_ | with_reducible refine i0 ?_))))
 (first | exact hq | (revert hKR; revert KR; exact hq))) : P := h c1 c2 c3 c4 c5 c6 c7 c8 q
theorem Y84 {F C1 C2 C3 C4 C5 C6 C7 C8 C9 C10 P Q : Prop} (f : F) (c1 : C1) (c2 : C2) (c3 : C3) (c4 : C4) (c5 : C5) (c6 : C6) (c7 : C7) (c8 : C8) (c9 : C9) (c10 : C10) (q : Q) (h : F → C1 → C2 → C3 → C4 → C5 → C6 → C7 → C8 → C9 → C10 → Q → P := by
 intro ff cc1 cc2 cc3 cc4 cc5 cc6 cc7 cc8 cc9 cc10 hq
 (try with_reducible intro KR hKR)
 (repeat' (first | (with_reducible refine Y01 ?_) | (with_reducible refine Y05 tab_ok fun KR hKR => ?_) | ((first | with_reducible refine Y1q ?_ | with_reducible refine Y1r ?_ | ((with_reducible refine Y0g ?_); refine hKR _ ?_; (try clear hKR KR))); (repeat (with_reducible first | refine q1 ?_ | refine q2 ?_ | refine q3 ?_ | refine q4 ?_ | refine q5 ?_ | refine q6 ?_ | (refine q7 ?_ ?_; (focus (with_unfolding_all rfl)))))) | ((first | ((with_reducible refine Y14 ?_); (first | refine Y0r rfl fun KK hKK => ?_ | refine Y0s rfl rfl fun KK hKK => ?_ | refine Y0c rfl fun KK hKK => ?_ | refine Y0v fun KK hKK => ?_)) | with_reducible refine Y10 (tab := tab) fun KK hKK => ?_); simp (disch := omega) only [bb, bt, zDs, zD, Y00, simprocAttr, ff, bne_self_eq_false, Int.reduceBNe, Int.reduceBEq, Bool.bne_false, Bool.bne_true, Bool.false_bne, Bool.true_bne, goC, Y0u, argsD, and_self]; (try ((first | (with_reducible refine ACall.of_pret (cc1) ?_ ?_; (focus (first | (simp only [um]; done) | rfl))) | (with_reducible refine ACall.of_pret (cc2) ?_ ?_; (focus (first | (simp only [um]; done) | rfl))) | (with_reducible refine ACall.of_pret (cc3) ?_ ?_; (focus (first | (simp only [um]; done) | rfl))) | (with_reducible refine ACall.of_pret (cc4) ?_ ?_; (focus (first | (simp only [um]; done) | rfl))) | (with_reducible refine ACall.of_pret (cc5) ?_ ?_; (focus (first | (simp only [um]; done) | rfl))) | (with_reducible refine ACall.of_pret (cc6) ?_ ?_; (focus (first | (simp only [um]; done) | rfl))) | (with_reducible refine ACall.of_pret (cc7) ?_ ?_; (focus (first | (simp only [um]; done) | rfl))) | (with_reducible refine ACall.of_pret (cc8) ?_ ?_; (focus (first | (simp only [um]; done) | rfl))) | (with_reducible refine ACall.of_pret (cc9) ?_ ?_; (focus (first | (simp only [um]; done) | rfl))) | (with_reducible refine ACall.of_pret (cc10) ?_ ?_; (focus (first | (simp only [um]; done) | rfl)))); simp only [Y1e, St.put, putTM, ↓reduceIte, Nat.reduceEqDiff])); refine hKK _ ?_; clear hKK KK; (first | with_reducible refine Y14 ?_ | with_reducible refine i1 ?_ | with_reducible refine i0 ?_))))
 (first | exact hq | (revert hKR; revert KR; exact hq))) : P := h f c1 c2 c3 c4 c5 c6 c7 c8 c9 c10 q
theorem ggb8_ALZ {F C1 C2 C3 C4 C5 C6 C7 C8 P Q : Prop} (f : F) (c1 : C1) (c2 : C2) (c3 : C3) (c4 : C4) (c5 : C5) (c6 : C6) (c7 : C7) (c8 : C8) (q : Q) (h : F → C1 → C2 → C3 → C4 → C5 → C6 → C7 → C8 → Q → P := by
 intro ff cc1 cc2 cc3 cc4 cc5 cc6 cc7 cc8 hq
 (try with_reducible intro KR hKR)
 (repeat' (first | (with_reducible refine Y01 ?_) | (with_reducible refine Y05 tab_ok fun KR hKR => ?_) | ((first | with_reducible refine Y1q ?_ | with_reducible refine Y1r ?_ | ((with_reducible refine Y0g ?_); refine hKR _ ?_; (try clear hKR KR))); (repeat (with_reducible first | refine q1 ?_ | refine q2 ?_ | refine q3 ?_ | refine q4 ?_ | refine q5 ?_ | refine q6 ?_ | (refine q7 ?_ ?_; (focus (with_unfolding_all rfl)))))) | ((first | ((with_reducible refine Y14 ?_); (first | refine Y0r rfl fun KK hKK => ?_ | refine Y0s rfl rfl fun KK hKK => ?_ | refine Y0c rfl fun KK hKK => ?_ | refine Y0v fun KK hKK => ?_)) | with_reducible refine Y10 (tab := tab) fun KK hKK => ?_); simp (disch := omega) only [bb, bt, zDs, zD, Y00, simprocAttr, ff, bne_self_eq_false, Int.reduceBNe, Int.reduceBEq, Bool.bne_false, Bool.bne_true, Bool.false_bne, Bool.true_bne, goC, Y0u, argsD, and_self]; (try ((first | (with_reducible refine ACall.of_pret (cc1) ?_ ?_; (focus (first | (simp only [um]; done) | rfl))) | (with_reducible refine ACall.of_pret (cc2) ?_ ?_; (focus (first | (simp only [um]; done) | rfl))) | (with_reducible refine ACall.of_pret (cc3) ?_ ?_; (focus (first | (simp only [um]; done) | rfl))) | (with_reducible refine ACall.of_pret (cc4) ?_ ?_; (focus (first | (simp only [um]; done) | rfl))) | (with_reducible refine ACall.of_pret (cc5) ?_ ?_; (focus (first | (simp only [um]; done) | rfl))) | (with_reducible refine ACall.of_pret (cc6) ?_ ?_; (focus (first | (simp only [um]; done) | rfl))) | (with_reducible refine ACall.of_pret (cc7) ?_ ?_; (focus (first | (simp only [um]; done) | rfl))) | (with_reducible refine ACall.of_pret (cc8) ?_ ?_; (focus (first | (simp only [um]; done) | rfl)))); simp only [Y1e, St.put, putTM, ↓reduceIte, Nat.reduceEqDiff])); refine hKK _ ?_; clear hKK KK; (first | with_reducible refine Y14 ?_ | with_reducible refine i1 ?_ | with_reducible refine i0 ?_))))
 (first | exact hq | (revert hKR; revert KR; exact hq))) : P := h f c1 c2 c3 c4 c5 c6 c7 c8 q
set_option maxHeartbeats 8000000 in
theorem eff_ref (s : Sy) (hf : Fits s) : PRet Tryz.prog 33 [syD s] (fe (effP s)) := by
 refine PRet.intro 1 fun t => ACall.enter tab_ok Tryz.func33 rfl rfl Tryz.ntmps33 (by simp) ?_
 simp only [Y06]
 have hR := Y5t s hf true
 have hC := Y5t (Y3q s) (Y9w hf) true
 have v1 := @Y44 s true
 have v2 := @Y44 (Y3q s) true
 unfold effP
 by_cases h0 : (Y0b s true).2 = 0
 rotate_left 1
 ·have e1 : ((Y0b s true).2 != 0) = true := by simpa using h0
  rw [if_neg h0]
  generalize Y0b s true = X at *
  ((refine ggb1 e1 hR ?_))
  ((repeat refine Y01 ?_); (refine wta ?_); simp (disch := omega) only [retQ, resD, oneD, rsv, rs, rsL, Y02, List.map_map, bb, bt, zDs, zD, Y00, simprocAttr, Tryz.results33])
 rw [if_pos h0]
 have e1 : ((Y0b s true).2 != 0) = false := by simpa using h0
 have hv := Y87 h0
 have hI := ideal_ref s (Y1b hv)
 have v1 := v1 h0
 generalize Y0b s true = X at *
 generalize Y0b (Y3q s) true = Y at *
 generalize Y3q s = c at *
 by_cases h1 : Y.2 = 0
 rotate_left 1
 ·have e2 : (Y.2 != 0) = true := by simpa using h1
  rw [if_neg h1]
  ((refine ggb3 (F := _∧_) ⟨e1, e2⟩ hR hI hC ?_))
  ((repeat refine Y01 ?_); (refine wta ?_); simp (disch := omega) only [retQ, resD, oneD, rsv, rs, rsL, Y02, List.map_map, bb, bt, zDs, zD, Y00, simprocAttr, Tryz.results33])
 have e2 : (Y.2 != 0) = false := by simpa using h1
 rw [if_pos h1]
 have v2 := v2 h1
 by_cases h2 : X.1.1 = 0
 ·have ed : divP Y.1 X.1 = ((0, 0), 16) := by rw [Y8i v2 v1, Y74 h2]
  have e3 : (X.1.1 == 0) = true := by simpa using h2
  rw [ed]
  ((refine ggb3 (F := _∧_∧_) ⟨e1, e2, e3⟩ hR hI hC ?_))
  ((repeat refine Y01 ?_); (refine wta ?_); simp (disch := omega) only [retQ, resD, oneD, rsv, rs, rsL, Y02, List.map_map, bb, bt, zDs, zD, Y00, simprocAttr, Tryz.results33])
 have e3 : (X.1.1 == 0) = false := by simpa using h2
 have hD := Ygr (a := Y.1) (b := X.1) v2 v1
 have hn := @divP_nil Y.1 X.1
 generalize divP Y.1 X.1 = Q at *
 by_cases h3 : Q.2 = 0
 ·have e4 : (Q.2 != 0) = false := by simpa using h3
  obtain ⟨⟨m1, m2⟩, me⟩ := Q
  simp only at h3
  subst h3
  ((refine ggb4 (F := _∧_∧_) ⟨e1, e2, e3⟩ hR hI hC hD ?_))
  ((repeat refine Y01 ?_); (refine wta ?_); simp (disch := omega) only [retQ, resD, oneD, rsv, rs, rsL, Y02, List.map_map, bb, bt, zDs, zD, Y00, simprocAttr, Tryz.results33])
 ·have e4 : (Q.2 != 0) = true := by simpa using h3
  rw [fr00 (hn h3)]
  ((refine ggb4 (F := _∧_∧_∧_) ⟨e1, e2, e3, e4⟩ hR hI hC hD ?_))
  ((repeat refine Y01 ?_); (refine wta ?_); simp (disch := omega) only [retQ, resD, oneD, rsv, rs, rsL, Y02, List.map_map, bb, bt, zDs, zD, Y00, simprocAttr, Tryz.results33])
set_option maxHeartbeats 8000000 in
theorem law_holds14 (s : Sy) (f : Int × Int) : PRet Tryz.prog 6 [syD s, frD f] (bool true) := by
 refine PRet.intro 1 fun t => ACall.enter tab_ok Tryz.func6 rfl rfl Tryz.ntmps6 (by simp) ?_
 simp only [Y06]
 have hS := small_ref s
 cases hs : Y2z s
 ·rw [hs] at hS
  ((refine gga2 Y6d hS ?_))
  ((repeat refine Y01 ?_); (refine wta ?_); simp (disch := omega) only [retQ, resD, oneD, rsv, rs, rsL, Y02, List.map_map, bb, bt, zDs, zD, Y00, simprocAttr, Tryz.results6])
 rw [hs] at hS
 have hf := Y8y hs
 have a1 := Ygx s hf
 have a2 := holds14 s hf f
 have a3 := eff14 s hf
 have b1 := hold14_ref s hf
 have b3 := eff_ref s hf
 have hV := Ybm f.1 f.2
 have hok := @Ydz s
 have hHP : Ydy s f = if vfrac f.1 f.2 = true then (if (holdP s).2.2 = 0 then (decide (0 ≤ cmpV f (holdP s).1) && decide (cmpV f (holdP s).2.1 ≤ 0), 0) else (false, (holdP s).2.2)) else (false, 1) := rfl
 generalize holdP s = X at *
 generalize effP s = E at *
 obtain ⟨lo, hi, e⟩ := X
 simp only at *
 cases hv : vfrac f.1 f.2
 ·rw [hv] at hV
  rw [hv, if_neg (by decide)] at hHP
  rw [hHP] at a2
  ((refine gga8_ALZ Y6d hS a1 a2 a3 b1 b3 hV ?_))
  ((repeat refine Y01 ?_); (refine wta ?_); simp (disch := omega) only [retQ, resD, oneD, rsv, rs, rsL, Y02, List.map_map, bb, bt, zDs, zD, Y00, simprocAttr, Tryz.results6])
 rw [hv] at hV
 rw [hv, if_pos rfl] at hHP
 by_cases h1 : e = 0
 rotate_left 1
 ·have e1 : (e != 0) = true := by simpa using h1
  rw [if_neg h1] at hHP
  rw [hHP] at a2
  ((refine ggb8_ALZ e1 Y6d hS a1 a2 a3 b1 b3 hV ?_))
  ((repeat refine Y01 ?_); (refine wta ?_); simp (disch := omega) only [retQ, resD, oneD, rsv, rs, rsL, Y02, List.map_map, bb, bt, zDs, zD, Y00, simprocAttr, Tryz.results6])
 obtain ⟨_, _, _, _, _, vl, vh⟩ := hok h1
 subst h1
 rw [if_pos rfl] at hHP
 have hC1 := Yfa lo f vl hv
 have hC2 := Yfa f hi hv vh
 have k1 : decide (0 ≤ cmpV f lo) = decide (cmpV lo f ≤ 0) := decide_eq_decide.2 (by rw [Yh4, cmp_le])
 rw [k1] at hHP
 rw [hHP] at a2
 generalize cmpV lo f = c1 at *
 generalize cmpV f hi = c2 at *
 by_cases h2 : c1 ≤ 0
 ·rw [decide_eq_true h2, Bool.true_and] at a2
  by_cases h3 : c2 ≤ 0
  ·rw [decide_eq_true h3] at a2
   ((refine Y84 (F := _∧_) ⟨h2, h3⟩ Y6d hS a1 a2 a3 b1 b3 hV hC1 hC2 ?_))
   ((repeat refine Y01 ?_); (refine wta ?_); simp (disch := omega) only [retQ, resD, oneD, rsv, rs, rsL, Y02, List.map_map, bb, bt, zDs, zD, Y00, simprocAttr, Tryz.results6])
  ·rw [decide_eq_false h3] at a2
   ((refine Y84 (F := _∧_) ⟨h2, h3⟩ Y6d hS a1 a2 a3 b1 b3 hV hC1 hC2 ?_))
   ((repeat refine Y01 ?_); (refine wta ?_); simp (disch := omega) only [retQ, resD, oneD, rsv, rs, rsL, Y02, List.map_map, bb, bt, zDs, zD, Y00, simprocAttr, Tryz.results6])
 ·rw [decide_eq_false h2, Bool.false_and] at a2
  ((refine Y84 h2 Y6d hS a1 a2 a3 b1 b3 hV hC1 hC2 ?_))
  ((repeat refine Y01 ?_); (refine wta ?_); simp (disch := omega) only [retQ, resD, oneD, rsv, rs, rsL, Y02, List.map_map, bb, bt, zDs, zD, Y00, simprocAttr, Tryz.results6])
end Go.Proofs.YtpcakodemleoiaaGreat.T

section
namespace Go.Proofs.YtpcakodemleoiaaGreat.T
open Go Go.RowKit Go.ChangeShapes
theorem slice_one {P : Program} {w : World} {r : Reach} {base : Nat} {t e : TypeId} {v : Value} (ht : P.underlying t = some (.slice e)) (h : Value.okWide P w r base t v) : v.cells = #[v] := by
 simp only [Value.okWide, ht, Cell.okWide] at h
 cases v <;> simp_all [Value.cells, Cell.ok]
theorem Yfp : ∀ {rows : List (List D)}, (∀ r ∈ rows, (∃ n, r = [int n] ∧ (Lit.int .i64 n).wf = true) ∧ r.length = 1) → ∃ l : List Int, rows.flatten = l.map int ∧ ∀ x ∈ l, (Lit.int .i64 x).wf = true
 | [], _ => ⟨[], rfl, by simp⟩
 | r :: rows, h => by
  obtain ⟨⟨n, rfl, hw⟩, _⟩ := h r (by simp)
  obtain ⟨l, e, hl⟩ := Yfp fun x hx => h x (List.mem_cons_of_mem _ hx)
  exact ⟨n :: l, by simp [e], fun x hx => by
   rcases List.mem_cons.1 hx with rfl | hx
   ·exact hw
   ·exact hl x hx⟩
theorem Yf5 : ∀ {rows : List (List D)}, (∀ r ∈ rows, (∃ l : List Int, r = [ints l] ∧ ∀ x ∈ l, (Lit.int .i64 x).wf = true) ∧ r.length = 1) → ∃ m : List (List Int), rows.flatten = m.map ints ∧ ∀ l ∈ m, ∀ x ∈ l, (Lit.int .i64 x).wf = true
 | [], _ => ⟨[], rfl, by simp⟩
 | r :: rows, h => by
  obtain ⟨⟨n, rfl, hw⟩, _⟩ := h r (by simp)
  obtain ⟨l, e, hl⟩ := Yf5 fun x hx => h x (List.mem_cons_of_mem _ hx)
  exact ⟨n :: l, by simp [e], fun x hx => by
   rcases List.mem_cons.1 hx with rfl | hx
   ·exact hw
   ·exact hl x hx⟩
theorem u8_of {x : Int} (h : (Lit.int .u8 x).wf = true) : 0 ≤ x ∧ x < 256 := by
 rw [Lit.wf, Bool.and_eq_true] at h
 have h1 := of_decide_eq_true h.1
 have h2 := of_decide_eq_true h.2
 have e1 : IntKind.u8.min = 0 := rfl
 have e2 : IntKind.u8.max = 255 := rfl
 rw [e1] at h1
 rw [e2] at h2
 exact ⟨h1, by omega⟩
theorem Yeh : Tryz.prog.cellsOf 3 = 1 := by kernel_rfl
theorem cellsInts : Tryz.prog.cellsOf 126 = 1 := by kernel_rfl
section
variable {H : Type} {enc : TypeId × Value → H} {W : World}
theorem opn_ints : Opn enc Tryz.prog W 126 fun ds => ∃ l : List Int, ds = [ints l] ∧ ∀ x ∈ l, (Lit.int .i64 x).wf = true :=
 (Opn.slice Tryz.underlying126 Yeh (by decide) (Opn.int Tryz.underlying3)).mono fun ds ⟨rows, e, h, _⟩ => by
  obtain ⟨l, e2, hl⟩ := Yfp h
  exact ⟨l, by rw [e, e2], hl⟩
theorem opn_mat : Opn enc Tryz.prog W 123 fun ds => ∃ m : List (List Int), ds = [mat m] ∧ ∀ l ∈ m, ∀ x ∈ l, (Lit.int .i64 x).wf = true :=
 (Opn.slice Tryz.underlying123 cellsInts (by decide) opn_ints).mono fun ds ⟨rows, e, h, _⟩ => by
  obtain ⟨l, e2, hl⟩ := Yf5 h
  exact ⟨l, by rw [e, e2], hl⟩
end
end Go.Proofs.YtpcakodemleoiaaGreat.T
end
section
namespace Go.Proofs.YtpcakodemleoiaaGreat.T
open Go Go.RowKit Go.ChangeShapes
theorem Ye6 : ∀ {rows : List (List D)}, (∀ r ∈ rows, (∃ a b, r = [int a, int b]) ∧ r.length = 2) → ∃ l : List (Int × Int), rows.flatten = frC l
 | [], _ => ⟨[], rfl⟩
 | r :: rows, h => by
  obtain ⟨⟨a, b, rfl⟩, _⟩ := h r (by simp)
  obtain ⟨l, e⟩ := Ye6 fun x hx => h x (List.mem_cons_of_mem _ hx)
  exact ⟨(a, b) :: l, by simp [e, frC]⟩
theorem cellsFrac : Tryz.prog.cellsOf 33 = 2 := by kernel_rfl
section
variable {H : Type} {enc : TypeId × Value → H} {W : World}
theorem Yak : Opn enc Tryz.prog W 33 fun ds => ∃ a b, ds = [int a, int b] :=
 (Opn.struct Tryz.underlying33 ⟨_, _, rfl, rfl, Opn.int Tryz.underlying3, _, _, rfl, by simp only [Yeh], Opn.int Tryz.underlying3, rfl⟩ (by kernel_rfl)).mono fun ds h => by
  obtain ⟨d1, r1, rfl, ⟨a, rfl, _⟩, d2, r2, rfl, ⟨b, rfl, _⟩, rfl⟩ := h
  exact ⟨a, b, rfl⟩
theorem opn_fracs : Opn enc Tryz.prog W 28 fun ds => ∃ l : List (Int × Int), ds = [frs l] ∧ True :=
 (Opn.slice Tryz.underlying28 cellsFrac (by decide) Yak).mono fun ds ⟨rows, e, h, _⟩ => by
  obtain ⟨l, e2⟩ := Ye6 h
  exact ⟨l, by rw [e, e2], trivial⟩
end
end Go.Proofs.YtpcakodemleoiaaGreat.T
end
section
namespace Go.Proofs.YtpcakodemleoiaaGreat.T
open Go Go.RowKit Go.ChangeShapes
theorem Y71 {α : Type} {f : α → List D} {n : Nat} : ∀ {rows : List (List D)}, (∀ r ∈ rows, (∃ x, r = f x) ∧ r.length = n) → ∃ l : List α, rows.flatten = l.flatMap f
 | [], _ => ⟨[], rfl⟩
 | r :: rows, h => by
  obtain ⟨⟨x, rfl⟩, _⟩ := h r (by simp)
  obtain ⟨l, e⟩ := Y71 fun x hx => h x (List.mem_cons_of_mem _ hx)
  exact ⟨x :: l, by simp [e]⟩
theorem cellsHold : Tryz.prog.cellsOf 43 = 4 := by kernel_rfl
theorem cellsRope : Tryz.prog.cellsOf 39 = 3 := by kernel_rfl
theorem cellsBlock : Tryz.prog.cellsOf 45 = 2 := by kernel_rfl
theorem agg_of {P : Program} {w : World} {r : Reach} {base : Nat} {t : TypeId} {fs : Array Field} {v : Value} (ht : P.underlying t = some (.struct fs)) (h : Value.okWide P w r base t v) : ∃ cs, v = .agg cs := by
 simp only [Value.okWide, ht] at h
 obtain ⟨cs, e, _⟩ := h
 exact ⟨cs, e⟩
section
variable {H : Type} {enc : TypeId × Value → H} {W : World}
theorem opn_hold : Opn enc Tryz.prog W 43 fun ds => ∃ h : Hd, ds = hd1 h :=
 (Opn.struct Tryz.underlying43 ⟨_, _, rfl, (by kernel_rfl), Opn.str Tryz.underlying9, _, _, rfl, (by kernel_rfl), Opn.int Tryz.underlying3, _, _, rfl, (by kernel_rfl), Yak, rfl⟩ (by kernel_rfl)).mono fun ds h => by
  obtain ⟨d1, r1, rfl, ⟨s, rfl, _⟩, d2, r2, rfl, ⟨p, rfl, _⟩, d3, r3, rfl, ⟨a, b, rfl⟩, rfl⟩ := h
  exact ⟨⟨s, p, a, b⟩, rfl⟩
theorem opn_holds : Opn enc Tryz.prog W 37 fun ds => ∃ l : List Hd, ds = [hds l] :=
 (Opn.slice Tryz.underlying37 cellsHold (by decide) opn_hold).mono fun ds ⟨rows, e, h, _⟩ => by
  obtain ⟨l, e2⟩ := Y71 h
  exact ⟨l, by rw [e, e2]; rfl⟩
theorem Ydn : Opn enc Tryz.prog W 39 fun ds => ∃ r : Rp, ds = rp1 r :=
 (Opn.struct Tryz.underlying39 ⟨_, _, rfl, (by kernel_rfl), Opn.str Tryz.underlying9, _, _, rfl, (by kernel_rfl), opn_holds, _, _, rfl, (by kernel_rfl), Opn.bool Tryz.underlying4, rfl⟩ (by kernel_rfl)).mono fun ds h => by
  obtain ⟨d1, r1, rfl, ⟨s, rfl, _⟩, d2, r2, rfl, ⟨l, rfl⟩, d3, r3, rfl, ⟨b, rfl⟩, rfl⟩ := h
  exact ⟨⟨s, l, b⟩, rfl⟩
theorem opn_ropes : Opn enc Tryz.prog W 23 fun ds => ∃ l : List Rp, ds = [rps l] :=
 (Opn.slice Tryz.underlying23 cellsRope (by decide) Ydn).mono fun ds ⟨rows, e, h, _⟩ => by
  obtain ⟨l, e2⟩ := Y71 h
  exact ⟨l, by rw [e, e2]; rfl⟩
theorem opn_block : Opn enc Tryz.prog W 45 fun ds => ∃ b : Bk, ds = bk1 b :=
 (Opn.struct Tryz.underlying45 ⟨_, _, rfl, (by kernel_rfl), Opn.str Tryz.underlying9, _, _, rfl, (by kernel_rfl), Opn.int Tryz.underlying3, rfl⟩ (by kernel_rfl)).mono fun ds h => by
  obtain ⟨d1, r1, rfl, ⟨s, rfl, _⟩, d2, r2, rfl, ⟨p, rfl, _⟩, rfl⟩ := h
  exact ⟨⟨s, p⟩, rfl⟩
theorem opn_blocks : Opn enc Tryz.prog W 22 fun ds => ∃ l : List Bk, ds = [bks l] :=
 (Opn.slice Tryz.underlying22 cellsBlock (by decide) opn_block).mono fun ds ⟨rows, e, h, _⟩ => by
  obtain ⟨l, e2⟩ := Y71 h
  exact ⟨l, by rw [e, e2]; rfl⟩
theorem opn_sys : Opn enc Tryz.prog W 25 fun ds => ∃ s : Sy, ds = [bks s.bs, rps s.rs] :=
 (Opn.struct Tryz.underlying25 ⟨_, _, rfl, (by kernel_rfl), opn_blocks, _, _, rfl, (by kernel_rfl), opn_ropes, rfl⟩ (by kernel_rfl)).mono fun ds h => by
  obtain ⟨d1, r1, rfl, ⟨a, rfl⟩, d2, r2, rfl, ⟨b, rfl⟩, rfl⟩ := h
  exact ⟨⟨a, b⟩, rfl⟩
theorem arg_sys {v : Value} {base : Nat} {r : Reach} {d : DataW H} {p : List MemPlace} (h : DataW.Trod enc Tryz.prog W 0 (fun _ => true) true 25 v d p) (hv : Value.okWide Tryz.prog W r base 25 v) : ∃ s : Sy, Rep (memOf W) [] (syD s) v := by
 obtain ⟨cs, rfl⟩ : ∃ cs, v = .agg cs := by
  simp only [Value.okWide, Tryz.underlying25] at hv
  obtain ⟨cs, e, _⟩ := hv
  exact ⟨cs, e⟩
 obtain ⟨ds, hr, s, rfl⟩ := Ycw opn_sys h
 exact ⟨s, hr⟩
theorem cellsSys : Tryz.prog.cellsOf 25 = 2 := by kernel_rfl
theorem arg_rope {v : Value} {base : Nat} {r : Reach} {d : DataW H} {p : List MemPlace} (h : DataW.Trod enc Tryz.prog W 0 (fun _ => true) true 39 v d p) (hv : Value.okWide Tryz.prog W r base 39 v) : ∃ s : Rp, Rep (memOf W) [] (.agg (rp1 s)) v := by
 obtain ⟨cs, rfl⟩ : ∃ cs, v = .agg cs := by
  simp only [Value.okWide, Tryz.underlying39] at hv
  obtain ⟨cs, e, _⟩ := hv
  exact ⟨cs, e⟩
 obtain ⟨ds, hr, s, rfl⟩ := Ycw Ydn h
 exact ⟨s, hr⟩
theorem arg_frac {v : Value} {base : Nat} {r : Reach} {d : DataW H} {p : List MemPlace} (h : DataW.Trod enc Tryz.prog W 0 (fun _ => true) true 33 v d p) (hv : Value.okWide Tryz.prog W r base 33 v) : ∃ s : Int × Int, Rep (memOf W) [] (frD s) v := by
 obtain ⟨cs, rfl⟩ : ∃ cs, v = .agg cs := by
  simp only [Value.okWide, Tryz.underlying33] at hv
  obtain ⟨cs, e, _⟩ := hv
  exact ⟨cs, e⟩
 obtain ⟨ds, hr, a, b, rfl⟩ := Ycw Yak h
 exact ⟨(a, b), hr⟩
abbrev u16s (l : List Int) : D := .sl 1 (l.map fun n => .v (.int .u16 n)) false
theorem u16_of {x : Int} (h : (Lit.int .u16 x).wf = true) : 0 ≤ x ∧ x < 65536 := by
 rw [Lit.wf, Bool.and_eq_true] at h
 have h1 := of_decide_eq_true h.1
 have h2 := of_decide_eq_true h.2
 have e1 : IntKind.u16.min = 0 := rfl
 have e2 : IntKind.u16.max = 65535 := rfl
 rw [e1] at h1
 rw [e2] at h2
 exact ⟨h1, by omega⟩
theorem u16_rows : ∀ {rows : List (List D)}, (∀ r ∈ rows, (∃ n, r = [.v (.int .u16 n)] ∧ (Lit.int .u16 n).wf = true) ∧ r.length = 1) → ∃ l : List Int, rows.flatten = l.map (fun n => .v (.int .u16 n)) ∧ ∀ x ∈ l, (Lit.int .u16 x).wf = true
 | [], _ => ⟨[], rfl, by simp⟩
 | r :: rows, h => by
  obtain ⟨⟨n, rfl, hw⟩, _⟩ := h r (by simp)
  obtain ⟨l, e, hl⟩ := u16_rows fun x hx => h x (List.mem_cons_of_mem _ hx)
  exact ⟨n :: l, by simp [e], fun x hx => by
   rcases List.mem_cons.1 hx with rfl | hx
   ·exact hw
   ·exact hl x hx⟩
theorem u64_of {x : Int} (h : (Lit.int .u64 x).wf = true) : 0 ≤ x ∧ x ≤ 18446744073709551615 := by
 rw [Lit.wf, Bool.and_eq_true] at h
 have h1 := of_decide_eq_true h.1
 have h2 := of_decide_eq_true h.2
 have e1 : IntKind.u64.min = 0 := rfl
 have e2 : IntKind.u64.max = 18446744073709551615 := rfl
 rw [e1] at h1
 rw [e2] at h2
 exact ⟨h1, h2⟩
end
end Go.Proofs.YtpcakodemleoiaaGreat.T
end

/- The signs of the head's word (printed by mkmake.py): the Y5r need not take a long string apart. -/
namespace Go.Proofs.YtpcakodemleoiaaGreat.T
open Go Go.RowKit Go.Joins
def wordSigns0 : List Char := [104,97,114,110,101,115,115,32,51,53,55,101,48,99,48,48,56,97,57,102,97,57,51,52,50,51,56,53,102,97,97,48,101,49,52,101,55,55,97,98,99,99,101,98,100,99,54,56,101,101,53,48,49,100,97,49,54,50,51,101,50,50,98,54].map Char.ofNat
def wordSigns1 : List Char := [55,54,48,100,102,100,99,97,32,99,117,116,32,97,116,32,108,111,102,116,98,108,111,99,107,47,108,111,102,116,98,108,111,99,107,108,97,119,49,52,46,76,111,115,115,101,115,67,97,114,114,121,32,108,111,102,116,98,108,111,99,107,47,108].map Char.ofNat
def wordSigns2 : List Char := [111,102,116,98,108,111,99,107,108,97,119,49,52,46,76,111,115,115,101,115,70,111,114,99,101,115,32,108,111,102,116,98,108,111,99,107,47,108,111,102,116,98,108,111,99,107,108,97,119,49,52,46,76,111,115,115,101,115,79,114,100,101,114,32].map Char.ofNat
def wordSigns3 : List Char := [108,111,102,116,98,108,111,99,107,47,108,111,102,116,98,108,111,99,107,108,97,119,49,52,46,76,111,115,115,101,115,72,111,108,100,115,32,108,111,102,116,98,108,111,99,107,47,108,111,102,116,98,108,111,99,107,108,97,119,49,52,46,76,111].map Char.ofNat
def wordSigns4 : List Char := [115,115,101,115,69,120,97,99,116,32,108,111,102,116,98,108,111,99,107,47,108,111,102,116,98,108,111,99,107,108,97,119,49,52,46,76,111,115,115,101,115,78,111,110,101].map Char.ofNat
def Y38 : List Char := wordSigns0 ++ wordSigns1 ++ wordSigns2 ++ wordSigns3 ++ wordSigns4
theorem Yck : Tryz.prog.initOrder.toList = Y38 := by
  have h : Tryz.prog.initOrder = String.ofList Y38 := by kernel_rfl
  rw [h, String.toList_ofList]
theorem Yd2 : behindMainWord (wordsSigns Y38) = "cut".toList :: (behindMainWord (wordsSigns Y38)).tail := by kernel_rfl
theorem make_of (P : Program) (l : List Char) (h : P.initOrder.toList = l) (r : List (List Char)) (hr : behindMainWord (wordsSigns l) = "cut".toList :: r) : P.make = some .cut := by
  unfold Program.make
  rw [h, hr]
  rfl
theorem enter_of (P : Program) (l : List Char) (h : P.initOrder.toList = l) (r : List (List Char)) (hr : behindMainWord (wordsSigns l) = "cut".toList :: r) (h1 : P.laysLater = false) (h2 : P.bearsReflect = false) (h3 : P.doorFits [] = true) (hs : stripLifts liftWords ("cut".toList :: r) = ([], "cut".toList :: r)) : P.mayEnter = true := by
  unfold Program.mayEnter
  rw [h, hr]
  simp only [hs, h1, h2, h3]
  rfl
theorem word_make : Tryz.prog.make = some .cut := make_of _ Y38 Yck _ Yd2
theorem word_enter : Tryz.prog.mayEnter = true := enter_of _ Y38 Yck _ Yd2 (by kernel_rfl) (by kernel_rfl) (by kernel_rfl) (by kernel_rfl)
theorem word_lifts : Tryz.prog.liftsFinal = false := by
  unfold Program.liftsFinal Program.headLifts
  rw [Yck]
  kernel_rfl
theorem word_enterP : Tryz.pinned.checked.prog.mayEnter = true := word_enter
theorem word_liftsP : Tryz.pinned.checked.prog.liftsFinal = false := word_lifts
theorem word_makeP : Tryz.pinned.checked.prog.make = some .cut := word_make
end Go.Proofs.YtpcakodemleoiaaGreat.T

