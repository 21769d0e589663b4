import Derived.Test.YtpcakodemleoiaaGreatFFWALT
import Derived.Test.YtpcakodemleoiaaGreatFALMALR
import Derived.Test.YtpcakodemleoiaaGreatFALPMQX
import Derived.Test.YtpcakodemleoiaaGreatFLSJ
import Derived.Test.YtpcakodemleoiaaGreatFWOP
set_option linter.all false
namespace Go.Proofs.YtpcakodemleoiaaGreat.T
open Go Go.RowKit Lin
theorem hdC_loss {l : List Hd} {i : Nat} {h : Hd} (hx : l[i]? = some h) : ((hdC l).drop (i * 4 + 2)).take 2 = [int h.n, int h.d] := by
  have h2 := congrArg (fun l => (l.drop 2).take 2) (hdC_read l i h hx)
  simp only [List.drop_take, List.drop_drop] at h2
  simpa [List.take_take] using h2
theorem balR_inv {t : Int × Int} : ∀ (p w : List (Int × Int)) (ok : Bool), (balR t p w ok).2 = 0 → (balR t p w ok).1 = true → ok = true ∧ ∀ (k : Nat) (x y : Int × Int), p[k]? = some x → w[k]? = some y → (mulP x t).2 = 0 ∧ (mulP x t).1 = y
  | [], w, ok, _, h => by
    refine ⟨by cases w <;> exact h, fun k x y hx => by simp at hx⟩
  | _ :: _, [], ok, _, h => ⟨h, fun k x y _ hy => by simp at hy⟩
  | a :: p, b :: w, ok, h0, h1 => by
    simp only [balR] at h0 h1
    by_cases hm : (mulP a t).2 = 0
    · rw [if_pos hm] at h0 h1
      obtain ⟨k1, k2⟩ := balR_inv p w _ h0 h1
      rw [Bool.and_eq_true, decide_eq_true_eq] at k1
      refine ⟨k1.1, fun k x y hx hy => ?_⟩
      cases k with
      | zero =>
        simp only [List.getElem?_cons_zero, Option.some.injEq] at hx hy
        subst hx hy
        exact ⟨hm, k1.2⟩
      | succ k => exact k2 k x y (by simpa using hx) (by simpa using hy)
    · rw [if_neg hm] at h0
      exact absurd h0 hm
theorem balP_inv {w p : List (Int × Int)} (h : (balP w p).2 = 0) : ¬ nzI p < 0 ∧ (divP (w.getD (nzI p).toNat (0, 0)) (p.getD (nzI p).toNat (0, 0))).2 = 0 ∧ (balP w p).1 = (divP (w.getD (nzI p).toNat (0, 0)) (p.getD (nzI p).toNat (0, 0))).1 ∧ ¬ (balP w p).1.1 < 0 ∧ ∀ (k : Nat) (x y : Int × Int), p[k]? = some x → w[k]? = some y → (mulP x (balP w p).1).2 = 0 ∧ (mulP x (balP w p).1).1 = y := by
  unfold balP at h ⊢
  by_cases hn : nzI p < 0
  · rw [if_pos hn] at h
    simp only at h
    split at h <;> cases h
  rw [if_neg hn] at h ⊢
  generalize divP (w.getD (nzI p).toNat (0, 0)) (p.getD (nzI p).toNat (0, 0)) = Q at *
  by_cases hd : Q.2 = 0
  rotate_left 1
  · rw [if_neg hd] at h
    exact absurd h hd
  rw [if_pos hd] at h ⊢
  by_cases hb : (balR Q.1 p w true).2 = 0
  rotate_left 1
  · rw [if_neg hb] at h
    exact absurd h hb
  rw [if_pos hb] at h ⊢
  by_cases hc : (balR Q.1 p w true).1 = false
  · rw [if_pos hc] at h
    cases h
  rw [if_neg hc] at h ⊢
  by_cases hs : Q.1.1 < 0
  · rw [if_pos hs] at h
    cases h
  rw [if_neg hs]
  exact ⟨hn, hd, rfl, hs, (balR_inv p w true hb (by simpa using hc)).2⟩
theorem pairA_inv {load grip : List (Int × Int)} : ∀ (L : List (List (Int × Int))) (w p : List (Int × Int)), (pairA load grip L w p).2 = 0 → (pairA load grip L w p).1 = (w ++ L.map (fun x => (dotV x load (0, 1)).1), p ++ L.map fun x => (dotV x grip (0, 1)).1) ∧ ∀ x ∈ L, (dotV x load (0, 1)).2 = 0 ∧ (dotV x grip (0, 1)).2 = 0
  | [], w, p, _ => ⟨by simp [pairA], by simp⟩
  | v :: L, w, p, h => by
    simp only [pairA] at h ⊢
    by_cases h1 : (dotV v load (0, 1)).2 = 0
    rotate_left 1
    · rw [if_neg h1] at h
      exact absurd h h1
    rw [if_pos h1] at h ⊢
    by_cases h2 : (dotV v grip (0, 1)).2 = 0
    rotate_left 1
    · rw [if_neg h2] at h
      exact absurd h h2
    rw [if_pos h2] at h ⊢
    obtain ⟨k1, k2⟩ := pairA_inv L _ _ h
    refine ⟨by rw [k1]; simp, fun x hx => ?_⟩
    rcases List.mem_cons.1 hx with rfl | hx
    · exact ⟨h1, h2⟩
    · exact k2 x hx
theorem gripsA_inv {r : Rp} {up : Bool} : ∀ (bs : List Bk) (acc : List (Int × Int)), (gripsA r up bs acc).2 = 0 → (gripsA r up bs acc).1 = acc ++ bs.map (fun b => (gripP r up b.nm).1) ∧ ∀ b ∈ bs, (gripP r up b.nm).2 = 0
  | [], acc, _ => ⟨by simp [gripsA], by simp⟩
  | b :: l, acc, h => by
    simp only [gripsA] at h ⊢
    by_cases h1 : (gripP r up b.nm).2 = 0
    rotate_left 1
    · rw [if_neg h1] at h
      exact absurd h h1
    rw [if_pos h1] at h ⊢
    obtain ⟨k1, k2⟩ := gripsA_inv l _ h
    refine ⟨by rw [k1]; simp, fun x hx => ?_⟩
    rcases List.mem_cons.1 hx with rfl | hx
    · exact h1
    · exact k2 x hx
theorem givL_inv {s : Sy} (h : givL s = 0) : validS s = true ∧ ¬ hix s < 0 ∧ (s.rs.any fun r => !r.hl && lossR r) = false := by
  unfold givL at h
  split at h
  · rename_i h1
    split at h
    · cases h
    · rename_i h2
      split at h
      · cases h
      · rename_i h3
        exact ⟨h1, h2, by simpa using h3⟩
  · cases h
theorem first_inv {s : Sy} {up : Bool} (h : (firstP s up).2.2 = 0) : givL s = 0 ∧ rightR (hauR s) = true ∧ (gripsA (hauR s) up s.bs []).2 = 0 ∧ (prsP s up).2 = 0 ∧ (balP (prsP s up).1.1 (prsP s up).1.2).2 = 0 ∧ firstP s up = ((balP (prsP s up).1.1 (prsP s up).1.2).1, facL (hauR s) up ((hauR s).hs.length - 1), 0) := by
  have h' := h
  unfold firstP at h ⊢
  by_cases h1 : givL s = 0
  rotate_left 1
  · rw [if_neg h1] at h
    exact absurd h h1
  rw [if_pos h1] at h ⊢
  by_cases h2 : (alongP (hauR s) up).2 = 0
  rotate_left 1
  · rw [if_neg h2] at h
    exact absurd h h2
  rw [if_pos h2] at h ⊢
  have hr : rightR (hauR s) = true := by
    cases hr : rightR (hauR s)
    · unfold alongP at h2
      rw [if_neg (by simp [hr])] at h2
      cases h2
    · rfl
  by_cases h3 : (gripsA (hauR s) up s.bs []).2 = 0
  rotate_left 1
  · rw [if_neg h3] at h
    exact absurd h h3
  rw [if_pos h3] at h ⊢
  by_cases h4 : (prsP s up).2 = 0
  rotate_left 1
  · rw [if_neg h4] at h
    exact absurd h h4
  rw [if_pos h4] at h ⊢
  simp only at h
  refine ⟨h1, hr, h3, h4, h, ?_⟩
  unfold alongP
  rw [if_pos hr, h]
def gripW (P : Nat → Int) (n : Nat) (nm : ByteArray) : List Hd → Nat → Int
  | [], _ => 0
  | h :: l, i => (if h.b = nm then (if i = 0 then h.p * P 0 else if i + 1 = n then h.p * P (n - 2) else h.p.tdiv 2 * (P (i - 1) + P i)) else 0) + gripW P n nm l (i + 1)
theorem gripT_val {F : Nat → Int × Int} {P : Nat → Int} {Q : Int} {n i : Nat} {h : Hd} (hF : ∀ j, j + 1 < n → Val (F j) (P j) Q) (h2 : 2 ≤ n) (hi : i < n) (hp : -2 ≤ h.p ∧ h.p ≤ 2) (h0 : (gripT n F i h).2 = 0) : Val (gripT n F i h).1 (if i = 0 then h.p * P 0 else if i + 1 = n then h.p * P (n - 2) else h.p.tdiv 2 * (P (i - 1) + P i)) Q := by
  have v1 : Val (h.p, 1) h.p 1 := .one (by omega)
  unfold gripT at h0 ⊢
  by_cases e0 : i = 0
  · rw [if_pos e0] at h0 ⊢
    rw [if_pos e0]
    have := v1.mulP (hF 0 (by omega)) h0
    rwa [Int.one_mul] at this
  rw [if_neg e0] at h0 ⊢
  rw [if_neg e0]
  by_cases e1 : i + 1 = n
  · rw [if_pos e1] at h0 ⊢
    rw [if_pos e1]
    have := v1.mulP (hF (n - 2) (by omega)) h0
    rwa [Int.one_mul] at this
  rw [if_neg e1] at h0 ⊢
  rw [if_neg e1]
  have v2 : Val (h.p.tdiv 2, 1) (h.p.tdiv 2) 1 := .one (by
    have h1 : h.p = -2 ∨ h.p = -1 ∨ h.p = 0 ∨ h.p = 1 ∨ h.p = 2 := by omega
    rcases h1 with e | e | e | e | e <;> rw [e] <;> decide)
  by_cases ha : (addP (F (i - 1)) (F i)).2 = 0
  rotate_left 1
  · rw [if_neg ha] at h0
    exact absurd h0 ha
  rw [if_pos ha] at h0 ⊢
  have hq := (hF i (by omega)).n0
  have hs := ((hF (i - 1) (by omega)).addP (hF i (by omega)) ha).to (r := P (i - 1) + P i) (s := Q) hq (by grind)
  have := v2.mulP hs h0
  rwa [Int.one_mul] at this
theorem gripA_val {F : Nat → Int × Int} {P : Nat → Int} {Q : Int} {n : Nat} {nm : ByteArray} (hF : ∀ j, j + 1 < n → Val (F j) (P j) Q) (h2 : 2 ≤ n) : ∀ (hs : List Hd) (i : Nat) (c : Int × Int) (C : Int), (∀ h ∈ hs, -2 ≤ h.p ∧ h.p ≤ 2) → i + hs.length ≤ n → Val c C Q → (gripA n F nm hs i c).2 = 0 → Val (gripA n F nm hs i c).1 (C + gripW P n nm hs i) Q
  | [], i, c, C, _, _, hc, _ => by simp only [gripA, gripW, Int.add_zero]; exact hc
  | h :: l, i, c, C, hp, hi, hc, h0 => by
    simp only [List.length_cons] at hi
    simp only [gripA] at h0 ⊢
    simp only [gripW]
    by_cases hn : h.b = nm
    rotate_left 1
    · rw [if_neg hn] at h0 ⊢
      rw [if_neg hn, Int.zero_add]
      exact gripA_val hF h2 l (i + 1) c C (fun x hx => hp x (by simp [hx])) (by omega) hc h0
    rw [if_pos hn] at h0 ⊢
    rw [if_pos hn]
    by_cases ht : (gripT n F i h).2 = 0
    rotate_left 1
    · rw [if_neg ht] at h0
      exact absurd h0 ht
    rw [if_pos ht] at h0 ⊢
    have hv := gripT_val hF h2 (by omega) (hp h (by simp)) ht
    generalize (if i = 0 then h.p * P 0 else if i + 1 = n then h.p * P (n - 2) else h.p.tdiv 2 * (P (i - 1) + P i)) = G at *
    by_cases ha : (addP c (gripT n F i h).1).2 = 0
    rotate_left 1
    · rw [if_neg ha] at h0
      exact absurd h0 ha
    rw [if_pos ha] at h0 ⊢
    have hw := (hc.addP hv ha).to (r := C + G) (s := Q) hc.n0 (by grind)
    rw [← Int.add_assoc]
    exact gripA_val hF h2 l (i + 1) _ _ (fun x hx => hp x (by simp [hx])) (by omega) hw h0
theorem gripP_val {r : Rp} {up : Bool} {P : Nat → Int} {Q : Int} {nm : ByteArray} (hF : ∀ j, j + 1 < r.hs.length → Val (facK r.hs up j) (P j) Q) (h2 : 2 ≤ r.hs.length) (hp : ∀ h ∈ r.hs, -2 ≤ h.p ∧ h.p ≤ 2) (h0 : (gripP r up nm).2 = 0) : Val (gripP r up nm).1 (gripW P r.hs.length nm r.hs 0) Q := by
  have hq := (hF 0 (by omega)).n0
  have := gripA_val (nm := nm) hF h2 r.hs 0 (0, 1) 0 hp (by omega) ⟨vfrac_one (by omega), hq, by simp⟩ h0
  rwa [Int.zero_add] at this
end Go.Proofs.YtpcakodemleoiaaGreat.T

namespace Go.Proofs.YtpcakodemleoiaaGreat.T
open Go Go.RowKit Lin
end Go.Proofs.YtpcakodemleoiaaGreat.T

namespace Go.Proofs.YtpcakodemleoiaaGreat.T
open Go Go.RowKit Lin
theorem firstP_v {s : Sy} {up : Bool} (h : (firstP s up).2.2 = 0) : vfrac (firstP s up).1.1 (firstP s up).1.2 = true ∧ (firstP s up).2.1 = facL (hauR s) up ((hauR s).hs.length - 1) ∧ rightR (hauR s) = true ∧ validS s = true ∧ ¬ hix s < 0 ∧ ∀ x ∈ (firstP s up).2.1, vfrac x.1 x.2 = true := by
  obtain ⟨hg, hr, _, _, hb, e⟩ := first_inv h
  obtain ⟨_, hd, et, _, _⟩ := balP_inv hb
  obtain ⟨hv, hx, _⟩ := givL_inv hg
  obtain ⟨n2, n10⟩ := rightR_len hr
  rw [e]
  simp only
  refine ⟨?_, by first | rfl | trivial, hr, hv, hx, fun x hx => ?_⟩
  · rw [et]
    obtain ⟨a1, a2, _, _⟩ := divP_val hd
    exact (Val.divP (Val.self a1) (Val.self a2) hd).v
  · obtain ⟨i, hi, rfl⟩ := List.mem_map.1 hx
    have := List.mem_range.1 hi
    exact (facK_fb (hs := (hauR s).hs) (up := up) i (by omega) fun j x h1 h2 hx => okLoss_lossy (rightR_at hr hx)).v
def segA (t : Int × Int) : List (Int × Int) → List (Int × Int) → List (Int × Int) × Int
  | [], acc => (acc, 0)
  | f :: l, acc => if (mulP t f).2 = 0 then segA t l (acc ++ [(mulP t f).1]) else ([], (mulP t f).2)
def segP (s : Sy) (up : Bool) : List (Int × Int) × Int := if (firstP s up).2.2 = 0 then segA (firstP s up).1 (firstP s up).2.1 [] else ([], (firstP s up).2.2)
theorem segA_step {t f : Int × Int} {l : List (Int × Int)} {k : Nat} (h : l[k]? = some f) (acc : List (Int × Int)) : segA t (l.drop k) acc = if (mulP t f).2 = 0 then segA t (l.drop (k + 1)) (acc ++ [(mulP t f).1]) else ([], (mulP t f).2) := by
  rw [List.drop_eq_getElem_cons (List.getElem?_eq_some_iff.1 h).1, (List.getElem?_eq_some_iff.1 h).2]
  rfl
theorem segA_inv {t : Int × Int} : ∀ (l acc : List (Int × Int)), ((segA t l acc).2 = 0 → (segA t l acc).1 = acc ++ l.map (fun f => (mulP t f).1) ∧ ∀ f ∈ l, (mulP t f).2 = 0) ∧ ((segA t l acc).2 ≠ 0 → (segA t l acc).1 = [])
  | [], acc => ⟨fun _ => ⟨by simp [segA], by simp⟩, fun h => absurd rfl h⟩
  | f :: l, acc => by
    simp only [segA]
    by_cases h1 : (mulP t f).2 = 0
    · rw [if_pos h1]
      obtain ⟨a, b⟩ := segA_inv (t := t) l (acc ++ [(mulP t f).1])
      refine ⟨fun h => ?_, b⟩
      obtain ⟨a1, a2⟩ := a h
      refine ⟨by rw [a1]; simp, fun x hx => ?_⟩
      rcases List.mem_cons.1 hx with rfl | hx
      · exact h1
      · exact a2 x hx
    · rw [if_neg h1]
      exact ⟨fun h => absurd h h1, fun _ => rfl⟩
end Go.Proofs.YtpcakodemleoiaaGreat.T

namespace Go.Proofs.YtpcakodemleoiaaGreat.T
open Go Go.RowKit Lin
theorem segsP_len {s : Sy} {up : Bool} : (firstP s up).2.1.length ≤ 1000 := by
  unfold firstP
  split
  · split
    · split
      · split
        · simp only
          unfold alongP
          split
          · rename_i h
            simp only
            rw [facL_len]
            have := rightR_len h
            omega
          · simp
        · simp
      · simp
    · simp
  · simp
set_option maxHeartbeats 8000000 in
theorem segs14 (s : Sy) (hf : Fits s) (up : Bool) : PRet Tryz.prog 11 [syD s, bool up] (fse (segP s up)) := by
  refine PRet.intro 1 fun t => ACall.enter tab_ok Tryz.func11 rfl rfl Tryz.ntmps11 (by simp) ?_
  simp only [enterTM]
  have hF := first14 s hf up
  have hl := segsP_len (s := s) (up := up)
  unfold segP
  generalize firstP s up = X at *
  obtain ⟨f, l, e⟩ := X
  simp only at *
  by_cases h0 : e = 0
  rotate_left 1
  · have e1 : (e != 0) = true := by simpa using h0
    rw [if_neg h0]
    ((refine ggb1 e1 hF ?_))
    ((repeat refine AW_seq ?_); (refine wta ?_); simp (disch := omega) only [retQ, resD, oneD, rsv, rs, rsL, rsL_eq_map, List.map_map, bb, bt, zDs, zD, eqCells, simprocAttr, Tryz.results11])
    rfl
  subst h0
  rw [if_pos rfl]
  have hd := frC_div l
  have hz : frC [] = [] := rfl
  generalize hR : segA f l [] = R
  ((refine ggb1 hd hF ?_))
  refine AW.begin 9 2 33 rfl (by decide) ?_
  simp only [putTM, List.length_cons, List.length_nil, Nat.reduceEqDiff, ↓reduceIte, List.cons_append, List.nil_append]
  ((repeat refine AW_seq ?_))
  refine AW_mid (fun x : Nat × Nat => ⟨[(9, .own 2 2 x.1 0 l.length)], [none, none, some ⟨33, x.1, frC R.1⟩], x.2⟩) (fun _ => R.2 = 0 ∧ R.1.length = l.length) ?_ ?_
  · refine AW_block ?_
    refine AW_loop_w (fun x : List (Int × Int) × Nat × Nat × Nat => ⟨[(6, .ptr 1 (t + 1 + 1) 0), (9, .own 2 2 x.2.2.1 0 x.2.1), (24, frs l), (25, int l.length), (26, int x.2.1)], [none, some ⟨33, t + 1 + 1, [int f.1, int f.2]⟩, some ⟨33, x.2.2.1, frC x.1⟩], x.2.2.2⟩) (fun x => l.length - x.2.1) (fun x => x.2.1 ≤ l.length ∧ x.1.length = x.2.1 ∧ segA f (l.drop x.2.1) x.1 = R) ([], 0, t + 1 + 1 + 1, t + 1 + 1 + 1) ⟨Nat.zero_le _, rfl, hR⟩ (by (simp (disch := omega) only [StLe, tmLe, hpLe_refl, hpLe, bl, bb, bt, zDs, zD, eqCells, simprocAttr, hz])) ?_
    rintro ⟨acc, k, g, tt⟩ ⟨hk, hak, hs⟩
    simp only at hk hak hs
    by_cases hlt : k < l.length
    · obtain ⟨x, hx⟩ : ∃ y, l[k]? = some y := ⟨_, List.getElem?_eq_getElem hlt⟩
      have hrx := frC_read l k x hx
      have hM := rMul f x
      rw [segA_step hx] at hs
      generalize mulP f x = M at *
      have hal := frC_len acc
      rw [hak] at hal
      have hap : frC acc ++ [int M.1.1, int M.1.2] = frC (acc ++ [M.1]) := by simp [frC]
      ((refine ggb0 (F := _∧_) ⟨@Int.ofNat_lt, hlt⟩ ?_))
      ((repeat refine AW_seq ?_))
      refine AW_block ?_
      by_cases h1 : M.2 = 0
      rotate_left 1
      · have e1 : (M.2 != 0) = true := by simpa using h1
        rw [if_neg h1] at hs
        subst hs
        ((refine ggb1 (F := _∧_∧_∧_) ⟨hlt, hd, hrx, e1⟩ hM ?_))
        ((repeat refine AW_seq ?_); (refine wta ?_); simp (disch := omega) only [retQ, resD, oneD, rsv, rs, rsL, rsL_eq_map, List.map_map, bb, bt, zDs, zD, eqCells, simprocAttr, Tryz.results11])
        rfl
      have e1 : (M.2 != 0) = false := by simpa using h1
      rw [if_pos h1] at hs
      ((refine ggb1 (F := _∧_∧_∧_∧_∧_) ⟨hlt, hd, hrx, e1, hal, hap⟩ hM ?_))
      refine ⟨(acc ++ [M.1], k + 1, tt + 1 + 1 + 1, tt + 1 + 1 + 1), ⟨hlt, by simp [hak], hs⟩, by show l.length - (k + 1) < l.length - k; omega, ?_⟩
      (simp (disch := omega) only [StLe, tmLe, hpLe_refl, hpLe, bl, bb, bt, zDs, zD, eqCells, simprocAttr])
    · have hke : k = l.length := by omega
      subst hke
      have hde : segA f (l.drop l.length) acc = (acc, 0) := by rw [List.drop_eq_nil_of_le (Nat.le_refl _)]; rfl
      rw [hde] at hs
      subst hs
      ((refine wqb @Int.lt_irrefl ?_))
      ((refine wia ?_))
      ((refine wxa ?_))
      exact ⟨(g, tt), ⟨rfl, hak⟩, by (simp (disch := omega) only [StLe, tmLe, hpLe_refl, hpLe, bl, bb, bt, zDs, zD, eqCells, simprocAttr])⟩
  rintro ⟨g, tt⟩ ⟨hR0, hRl⟩
  obtain ⟨a, e⟩ := R
  simp only at hR0 hRl ⊢
  subst hR0
  have hal := frC_len a
  rw [hRl] at hal
  have hfin : List.take (l.length * 2) (frC a) = frC a := List.take_of_length_le (by omega)
  ((refine AW.freeze (2) (by first | rfl | (simp only [setH, List.getElem?_cons_zero, List.getElem?_cons_succ, hfin, hal, Nat.le_refl]; done)) ?_); simp (disch := omega) only [fzT, fz, fzL, fzL_ints, fzL_mat, fzH, fzB, eq_self, bb, bt, zDs, zD, eqCells, simprocAttr, hfin, hal, Nat.le_refl])
  ((refine gga0 ?_))
  ((repeat refine AW_seq ?_); (refine wta ?_); simp (disch := omega) only [retQ, resD, oneD, bb, bt, zDs, zD, eqCells, simprocAttr, Tryz.results11])
  exact rsv_tidy _ _ (by simp only [tidyD, tidyL, tidy_fr, Bool.not_false, Bool.and_self])
end Go.Proofs.YtpcakodemleoiaaGreat.T

namespace Go.Proofs.YtpcakodemleoiaaGreat.T
open Go Go.RowKit Lin
theorem null_ref {m : List (List Int)} (hv : validP m = true) : PRet Tryz.prog 117 [mat m] (frss (nullP m).1) := by
  have h := refNull m hv
  have hsm := valid_small hv
  have iv1 := elim_inv (ups_mover m (wid m)) hsm.lens (wid m) (Nat.le_refl _)
  have iv2 := elim_inv (mvR_mover m (wid m)) hsm.lens (wid m) (Nat.le_refl _)
  have e : (nullP m).1 = nulls (elimBy mvR m (wid m)) (wid m) (wid m) := by
    unfold nullP
    rw [if_pos hv]
    show nulls (elim m (wid m)) (wid m) (wid m) = _
    rw [elim_by, nulls_same iv1 iv2 (pivots_agree (ups_mover m (wid m)) (mvR_mover m (wid m)) hsm.lens (wid m) (Nat.le_refl _)) (wid m) (Nat.le_refl _)]
  rw [e]
  exact h
end Go.Proofs.YtpcakodemleoiaaGreat.T

namespace Go.Proofs.YtpcakodemleoiaaGreat.T
open Go Go.RowKit Lin
theorem gdoa2_ARD {C1 C2 P Q : Prop} (c1 : C1) (c2 : C2) (q : Q) (h : C1 → C2 → Q → P := by
  intro cc1 cc2 hq
  (try with_reducible intro KR hKR)
  (repeat refine AW_seq ?_); (repeat refine AW_seq ?_); (refine AW_drawn_k tab_ok follows_mixed 1 fun KR hKR => ?_); simp only [List.replicate_succ, List.replicate_zero, List.append_nil, List.nil_append, List.cons_append, List.length_cons, List.length_nil, Nat.reduceAdd]; (repeat' ((first | refine awD_n rfl fun KK hKK => ?_ | refine awD_g rfl rfl fun KK hKK => ?_ | refine awD_gc rfl fun KK hKK => ?_ | refine awD_nc fun KK hKK => ?_); simp (disch := omega) only [bb, bt, zDs, zD, eqCells, simprocAttr, bne_self_eq_false, Int.reduceBNe, Int.reduceBEq, Bool.bne_false, Bool.bne_true, Bool.false_bne, Bool.true_bne, goCDS, callDS_fn, argsZ, argsD, ufa, uf]; (try ((first | with_reducible refine PGive.ret (cc1) ?_ | with_reducible refine PGive.ret (cc2) ?_); simp (disch := omega) only [bb, bt, zDs, zD, eqCells, simprocAttr, afterDS, bne_self_eq_false, Int.reduceBNe, Int.reduceBEq, Bool.bne_false, Bool.bne_true, Bool.false_bne, Bool.true_bne])); refine hKK _ _ _ ?_; clear hKK KK)); (refine awD_nil ?_); simp only [List.reverse_cons, List.reverse_nil, List.nil_append, List.cons_append]; (refine hKR _ _ (by first | rfl | kernel_rfl) ?_); (try clear hKR KR); (repeat (with_reducible first | refine q1 ?_ | refine q2 ?_ | refine q3 ?_ | refine q4 ?_ | refine q5 ?_ | refine q6 ?_ | (refine q7 ?_ ?_; (focus (with_unfolding_all rfl)))))
  (first | exact hq | (revert hKR; revert KR; exact hq))) : P := h c1 c2 q
theorem addR_nil {a b : Int × Int} (h : (addR a b).2 ≠ 0) : (addR a b).1 = (0, 0) := by
  unfold addR at h ⊢
  split
  · rename_i h1
    rw [if_pos h1] at h
    exact madeP_nil h
  · rename_i h1
    rw [if_neg h1] at h
    split
    · rename_i h2
      rw [if_pos h2] at h
      exact madeP_nil h
    · rename_i h2
      rw [if_neg h2] at h
      exact madeP_nil h
theorem fr00 {x : (Int × Int) × Int} (h : x.1 = (0, 0)) : x = ((0, 0), x.2) := Prod.ext h rfl
set_option maxHeartbeats 8000000 in
theorem dot_ref (a b : List (Int × Int)) (hab : a.length ≤ b.length) (hl : b.length ≤ 1000) (va : ∀ x ∈ a, vfrac x.1 x.2 = true) (vb : ∀ x ∈ b, vfrac x.1 x.2 = true) : PRet Tryz.prog 93 [frs a, frs b] (fe (dotV a b (0, 1))) := by
  refine PRet.intro 1 fun t => ACall.enter tab_ok Tryz.func93 rfl rfl Tryz.ntmps93 (by simp) ?_
  simp only [enterTM]
  have o0 := refOf 0
  have hda := frC_div a
  have hdb := frC_div b
  generalize hR : dotV a b (0, 1) = R
  ((refine gga1 o0 ?_))
  ((repeat refine AW_seq ?_))
  refine AW_mid (fun x : Nat => ⟨[(4, .ptr 0 (t + 1) 0), (6, .ptr 1 (t + 1 + 1) 0)], [some ⟨33, t + 1, [int 0, int 0]⟩, some ⟨33, t + 1 + 1, [int R.1.1, int R.1.2]⟩], x⟩) (fun _ => R.2 = 0) ?_ ?_
  · refine AW_block ?_
    refine AW_loop_w (fun x : (Int × Int) × Nat × Nat => ⟨[(0, frs a), (1, frs b), (4, .ptr 0 (t + 1) 0), (6, .ptr 1 (t + 1 + 1) 0), (7, int x.2.1)], [some ⟨33, t + 1, [int 0, int 0]⟩, some ⟨33, t + 1 + 1, [int x.1.1, int x.1.2]⟩], x.2.2⟩) (fun x => a.length - x.2.1) (fun x => x.2.1 ≤ a.length ∧ vfrac x.1.1 x.1.2 = true ∧ dotV (a.drop x.2.1) (b.drop x.2.1) x.1 = R) ((0, 1), 0, t + 1 + 1) ⟨Nat.zero_le _, (show vfrac 0 1 = true by decide), hR⟩ (by (simp (disch := omega) only [StLe, tmLe, hpLe_refl, hpLe, bl, bb, bt, zDs, zD, eqCells, simprocAttr])) ?_
    rintro ⟨c, i, tt⟩ ⟨hi, hc, hd⟩
    simp only at hi hc hd
    by_cases hlt : i < a.length
    · obtain ⟨x, hx⟩ : ∃ y, a[i]? = some y := ⟨_, List.getElem?_eq_getElem hlt⟩
      have hbl : i < b.length := by omega
      obtain ⟨y, hy⟩ : ∃ y, b[i]? = some y := ⟨_, List.getElem?_eq_getElem hbl⟩
      have hrx := frC_read a i x hx
      have hry := frC_read b i y hy
      have vx := va x (List.mem_of_getElem? hx)
      have vy := vb y (List.mem_of_getElem? hy)
      have hM := refTimes x y vx vy
      have hMn := @mulR_nil x y
      have hMv := fun h => mulR_valid (a := x) (b := y) vx vy h
      rw [dotV_step hx hy, mulP_ok vx vy] at hd
      generalize mulR x y = M at *
      ((refine ggb0 (F := _∧_∧_) ⟨@Int.ofNat_lt, hlt, hda⟩ ?_))
      ((repeat refine AW_seq ?_))
      refine AW_block ?_
      by_cases h1 : M.2 = 0
      rotate_left 1
      · have e1 : (M.2 != 0) = true := by simpa using h1
        rw [if_neg h1, ← fr00 (hMn h1)] at hd
        subst hd
        ((repeat refine AW_seq ?_); (refine gdob1 (F := _∧_∧_∧_∧_∧_) ⟨hlt, hbl, hda, hdb, hrx, hry⟩ hM ?_))
        ((refine ggb0 e1 ?_))
        ((repeat refine AW_seq ?_); (refine wta ?_); simp (disch := omega) only [retQ, resD, oneD, rsv, rs, rsL, rsL_eq_map, List.map_map, bb, bt, zDs, zD, eqCells, simprocAttr, Tryz.results93])
      have e1 : (M.2 != 0) = false := by simpa using h1
      rw [if_pos h1] at hd
      have hA := refAdd c M.1 hc (hMv h1)
      have hAn := @addR_nil c M.1
      have hAv := fun h => addR_valid (a := c) (b := M.1) hc (hMv h1) h
      rw [addP_ok hc (hMv h1)] at hd
      generalize addR c M.1 = Q at *
      by_cases h2 : Q.2 = 0
      rotate_left 1
      · have e2 : (Q.2 != 0) = true := by simpa using h2
        rw [if_neg h2, ← fr00 (hAn h2)] at hd
        subst hd
        ((repeat refine AW_seq ?_); (refine gdob1 (F := _∧_∧_∧_∧_∧_) ⟨hlt, hbl, hda, hdb, hrx, hry⟩ hM ?_))
        ((refine ggb1 (F := _∧_) ⟨e1, e2⟩ hA ?_))
        ((repeat refine AW_seq ?_); (refine wta ?_); simp (disch := omega) only [retQ, resD, oneD, rsv, rs, rsL, rsL_eq_map, List.map_map, bb, bt, zDs, zD, eqCells, simprocAttr, Tryz.results93])
      have e2 : (Q.2 != 0) = false := by simpa using h2
      rw [if_pos h2] at hd
      ((repeat refine AW_seq ?_); (refine gdob1 (F := _∧_∧_∧_∧_∧_) ⟨hlt, hbl, hda, hdb, hrx, hry⟩ hM ?_))
      ((refine ggb1 (F := _∧_) ⟨e1, e2⟩ hA ?_))
      refine ⟨(Q.1, i + 1, tt + 1 + 1), ⟨hlt, hAv h2, hd⟩, by show a.length - (i + 1) < a.length - i; omega, ?_⟩
      (simp (disch := omega) only [StLe, tmLe, hpLe_refl, hpLe, bl, bb, bt, zDs, zD, eqCells, simprocAttr])
    · have hie : i = a.length := by omega
      subst hie
      have hde : dotV (a.drop a.length) (b.drop a.length) c = (c, 0) := by rw [List.drop_eq_nil_of_le (Nat.le_refl _)]; simp [dotV]
      rw [hde] at hd
      subst hd
      ((refine wqb (F := _∧_) ⟨@Int.lt_irrefl, hda⟩ ?_))
      ((refine wia ?_))
      ((refine wxa ?_))
      exact ⟨tt, rfl, by (simp (disch := omega) only [StLe, tmLe, hpLe_refl, hpLe, bl, bb, bt, zDs, zD, eqCells, simprocAttr])⟩
  rintro tt h0
  obtain ⟨⟨r1, r2⟩, re⟩ := R
  simp only at h0
  subst h0
  ((refine gga0 ?_))
  ((repeat refine AW_seq ?_); (refine wta ?_); simp (disch := omega) only [retQ, resD, oneD, rsv, rs, rsL, rsL_eq_map, List.map_map, bb, bt, zDs, zD, eqCells, simprocAttr, Tryz.results93])
theorem okHold_half {h : Hd} (hp : -2 ≤ h.p ∧ h.p ≤ 2) : -2 ≤ h.p.tdiv 2 ∧ h.p.tdiv 2 ≤ 2 := by
  have h1 : h.p = -2 ∨ h.p = -1 ∨ h.p = 0 ∨ h.p = 1 ∨ h.p = 2 := by omega
  rcases h1 with e | e | e | e | e <;> rw [e] <;> decide
set_option maxRecDepth 100000 in
set_option maxHeartbeats 16000000 in
theorem grip_ref (r : Rp) (up : Bool) (hr : rightR r = true) (hp : ∀ h ∈ r.hs, -2 ≤ h.p ∧ h.p ≤ 2) (nm : ByteArray) : PRet Tryz.prog 91 [.agg (rp1 r), str nm, frs (facL r up (r.hs.length - 1))] (fe (gripP r up nm)) := by
  refine PRet.intro 1 fun t => ACall.enter tab_ok Tryz.func91 rfl rfl Tryz.ntmps91 (by simp) ?_
  simp only [enterTM]
  have hdh := hdC_div r.hs
  have o0 := refOf 0
  obtain ⟨n2, n10⟩ := rightR_len hr
  have hfv : ∀ j, j + 1 < r.hs.length → vfrac (facK r.hs up j).1 (facK r.hs up j).2 = true := fun j hj => (facK_fb (hs := r.hs) (up := up) j (by omega) fun i x h1 h2 hx => okLoss_lossy (rightR_at hr hx)).v
  have hWl := facL_len r up (r.hs.length - 1)
  have hWa := fun i => facL_at r up (k := r.hs.length - 1) (i := i)
  generalize facL r up (r.hs.length - 1) = W at *
  have hWd := frC_div W
  rw [hWl] at hWd
  generalize hR : gripP r up nm = R
  have hR : gripA r.hs.length (facK r.hs up) nm r.hs 0 (0, 1) = R := hR
  ((refine gga1 o0 ?_))
  ((repeat refine AW_seq ?_))
  refine AW_mid (fun x : Nat => ⟨[(6, .ptr 1 (t + 1 + 1) 0), (8, .ptr 2 (t + 1 + 1 + 1) 0)], [none, some ⟨33, t + 1 + 1, [int 0, int 0]⟩, some ⟨33, t + 1 + 1 + 1, [int R.1.1, int R.1.2]⟩], x⟩) (fun _ => R.2 = 0) ?_ ?_
  · refine AW_block ?_
    refine AW_loop_w (fun x : (Int × Int) × Nat × Nat => ⟨[(1, str nm), (2, frs W), (3, .ptr 0 (t + 1) 0), (6, .ptr 1 (t + 1 + 1) 0), (8, .ptr 2 (t + 1 + 1 + 1) 0), (9, int x.2.1)], [some ⟨39, t + 1, rp1 r⟩, some ⟨33, t + 1 + 1, [int 0, int 0]⟩, some ⟨33, t + 1 + 1 + 1, [int x.1.1, int x.1.2]⟩], x.2.2⟩) (fun x => r.hs.length - x.2.1) (fun x => x.2.1 ≤ r.hs.length ∧ vfrac x.1.1 x.1.2 = true ∧ gripA r.hs.length (facK r.hs up) nm (r.hs.drop x.2.1) x.2.1 x.1 = R) ((0, 1), 0, t + 1 + 1 + 1) ⟨Nat.zero_le _, (show vfrac 0 1 = true by decide), hR⟩ (by (simp (disch := omega) only [StLe, tmLe, hpLe_refl, hpLe, bl, bb, bt, zDs, zD, eqCells, simprocAttr])) ?_
    rintro ⟨c, i, tt⟩ ⟨hi, hc, hd⟩
    simp only at hi hc hd
    by_cases hlt : i < r.hs.length
    · obtain ⟨h, hx⟩ : ∃ y, r.hs[i]? = some y := ⟨_, List.getElem?_eq_getElem hlt⟩
      have hrh := hdC_read r.hs i h hx
      have hpp := hp h (List.mem_of_getElem? hx)
      rw [gripA_step hx] at hd
      ((refine ggb0 (F := _∧_∧_) ⟨@Int.ofNat_lt, hlt, hdh⟩ ?_))
      ((repeat refine AW_seq ?_))
      refine AW_block ?_
      by_cases hnm : h.b = nm
      rotate_left 1
      · rw [if_neg hnm] at hd
        have en : decide (h.b = nm) = false := decide_eq_false hnm
        have en2 : (h.b == nm) = false := by simpa using hnm
        ((refine ggb0 (F := _∧_∧_∧_∧_∧_) ⟨hlt, hdh, hrh, hnm, en, en2⟩ ?_))
        refine ⟨(c, i + 1, tt + 1), ⟨hlt, hc, hd⟩, by show r.hs.length - (i + 1) < r.hs.length - i; omega, ?_⟩
        (simp (disch := omega) only [StLe, tmLe, hpLe_refl, hpLe, bl, bb, bt, zDs, zD, eqCells, simprocAttr])
      rw [if_pos hnm] at hd
      have en : decide (h.b = nm) = true := decide_eq_true hnm
      have hrf0 : (frC W).take 2 = [int (facK r.hs up 0).1, int (facK r.hs up 0).2] := by simpa using frC_read W 0 _ (hWa 0 (by omega))
      have hrf1 : ((frC W).drop 0).take 2 = [int (facK r.hs up 0).1, int (facK r.hs up 0).2] := hrf0
      have hW0 : 0 < r.hs.length - 1 := by omega
      ((refine ggb0 (F := _∧_∧_∧_∧_∧_∧_∧_∧_) ⟨hlt, hdh, hrh, hnm, en, hrf0, hrf1, hW0, hWd⟩ ?_))
      ((repeat refine AW_seq ?_))
      refine AW_mid (fun x : (Int × Int × Int) × Nat => ⟨[(1, str nm), (2, frs W), (3, .ptr 0 (t + 1) 0), (6, .ptr 1 (t + 1 + 1) 0), (8, .ptr 2 (t + 1 + 1 + 1) 0), (9, int i), (11, .ptr 4 (tt + 1 + 1) 0), (12, int x.1.1)], [some ⟨39, t + 1, rp1 r⟩, some ⟨33, t + 1 + 1, [int 0, int 0]⟩, some ⟨33, t + 1 + 1 + 1, [int c.1, int c.2]⟩, none, some ⟨33, tt + 1 + 1, [int x.1.2.1, int x.1.2.2]⟩], x.2⟩) (fun x => vfrac x.1.1 1 = true ∧ vfrac x.1.2.1 x.1.2.2 = true ∧ gripT r.hs.length (facK r.hs up) i h = mulP (x.1.1, 1) x.1.2) ?_ ?_
      · by_cases hin : i + 1 = r.hs.length
        · have c1 : ((i : Int) == (r.hs.length : Int) - 1) = true := by rw [beq_iff_eq]; omega
          have hrf := frC_read W (r.hs.length - 2) _ (hWa (r.hs.length - 2) (by omega))
          have hsub : ((r.hs.length - 1 : Nat) : Int) - 1 = ((r.hs.length - 2 : Nat) : Int) := by omega
          have hjW : r.hs.length - 2 < r.hs.length - 1 := by omega
          ((refine ggb0 (F := _∧_∧_∧_∧_) ⟨c1, hWd, hsub, hjW, hrf⟩ ?_))
          exact ⟨((h.p, facK r.hs up (r.hs.length - 2)), tt + 1 + 1), ⟨(show vfrac h.p 1 = true from vfrac_one (by omega)), hfv _ (by omega), by unfold gripT; rw [if_neg (by omega), if_pos hin]⟩, by (simp (disch := omega) only [StLe, tmLe, hpLe_refl, hpLe, bl, bb, bt, zDs, zD, eqCells, simprocAttr])⟩
        have c1 : ((i : Int) == (r.hs.length : Int) - 1) = false := by rw [beq_eq_false_iff_ne]; omega
        by_cases hi0 : i = 0
        · have c0 : ¬ (0 : Int) < (i : Int) := by omega
          ((refine ggb0 (F := _∧_) ⟨c1, c0⟩ ?_))
          exact ⟨((h.p, facK r.hs up 0), tt + 1 + 1), ⟨(show vfrac h.p 1 = true from vfrac_one (by omega)), hfv _ (by omega), by unfold gripT; rw [if_pos hi0]⟩, by (simp (disch := omega) only [StLe, tmLe, hpLe_refl, hpLe, bl, bb, bt, zDs, zD, eqCells, simprocAttr])⟩
        have c0 : (0 : Int) < (i : Int) := by omega
        have va := hfv (i - 1) (by omega)
        have vb := hfv i (by omega)
        have hA := refAdd (facK r.hs up (i - 1)) (facK r.hs up i) va vb
        have hAv := fun h => addR_valid (a := facK r.hs up (i - 1)) (b := facK r.hs up i) va vb h
        have hAn := @addR_nil (facK r.hs up (i - 1)) (facK r.hs up i)
        have hsub1 : (i : Int) - 1 = ((i - 1 : Nat) : Int) := by omega
        have hrfa := frC_read W (i - 1) _ (hWa (i - 1) (by omega))
        have hrfb := frC_read W i _ (hWa i (by omega))
        have hl1 : i - 1 < r.hs.length - 1 := by omega
        have hl2 : i < r.hs.length - 1 := by omega
        have hgt : gripT r.hs.length (facK r.hs up) i h = if (addR (facK r.hs up (i - 1)) (facK r.hs up i)).2 = 0 then mulP (h.p.tdiv 2, 1) (addR (facK r.hs up (i - 1)) (facK r.hs up i)).1 else ((0, 0), (addR (facK r.hs up (i - 1)) (facK r.hs up i)).2) := by
          unfold gripT
          rw [if_neg hi0, if_neg hin, addP_ok va vb]
        have hhf := okHold_half hpp
        have hwr := wr64 (h.p.tdiv 2) (by omega)
        generalize addR (facK r.hs up (i - 1)) (facK r.hs up i) = Q at *
        generalize facK r.hs up (i - 1) = fa at *
        by_cases hq : Q.2 = 0
        rotate_left 1
        · have e1 : (Q.2 != 0) = true := by simpa using hq
          rw [if_neg hq] at hgt
          rw [hgt, if_neg hq, ← fr00 (hAn hq)] at hd
          subst hd
          ((refine ggb0 (F := _∧_) ⟨c1, c0⟩ ?_))
          ((repeat refine AW_seq ?_); (refine gdob1 (F := _∧_∧_∧_∧_∧_) ⟨hsub1, hl1, hl2, hWd, hrfa, hrfb⟩ hA ?_))
          ((refine ggb0 e1 ?_))
          ((repeat refine AW_seq ?_); (refine wta ?_); simp (disch := omega) only [retQ, resD, oneD, rsv, rs, rsL, rsL_eq_map, List.map_map, bb, bt, zDs, zD, eqCells, simprocAttr, Tryz.results91])
        have e1 : (Q.2 != 0) = false := by simpa using hq
        rw [if_pos hq] at hgt
        ((refine ggb0 (F := _∧_) ⟨c1, c0⟩ ?_))
        ((repeat refine AW_seq ?_); (refine gdob1 (F := _∧_∧_∧_∧_∧_) ⟨hsub1, hl1, hl2, hWd, hrfa, hrfb⟩ hA ?_))
        ((refine ggb0 (F := _∧_) ⟨e1, hwr⟩ ?_))
        exact ⟨((h.p.tdiv 2, Q.1), tt + 1 + 1 + 1), ⟨(show vfrac (h.p.tdiv 2) 1 = true from vfrac_one (by omega)), hAv hq, hgt⟩, by (simp (disch := omega) only [StLe, tmLe, hpLe_refl, hpLe, bl, bb, bt, zDs, zD, eqCells, simprocAttr])⟩
      rintro ⟨⟨K, X⟩, t2⟩ ⟨hK, hX, hgt⟩
      simp only at hK hX hgt
      rw [hgt, mulP_ok hK hX] at hd
      have hw := refOf K
      have hM := refTimes (K, 1) X hK hX
      have hMn := @mulR_nil (K, 1) X
      have hMv := fun h => mulR_valid (a := (K, 1)) (b := X) hK hX h
      generalize mulR (K, 1) X = M at *
      by_cases h1 : M.2 = 0
      rotate_left 1
      · have e1 : (M.2 != 0) = true := by simpa using h1
        rw [if_neg h1, ← fr00 (hMn h1)] at hd
        subst hd
        ((repeat refine AW_seq ?_); (refine gdoa2_ARD hw hM ?_))
        ((refine ggb0 e1 ?_))
        ((repeat refine AW_seq ?_); (refine wta ?_); simp (disch := omega) only [retQ, resD, oneD, rsv, rs, rsL, rsL_eq_map, List.map_map, bb, bt, zDs, zD, eqCells, simprocAttr, Tryz.results91])
      have e1 : (M.2 != 0) = false := by simpa using h1
      rw [if_pos h1] at hd
      have hA := refAdd c M.1 hc (hMv h1)
      have hAn := @addR_nil c M.1
      have hAv := fun h => addR_valid (a := c) (b := M.1) hc (hMv h1) h
      rw [addP_ok hc (hMv h1)] at hd
      generalize addR c M.1 = Q at *
      by_cases h2 : Q.2 = 0
      rotate_left 1
      · have e2 : (Q.2 != 0) = true := by simpa using h2
        rw [if_neg h2, ← fr00 (hAn h2)] at hd
        subst hd
        ((repeat refine AW_seq ?_); (refine gdoa2_ARD hw hM ?_))
        ((refine ggb1 (F := _∧_) ⟨e1, e2⟩ hA ?_))
        ((repeat refine AW_seq ?_); (refine wta ?_); simp (disch := omega) only [retQ, resD, oneD, rsv, rs, rsL, rsL_eq_map, List.map_map, bb, bt, zDs, zD, eqCells, simprocAttr, Tryz.results91])
      have e2 : (Q.2 != 0) = false := by simpa using h2
      rw [if_pos h2] at hd
      ((repeat refine AW_seq ?_); (refine gdoa2_ARD hw hM ?_))
      ((refine ggb1 (F := _∧_) ⟨e1, e2⟩ hA ?_))
      refine ⟨(Q.1, i + 1, t2 + 1 + 1), ⟨hlt, hAv h2, hd⟩, by show r.hs.length - (i + 1) < r.hs.length - i; omega, ?_⟩
      (simp (disch := omega) only [StLe, tmLe, hpLe_refl, hpLe, bl, bb, bt, zDs, zD, eqCells, simprocAttr])
    · have hie : i = r.hs.length := by omega
      subst hie
      have hde : gripA r.hs.length (facK r.hs up) nm (r.hs.drop r.hs.length) r.hs.length c = (c, 0) := by rw [List.drop_eq_nil_of_le (Nat.le_refl _)]; rfl
      rw [hde] at hd
      subst hd
      ((refine wqb (F := _∧_) ⟨@Int.lt_irrefl, hdh⟩ ?_))
      ((refine wia ?_))
      ((refine wxa ?_))
      exact ⟨tt, rfl, by (simp (disch := omega) only [StLe, tmLe, hpLe_refl, hpLe, bl, bb, bt, zDs, zD, eqCells, simprocAttr])⟩
  rintro tt h0
  obtain ⟨⟨r1, r2⟩, re⟩ := R
  simp only at h0
  subst h0
  ((refine gga0 ?_))
  ((repeat refine AW_seq ?_); (refine wta ?_); simp (disch := omega) only [retQ, resD, oneD, rsv, rs, rsL, rsL_eq_map, List.map_map, bb, bt, zDs, zD, eqCells, simprocAttr, Tryz.results91])
end Go.Proofs.YtpcakodemleoiaaGreat.T

