import Derived.Test.YtpcakodemleoiaaGreatSALXACR
import Derived.Test.YtpcakodemleoiaaGreatSCPYALN
import Derived.Test.YtpcakodemleoiaaGreatSVSALP
import Derived.Test.YtpcakodemleoiaaGreatSWE
set_option linter.all false
namespace Go.Proofs.YtpcakodemleoiaaGreat.T
open Go Go.RowKit Lin
end Go.Proofs.YtpcakodemleoiaaGreat.T

namespace Go.Proofs.YtpcakodemleoiaaGreat.T
open Go Go.RowKit Lin
end Go.Proofs.YtpcakodemleoiaaGreat.T

namespace Go.Proofs.YtpcakodemleoiaaGreat.T
open Go Go.RowKit Lin
end Go.Proofs.YtpcakodemleoiaaGreat.T

namespace Go.Proofs.YtpcakodemleoiaaGreat.T
open Go Go.RowKit Lin
theorem grp_len {sz : Nat} : ∀ {l : List (List D)}, (∀ x ∈ l, x.length = sz) → l.flatten.length = l.length * sz
  | [], _ => by simp
  | x :: l, h => by
    rw [List.flatten_cons, List.length_append, h x (by simp), grp_len fun y hy => h y (List.mem_cons_of_mem _ hy), List.length_cons, Nat.add_mul]
    omega
end Go.Proofs.YtpcakodemleoiaaGreat.T

namespace Go.Proofs.YtpcakodemleoiaaGreat.T
open Go Go.RowKit Lin
abbrev ro1 (r : Rp) (p : Nat × Nat) : List D := [str r.nm, .own 4 p.1 p.2 0 r.hs.length, bool r.hl]
def roC (rs : List Rp) (ps : List (Nat × Nat)) : List (List D) := List.zipWith ro1 rs ps
structure CA where
  k : Nat
  g : Nat
  ps : List (Nat × Nat)
  R : List Blk
  t : Nat
structure CAok (s : Sy) (t0 : Nat) (x : CA) : Prop where
  k : x.k ≤ s.rs.length
  lp : x.ps.length = x.k
  lr : x.R.length = 2 * x.k
  at_ : ∀ (j : Nat) (r : Rp) (p : Nat × Nat), s.rs[j]? = some r → x.ps[j]? = some p → p.1 = 2 * j + 6 ∧ x.R[2 * j + 1]? = some ⟨43, p.2, hdC r.hs⟩
  new : ∀ bl ∈ x.R, t0 < bl.g ∧ ((∃ l, bl.cells = hdC l) ∨ ∃ r p, bl.cells = ro1 r p ∧ p.1 < 5 + x.R.length)
  g : t0 < x.g
  t : t0 ≤ x.t
theorem cells_bk (l : List Bk) : (bkC l).all isCell = true := by
  induction l with
  | nil => rfl
  | cons x r ih => simp only [bkC, List.flatMap_cons, List.all_append, Bool.and_eq_true] at ih ⊢; exact ⟨rfl, ih⟩
theorem cells_hd (l : List Hd) : (hdC l).all isCell = true := by
  induction l with
  | nil => rfl
  | cons x r ih => simp only [hdC, List.flatMap_cons, List.all_append, Bool.and_eq_true] at ih ⊢; exact ⟨rfl, ih⟩
theorem roC_len {rs : List Rp} {ps : List (Nat × Nat)} (h : ps.length = rs.length) : (roC rs ps).length = rs.length := by simp [roC, h]
theorem roC_cells {rs : List Rp} {ps : List (Nat × Nat)} (h : ps.length = rs.length) : (roC rs ps).flatten.length = rs.length * 3 := by
  rw [grp_len (sz := 3), roC_len h]
  intro x hx
  obtain ⟨i, hi⟩ := List.mem_iff_getElem?.1 hx
  unfold roC at hi
  rw [List.getElem?_zipWith] at hi
  cases h1 : rs[i]? <;> cases h2 : ps[i]? <;> rw [h1, h2] at hi <;> simp at hi
  subst hi
  rfl
theorem roC_push {rs : List Rp} {ps : List (Nat × Nat)} {k : Nat} {r : Rp} {p : Nat × Nat} (hl : ps.length = k) (hr : rs[k]? = some r) : roC (rs.take (k + 1)) (ps ++ [p]) = roC (rs.take k) ps ++ [ro1 r p] := by
  have hk := (List.getElem?_eq_some_iff.1 hr).1
  unfold roC
  rw [List.take_add_one, hr, Option.toList_some, List.zipWith_append (by simp; omega)]
  rfl
set_option maxHeartbeats 4000000 in
theorem copy0S (s : Sy) (ok : OkS s) (t : Nat) : ACall Tryz.prog 28 [syD s] [] t (fun d H' t' => ∃ (x : CA) (g0 g1 g2 g3 : Nat) (z : List D), CAok s t x ∧ x.k = s.rs.length ∧ t' = x.t ∧ d = .agg [.own 2 2 g2 0 s.bs.length, .own 3 4 x.g 0 s.rs.length] ∧ t < g0 ∧ t < g1 ∧ t < g2 ∧ t < g3 ∧ z = [.own 2 2 g2 0 s.bs.length, .own 3 4 x.g 0 s.rs.length] ∧
    H' = some ⟨25, g0, [bks s.bs, rps s.rs]⟩ :: some ⟨25, g1, z⟩ :: some ⟨45, g2, bkC s.bs⟩ :: some ⟨25, g3, z⟩ :: some ⟨39, x.g, (roC s.rs x.ps).flatten⟩ :: x.R.map some) := by
  refine ACall.enter tab_ok Tryz.func28 rfl rfl Tryz.ntmps28 (by simp) ?_
  simp only [enterTM]
  have hdr := rpC_div s.rs
  have hdb := bkC_div s.bs
  have hlb := bkC_len s.bs
  have b1 := ok.b1
  have b6 := ok.b6
  have r6 := ok.r6
  have hcb := cells_bk s.bs
  have hnb : (bkC s.bs = []) = False := by
    simp only [eq_iff_iff, iff_false]
    intro e
    rw [e] at hlb
    simp at hlb
    omega
  ((refine wqa ?_))
  ((refine wqb (F := _∧_∧_) ⟨hcb, hnb, hdb⟩ ?_))
  ((refine wqa ?_))
  refine AW.begin_cell 3 1 3 39 rfl rfl (by decide) ?_
  simp only [List.set_cons_succ, List.set_cons_zero, List.length_cons, List.length_nil, List.cons_append, List.nil_append, Nat.zero_add, Nat.reduceAdd]
  refine AW_mid (fun x : CA => ⟨[(2, .ptr 1 (t + 1 + 1) 0), (3, .ptr 3 (t + 1 + 1 + 1 + 1) 0)], some ⟨25, t + 1, [bks s.bs, rps s.rs]⟩ :: some ⟨25, t + 1 + 1, [.sl 2 [] true, .sl 3 [] true]⟩ :: some ⟨45, t + 1 + 1 + 1, bkC s.bs⟩ :: some ⟨25, t + 1 + 1 + 1 + 1, [.own 2 2 (t + 1 + 1 + 1) 0 s.bs.length, .own 3 4 x.g 0 s.rs.length]⟩ :: some ⟨39, x.g, (roC s.rs x.ps).flatten⟩ :: x.R.map some, x.t⟩) (fun x => CAok s t x ∧ x.k = s.rs.length) ?_ ?_
  · refine AW_block ?_
    refine AW_loop_w (fun x : CA => ⟨[(1, .ptr 0 (t + 1) 0), (2, .ptr 1 (t + 1 + 1) 0), (3, .ptr 3 (t + 1 + 1 + 1 + 1) 0), (4, int x.k)], some ⟨25, t + 1, [bks s.bs, rps s.rs]⟩ :: some ⟨25, t + 1 + 1, [.sl 2 [] true, .sl 3 [] true]⟩ :: some ⟨45, t + 1 + 1 + 1, bkC s.bs⟩ :: some ⟨25, t + 1 + 1 + 1 + 1, [.own 2 2 (t + 1 + 1 + 1) 0 s.bs.length, .own 3 4 x.g 0 x.k]⟩ :: some ⟨39, x.g, (roC (s.rs.take x.k) x.ps).flatten⟩ :: x.R.map some, x.t⟩) (fun x => s.rs.length - x.k) (fun x => CAok s t x) ⟨0, t + 1 + 1 + 1 + 1 + 1, [], [], t + 1 + 1 + 1 + 1 + 1⟩ ⟨Nat.zero_le _, rfl, rfl, fun j r p _ h => by simp at h, fun bl h => by simp at h, by show t < t + 1 + 1 + 1 + 1 + 1; omega, by show t ≤ t + 1 + 1 + 1 + 1 + 1; omega⟩ (by (simp (disch := omega) only [StLe, tmLe, hpLe_refl, hpLe, bl, bb, bt, zDs, zD, eqCells, simprocAttr, roC, List.take_zero, List.zipWith_nil_left])) ?_
    rintro ⟨k, g, ps, R, tt⟩ hx
    obtain ⟨hk, hlp, hlr, hat, hnew, hgt, htt⟩ := hx
    simp only at hk hlp hlr hat hnew hgt htt
    by_cases hlt : k < s.rs.length
    · obtain ⟨r, hr⟩ : ∃ y, s.rs[k]? = some y := ⟨_, List.getElem?_eq_getElem hlt⟩
      have hrm := List.mem_of_getElem? hr
      have hra := rpC_read s.rs k r hr
      obtain ⟨ho1, ho2, _⟩ := ok.holds r hrm
      have hch := cells_hd r.hs
      have hlh := hdC_len r.hs
      have hdh := hdC_div r.hs
      have hnh : (hdC r.hs = []) = False := by
        simp only [eq_iff_iff, iff_false]
        intro e
        rw [e] at hlh
        simp at hlh
        omega
      have hRl : (R.map some).length = 2 * k := by simp [hlr]
      have hg5 : ∀ x y : Option Blk, (R.map some ++ [x, y])[R.length]? = some x := fun x y => by rw [List.getElem?_append_right (by simp)]; simp
      have hg6 : ∀ x y : Option Blk, (R.map some ++ [x, y])[R.length + 1]? = some y := fun x y => by rw [List.getElem?_append_right (by simp)]; simp
      have hg5a : ∀ x : Option Blk, (R.map some ++ [x])[R.length]? = some x := fun x => by rw [List.getElem?_append_right (by simp)]; simp
      have hs5 : ∀ x y z : Option Blk, (R.map some ++ [x, y]).set R.length z = R.map some ++ [z, y] := fun x y z => by rw [List.set_append_right _ _ (by simp)]; simp
      have hrc : (roC (s.rs.take k) ps).flatten.length = k * 3 := by rw [roC_cells (by simp [hlp]; omega)]; simp; omega
      have hpush := roC_push (p := (R.length + 1 + 1 + 1 + 1 + 1 + 1, tt + 1 + 1)) hlp hr
      ((refine ggb0 (F := _∧_∧_) ⟨@Int.ofNat_lt, hlt, hdr⟩ ?_))
      ((repeat refine AW_seq ?_))
      refine AW_block ?_
      have hs5a : ∀ x z : Option Blk, (R.map some ++ [x]).set R.length z = R.map some ++ [z] := fun x z => by rw [List.set_append_right _ _ (by simp)]; simp
      ((refine wqb (F := _∧_∧_∧_∧_) ⟨hlt, hdr, hra, hg5a, hs5a⟩ ?_))
      ((refine wqb (F := _∧_∧_∧_∧_∧_∧_) ⟨hg5a, hch, hnh, hdh, hg5, hg6, hs5⟩ ?_))
      ((refine ggb0 (F := _∧_) ⟨hg5, hrc⟩ ?_))
      refine ⟨⟨k + 1, tt + 1 + 1 + 1, ps ++ [(R.length + 1 + 1 + 1 + 1 + 1 + 1, tt + 1 + 1)], R ++ [⟨39, tt + 1, ro1 r (R.length + 1 + 1 + 1 + 1 + 1 + 1, tt + 1 + 1)⟩, ⟨43, tt + 1 + 1, hdC r.hs⟩], tt + 1 + 1 + 1⟩, ⟨hlt, by simp [hlp], by simp [hlr]; omega, fun j q p hq hp => ?_, fun bl hbl => ?_, by show t < tt + 1 + 1 + 1; omega, by show t ≤ tt + 1 + 1 + 1; omega⟩, by show s.rs.length - (k + 1) < s.rs.length - k; omega, ?_⟩
      · by_cases hjk : j < k
        · rw [List.getElem?_append_left (by omega)] at hp
          obtain ⟨a1, a2⟩ := hat j q p hq hp
          exact ⟨a1, by rw [List.getElem?_append_left (by have := (List.getElem?_eq_some_iff.1 a2).1; omega)]; exact a2⟩
        · have hjl := (List.getElem?_eq_some_iff.1 hp).1
          have hje : j = k := by simp [hlp] at hjl; omega
          subst hje
          rw [List.getElem?_append_right (by omega), hlp, Nat.sub_self] at hp
          simp only [List.getElem?_cons_zero, Option.some.injEq] at hp
          subst hp
          rw [hr, Option.some.injEq] at hq
          subst hq
          refine ⟨by simp only; omega, ?_⟩
          rw [List.getElem?_append_right (by omega), show 2 * j + 1 - R.length = 1 by omega]
          rfl
      · simp only [List.length_append, List.length_cons, List.length_nil]
        rcases List.mem_append.1 hbl with h | h
        · obtain ⟨a1, a2⟩ := hnew bl h
          refine ⟨a1, a2.imp id ?_⟩
          rintro ⟨r', p', e, hp'⟩
          exact ⟨r', p', e, by omega⟩
        · rcases List.mem_cons.1 h with rfl | h
          · exact ⟨by simp only; omega, .inr ⟨r, _, rfl, by simp only; omega⟩⟩
          · simp only [List.mem_singleton] at h
            subst h
            exact ⟨by simp only; omega, .inl ⟨r.hs, rfl⟩⟩
      · simp only [hpush, List.flatten_append, List.flatten_cons, List.flatten_nil, List.append_nil, List.map_append, List.map_cons, List.map_nil]
        (simp (disch := omega) only [StLe, tmLe, hpLe_refl, hpLe, bl, bb, bt, zDs, zD, eqCells, simprocAttr])
    · have hke : k = s.rs.length := by omega
      subst hke
      rw [List.take_length]
      ((refine wqb (F := _∧_) ⟨@Int.lt_irrefl, hdr⟩ ?_))
      ((refine wia ?_))
      ((refine wxa ?_))
      exact ⟨⟨s.rs.length, g, ps, R, tt⟩, ⟨⟨hk, hlp, hlr, hat, hnew, hgt, htt⟩, rfl⟩, by (simp (disch := omega) only [StLe, tmLe, hpLe_refl, hpLe, bl, bb, bt, zDs, zD, eqCells, simprocAttr])⟩
  rintro ⟨k, g, ps, R, tt⟩ ⟨hx, hke⟩
  simp only at hx hke
  ((refine gga0 ?_))
  ((repeat refine AW_seq ?_); (refine wta ?_); simp (disch := omega) only [retQ, resD, oneD, bb, bt, zDs, zD, eqCells, simprocAttr, Tryz.results28])
  exact ⟨⟨k, g, ps, R, tt⟩, t + 1, t + 1 + 1, t + 1 + 1 + 1, t + 1 + 1 + 1 + 1, _, hx, hke, rfl, rfl, by omega, by omega, by omega, by omega, rfl, rfl⟩
end Go.Proofs.YtpcakodemleoiaaGreat.T

namespace Go.Proofs.YtpcakodemleoiaaGreat.T
open Go Go.RowKit Lin
mutual
theorem in_plain {k : Nat} : ∀ d : D, plainD d = true → inD k d = true
  | .v _, _ => by simp only [inD]
  | .sl _ cs _, h => by simp only [plainD] at h; simp only [inD]; exact in_plainL cs h
  | .rp cs _, h => by simp only [plainD] at h; simp only [inD]; exact in_plainL cs h
  | .own .., h => by simp [plainD] at h
  | .ptr .., h => by simp [plainD] at h
  | .agg cs, h => by simp only [plainD] at h; simp only [inD]; exact in_plainL cs h
  | .tup cs, h => by simp only [plainD] at h; simp only [inD]; exact in_plainL cs h
  | .fn _ cs, h => by simp only [plainD] at h; simp only [inD]; exact in_plainL cs h
  | .mp .., h => by simp [plainD] at h
  | .any, _ => by simp only [inD]
theorem in_plainL {k : Nat} : ∀ l : List D, plainL l = true → inL k l = true
  | [], _ => by simp only [inL]
  | d :: l, h => by simp only [plainL, Bool.and_eq_true] at h; simp only [inL, in_plain d h.1, in_plainL l h.2, Bool.and_self]
end
theorem sh_cells {n : Nat} : ∀ {l : List D}, (∀ d ∈ l, ∃ x, d = .v x) → shL n l = l
  | [], _ => by simp only [shL]
  | d :: l, h => by
    obtain ⟨x, rfl⟩ := h d (by simp)
    simp only [shL, shD, sh_cells fun e he => h e (List.mem_cons_of_mem _ he)]
theorem bkC_v (l : List Bk) : ∀ d ∈ bkC l, ∃ x, d = .v x := by
  intro d hd
  obtain ⟨b, _, hb⟩ := List.mem_flatMap.1 hd
  simp only [List.mem_cons, List.not_mem_nil, or_false] at hb
  rcases hb with rfl | rfl <;> exact ⟨_, rfl⟩
theorem hdC_v (l : List Hd) : ∀ d ∈ hdC l, ∃ x, d = .v x := by
  intro d hd
  obtain ⟨b, _, hb⟩ := List.mem_flatMap.1 hd
  simp only [List.mem_cons, List.not_mem_nil, or_false] at hb
  rcases hb with rfl | rfl | rfl | rfl <;> exact ⟨_, rfl⟩
theorem roC_mem {rs : List Rp} {ps : List (Nat × Nat)} {d : D} (h : d ∈ (roC rs ps).flatten) : ∃ (j : Nat) (r : Rp) (p : Nat × Nat), rs[j]? = some r ∧ ps[j]? = some p ∧ d ∈ ro1 r p := by
  obtain ⟨l, hl, hd⟩ := List.mem_flatten.1 h
  obtain ⟨j, hj⟩ := List.mem_iff_getElem?.1 hl
  unfold roC at hj
  rw [List.getElem?_zipWith] at hj
  cases h1 : rs[j]? with
  | none => rw [h1] at hj; simp at hj
  | some r =>
    cases h2 : ps[j]? with
    | none => rw [h1, h2] at hj; simp at hj
    | some p =>
      rw [h1, h2] at hj
      simp only [Option.some.injEq] at hj
      subst hj
      exact ⟨j, r, p, h1, h2, hd⟩
def shP (n : Nat) (p : Nat × Nat) : Nat × Nat := (p.1 + n, p.2)
theorem sh_roC (n : Nat) : ∀ (rs : List Rp) (ps : List (Nat × Nat)), shL n (roC rs ps).flatten = (roC rs (ps.map (shP n))).flatten
  | [], _ => by simp [roC, shL]
  | _ :: _, [] => by simp [roC, shL]
  | r :: rs, p :: ps => by
    have ih := sh_roC n rs ps
    unfold roC at ih ⊢
    simp only [List.map_cons, List.zipWith_cons_cons, List.flatten_cons, ro1, List.cons_append, List.nil_append, shL, shD, ih]
    rfl
structure CB (s : Sy) (n : Nat) (qs : List (Nat × Nat)) (R : List Blk) : Prop where
  lq : qs.length = s.rs.length
  lr : R.length = 2 * s.rs.length
  at_ : ∀ (j : Nat) (r : Rp) (p : Nat × Nat), s.rs[j]? = some r → qs[j]? = some p → p.1 = n + (2 * j + 6) ∧ R[2 * j + 1]? = some ⟨43, p.2, hdC r.hs⟩
theorem copyH {s : Sy} (ok : OkS s) {ds : List D} {H : Hp} {t : Nat} {K : D → Hp → Nat → Prop} (hd : ds.map ufa = [syD s])
    (hK : ∀ (g2 gr : Nat) (qs : List (Nat × Nat)) (R : List Blk) (B0 B1 B3 : Blk) (t' : Nat), CB s H.length qs R → t ≤ t' → K (.agg [.own 2 (H.length + 2) g2 0 s.bs.length, .own 3 (H.length + 4) gr 0 s.rs.length]) (H ++ (some B0 :: some B1 :: some ⟨45, g2, bkC s.bs⟩ :: some B3 :: some ⟨39, gr, (roC s.rs qs).flatten⟩ :: R.map some)) t') : ACall Tryz.prog 28 ds H t K := by
  have hpl : plainL [bks s.bs, rps s.rs] = true := by simp only [plainL, plain_bk, plain_rp, plainD, Bool.and_self]
  have hp : plainL [syD s] = true := by simp only [plainL, plainD, hpl, plain_bk, plain_rp, Bool.and_self]
  refine ACall.of_new (copy0S s ok t) hd hp fun d H' t' hk => ?_
  obtain ⟨x, g0, g1, g2, g3, z, cx, ck, rfl, rfl, h0, h1, h2, h3, rfl, rfl⟩ := hk
  obtain ⟨k, g, ps, R, tt⟩ := x
  obtain ⟨xk, xp, xr, xat, xnew, xg, xt⟩ := cx
  simp only at ck xk xp xr xat xnew xg xt
  subst ck
  refine ⟨⟨25, g0, [bks s.bs, rps s.rs]⟩ :: ⟨25, g1, _⟩ :: ⟨45, g2, bkC s.bs⟩ :: ⟨25, g3, _⟩ :: ⟨39, g, (roC s.rs ps).flatten⟩ :: R, rfl, ⟨xt, ?_, fun bl hbl => ?_⟩, ?_⟩
  · simp [inD, inL]
  · simp only [List.length_cons]
    have hz : inL (R.length + 1 + 1 + 1 + 1 + 1) [D.own 2 2 g2 0 s.bs.length, D.own 3 4 g 0 s.rs.length] = true := by simp [inL, inD]
    rcases List.mem_cons.1 hbl with rfl | hbl
    · exact ⟨h0, in_plainL _ hpl⟩
    rcases List.mem_cons.1 hbl with rfl | hbl
    · exact ⟨h1, hz⟩
    rcases List.mem_cons.1 hbl with rfl | hbl
    · exact ⟨h2, in_plainL _ (by have := plain_bk s.bs; simpa only [plainD] using this)⟩
    rcases List.mem_cons.1 hbl with rfl | hbl
    · exact ⟨h3, hz⟩
    rcases List.mem_cons.1 hbl with rfl | hbl
    · refine ⟨xg, inL_all fun d hd => ?_⟩
      obtain ⟨j, r, p, e1, e2, hm⟩ := roC_mem hd
      obtain ⟨a1, a2⟩ := xat j r p e1 e2
      have := (List.getElem?_eq_some_iff.1 a2).1
      simp only [ro1, List.mem_cons, List.not_mem_nil, or_false] at hm
      rcases hm with rfl | rfl | rfl
      · rfl
      · simp only [inD, decide_eq_true_eq]
        omega
      · rfl
    · obtain ⟨a1, a2⟩ := xnew bl hbl
      refine ⟨a1, ?_⟩
      rcases a2 with ⟨l, e⟩ | ⟨r, p, e, hp'⟩
      · rw [e]
        refine inL_all fun d hd => ?_
        obtain ⟨y, rfl⟩ := hdC_v l d hd
        rfl
      · rw [e]
        simp only [ro1, inL, inD, Bool.and_true, Bool.true_and, decide_eq_true_eq]
        omega
  · have hcb : CB s H.length (ps.map (shP H.length)) (R.map (shB H.length)) := by
      refine ⟨by simp [xp], by simp [xr], fun j r p hr hp' => ?_⟩
      rw [List.getElem?_map] at hp'
      cases e : ps[j]? with
      | none => rw [e] at hp'; simp at hp'
      | some q =>
        rw [e] at hp'
        simp only [Option.map_some, Option.some.injEq] at hp'
        subst hp'
        obtain ⟨a1, a2⟩ := xat j r q hr e
        refine ⟨by simp only [shP]; omega, ?_⟩
        rw [List.getElem?_map, a2, Option.map_some, shB, sh_cells (hdC_v r.hs)]
        rfl
    have hh := hK g2 g _ _ (shB H.length ⟨25, g0, [bks s.bs, rps s.rs]⟩) (shB H.length ⟨25, g1, [.own 2 2 g2 0 s.bs.length, .own 3 4 g 0 s.rs.length]⟩) (shB H.length ⟨25, g3, [.own 2 2 g2 0 s.bs.length, .own 3 4 g 0 s.rs.length]⟩) tt hcb xt
    have e1 : shB H.length ⟨45, g2, bkC s.bs⟩ = ⟨45, g2, bkC s.bs⟩ := by rw [shB, sh_cells (bkC_v s.bs)]
    have e2 : shB H.length ⟨39, g, (roC s.rs ps).flatten⟩ = ⟨39, g, (roC s.rs (ps.map (shP H.length))).flatten⟩ := by rw [shB, sh_roC]
    simp only [List.map_cons, e1, e2, shD, shL]
    rw [Nat.add_comm 2 H.length, Nat.add_comm 4 H.length]
    exact hh
structure LayR (m : Nat) (H2 : Hp) (rs : List Rp) (qs : List (Nat × Nat)) : Prop where
  lq : qs.length = rs.length
  at_ : ∀ (j : Nat) (r : Rp) (p : Nat × Nat), rs[j]? = some r → qs[j]? = some p → m ≤ p.1 ∧ H2[p.1 - m]? = some (some ⟨43, p.2, hdC r.hs⟩)
theorem zv_cells (m : Nat) (H2 : Hp) (k : Nat) {l : List D} (h : ∀ d ∈ l, ∃ x, d = .v x) : l.map (zv m H2 k) = l := by
  conv => rhs; rw [← List.map_id l]
  refine List.map_congr_left fun d hd => ?_
  obtain ⟨x, rfl⟩ := h d hd
  exact zv_v m H2 k x
theorem zv_hold {m : Nat} {H2 : Hp} {b g k : Nat} {hs : List Hd} (hb : m ≤ b) (h : H2[b - m]? = some (some ⟨43, g, hdC hs⟩)) : zv m H2 (k + 1) (.own 4 b g 0 hs.length) = hds hs := by
  have hl := hdC_len hs
  rw [zv]
  simp only [zz]
  rw [if_neg (by omega), h]
  simp only [true_and, Nat.zero_add, List.drop_zero]
  rw [if_pos (by omega), List.take_of_length_le (by omega), zv_cells m H2 k (hdC_v hs)]
theorem ro_cells {m : Nat} {H2 : Hp} {k : Nat} : ∀ {rs : List Rp} {qs : List (Nat × Nat)}, LayR m H2 rs qs → (roC rs qs).flatten.map (zv m H2 (k + 1)) = rpC rs
  | [], qs, h => by
    have : qs = [] := by have := h.lq; simpa using this
    subst this
    rfl
  | r :: rs, [], h => by have := h.lq; simp at this
  | r :: rs, p :: qs, h => by
    have h0 := h.at_ 0 r p rfl rfl
    have ih := ro_cells (k := k) (rs := rs) (qs := qs) ⟨by have := h.lq; simpa using this, fun j x y hx hy => h.at_ (j + 1) x y (by simpa using hx) (by simpa using hy)⟩
    unfold roC at ih ⊢
    rw [List.zipWith_cons_cons, List.flatten_cons, List.map_append, ih]
    simp only [ro1, List.map_cons, List.map_nil, zv_v, zv_hold h0.1 h0.2]
    rfl
theorem zv_ropes {m : Nat} {H2 : Hp} {b g k : Nat} {rs : List Rp} {qs : List (Nat × Nat)} (h : LayR m H2 rs qs) (hb : m ≤ b) (hh : H2[b - m]? = some (some ⟨39, g, (roC rs qs).flatten⟩)) : zv m H2 (k + 1 + 1) (.own 3 b g 0 rs.length) = rps rs := by
  have hl := roC_cells h.lq
  rw [zv]
  simp only [zz]
  rw [if_neg (by omega), hh]
  simp only [true_and, Nat.zero_add, List.drop_zero]
  rw [if_pos (by omega), List.take_of_length_le (by omega), ro_cells h]
theorem zv_blocks {m : Nat} {H2 : Hp} {b g k : Nat} {bs : List Bk} (hb : m ≤ b) (h : H2[b - m]? = some (some ⟨45, g, bkC bs⟩)) : zv m H2 (k + 1) (.own 2 b g 0 bs.length) = bks bs := by
  have hl := bkC_len bs
  rw [zv]
  simp only [zz]
  rw [if_neg (by omega), h]
  simp only [true_and, Nat.zero_add, List.drop_zero]
  rw [if_pos (by omega), List.take_of_length_le (by omega), zv_cells m H2 k (bkC_v bs)]
theorem roC_hs {rs : List Rp} {qs : List (Nat × Nat)} : ∀ {i : Nat} {r : Rp} {p : Nat × Nat}, rs[i]? = some r → qs[i]? = some p → (roC rs qs).flatten[i * 3 + 1]? = some (.own 4 p.1 p.2 0 r.hs.length) := by
  induction rs generalizing qs with
  | nil => intro i r p h; simp at h
  | cons x rs ih =>
    intro i r p hr hp
    cases qs with
    | nil => simp at hp
    | cons q qs =>
      cases i with
      | zero =>
        simp only [List.getElem?_cons_zero, Option.some.injEq] at hr hp
        subst hr hp
        rfl
      | succ i =>
        have := ih (qs := qs) (i := i) (r := r) (p := p) (by simpa using hr) (by simpa using hp)
        unfold roC at this ⊢
        rw [List.zipWith_cons_cons, List.flatten_cons]
        have e : (i + 1) * 3 + 1 = (i * 3 + 1) + (ro1 x q).length := by simp only [ro1, List.length_cons, List.length_nil]; omega
        rw [e, List.getElem?_append_right (by omega), Nat.add_sub_cancel]
        exact this
theorem take_one {l : List D} {i : Nat} {x : D} (h : l[i]? = some x) : (l.drop i).take 1 = [x] := by
  obtain ⟨h1, h2⟩ := List.getElem?_eq_some_iff.1 h
  rw [List.drop_eq_getElem_cons h1, h2]
  rfl
end Go.Proofs.YtpcakodemleoiaaGreat.T

