import Derived.Test.YtpcakodemleoiaaTVT
import Derived.Test.YtpcakodemleoiaaWE
set_option linter.all false
namespace Go.Proofs.Ytpcakodemleoiaa.T
open Go Go.RowKit Lin
set_option linter.unusedSimpArgs false

/-! A copy of a system, in blocks of its own. -/
abbrev ro1 (r : Rp) (p : Nat × Nat) : List D := [str r.nm, .own 4 p.1 p.2 0 r.hs.length, bool r.hl]
def roC (rs : List Rp) (ps : List (Nat × Nat)) : List (List D) := List.zipWith ro1 rs ps
structure CA where
  k : Nat
  g : Nat
  ps : List (Nat × Nat)
  R : List Blk
  t : Nat
structure CAok (s : Sy) (t0 : Nat) (x : CA) : Prop where
  k : x.k ≤ s.rs.length
  lp : x.ps.length = x.k
  lr : x.R.length = 2 * x.k
  at_ : ∀ (j : Nat) (r : Rp) (p : Nat × Nat), s.rs[j]? = some r → x.ps[j]? = some p → p.1 = 2 * j + 6 ∧ x.R[2 * j + 1]? = some ⟨46, p.2, hdC r.hs⟩
  new : ∀ bl ∈ x.R, t0 < bl.g ∧ ((∃ l, bl.cells = hdC l) ∨ ∃ r p, bl.cells = ro1 r p ∧ p.1 < 5 + x.R.length)
  g : t0 < x.g
  t : t0 ≤ x.t
theorem cells_bk (l : List Bk) : (bkC l).all isCell = true := by
  induction l with
  | nil => rfl
  | cons x r ih => simp only [bkC, List.flatMap_cons, List.all_append, Bool.and_eq_true] at ih ⊢; exact ⟨rfl, ih⟩
theorem cells_hd (l : List Hd) : (hdC l).all isCell = true := by
  induction l with
  | nil => rfl
  | cons x r ih => simp only [hdC, List.flatMap_cons, List.all_append, Bool.and_eq_true] at ih ⊢; exact ⟨rfl, ih⟩
theorem roC_len {rs : List Rp} {ps : List (Nat × Nat)} (h : ps.length = rs.length) : (roC rs ps).length = rs.length := by simp [roC, h]
theorem roC_cells {rs : List Rp} {ps : List (Nat × Nat)} (h : ps.length = rs.length) : (roC rs ps).flatten.length = rs.length * 3 := by
  rw [grp_len (sz := 3), roC_len h]
  intro x hx
  obtain ⟨i, hi⟩ := List.mem_iff_getElem?.1 hx
  unfold roC at hi
  rw [List.getElem?_zipWith] at hi
  cases h1 : rs[i]? <;> cases h2 : ps[i]? <;> rw [h1, h2] at hi <;> simp at hi
  subst hi
  rfl
theorem roC_push {rs : List Rp} {ps : List (Nat × Nat)} {k : Nat} {r : Rp} {p : Nat × Nat} (hl : ps.length = k) (hr : rs[k]? = some r) : roC (rs.take (k + 1)) (ps ++ [p]) = roC (rs.take k) ps ++ [ro1 r p] := by
  have hk := (List.getElem?_eq_some_iff.1 hr).1
  unfold roC
  rw [List.take_add_one, hr, Option.toList_some, List.zipWith_append (by simp; omega)]
  rfl
set_option maxHeartbeats 4000000 in
theorem copy0S (s : Sy) (ok : OkS s) (t : Nat) : ACall Try.prog 10 [syD s] [] t (fun d H' t' => ∃ (x : CA) (g0 g1 g2 g3 : Nat) (z : List D), CAok s t x ∧ x.k = s.rs.length ∧ t' = x.t ∧ d = .agg [.own 2 2 g2 0 s.bs.length, .own 3 4 x.g 0 s.rs.length] ∧ t < g0 ∧ t < g1 ∧ t < g2 ∧ t < g3 ∧ z = [.own 2 2 g2 0 s.bs.length, .own 3 4 x.g 0 s.rs.length] ∧
    H' = some ⟨25, g0, [bks s.bs, rps s.rs]⟩ :: some ⟨25, g1, z⟩ :: some ⟨35, g2, bkC s.bs⟩ :: some ⟨25, g3, z⟩ :: some ⟨39, x.g, (roC s.rs x.ps).flatten⟩ :: x.R.map some) := by
  refine ACall.enter tab_ok Try.func10 rfl rfl Try.ntmps10 (by simp) ?_
  simp only [enterTM]
  have hdr := rpC_div s.rs
  have hdb := bkC_div s.bs
  have hlb := bkC_len s.bs
  have b1 := ok.b1
  have b6 := ok.b6
  have r6 := ok.r6
  have hcb := cells_bk s.bs
  have hnb : (bkC s.bs = []) = False := by
    simp only [eq_iff_iff, iff_false]
    intro e
    rw [e] at hlb
    simp at hlb
    omega
  ((refine wqa ?_))
  ((refine wqb (F := _∧_∧_) ⟨hcb, hnb, hdb⟩ ?_))
  ((refine wqa ?_))
  refine AW.begin_cell 3 1 3 39 rfl rfl (by decide) ?_
  simp only [List.set_cons_succ, List.set_cons_zero, List.length_cons, List.length_nil, List.cons_append, List.nil_append, Nat.zero_add, Nat.reduceAdd]
  refine AW_mid (fun x : CA => ⟨[(2, .ptr 1 (t + 1 + 1) 0), (3, .ptr 3 (t + 1 + 1 + 1 + 1) 0)], some ⟨25, t + 1, [bks s.bs, rps s.rs]⟩ :: some ⟨25, t + 1 + 1, [.sl 2 [] true, .sl 3 [] true]⟩ :: some ⟨35, t + 1 + 1 + 1, bkC s.bs⟩ :: some ⟨25, t + 1 + 1 + 1 + 1, [.own 2 2 (t + 1 + 1 + 1) 0 s.bs.length, .own 3 4 x.g 0 s.rs.length]⟩ :: some ⟨39, x.g, (roC s.rs x.ps).flatten⟩ :: x.R.map some, x.t⟩) (fun x => CAok s t x ∧ x.k = s.rs.length) ?_ ?_
  · refine AW_block ?_
    refine AW_loop_w (fun x : CA => ⟨[(1, .ptr 0 (t + 1) 0), (2, .ptr 1 (t + 1 + 1) 0), (3, .ptr 3 (t + 1 + 1 + 1 + 1) 0), (4, int x.k)], some ⟨25, t + 1, [bks s.bs, rps s.rs]⟩ :: some ⟨25, t + 1 + 1, [.sl 2 [] true, .sl 3 [] true]⟩ :: some ⟨35, t + 1 + 1 + 1, bkC s.bs⟩ :: some ⟨25, t + 1 + 1 + 1 + 1, [.own 2 2 (t + 1 + 1 + 1) 0 s.bs.length, .own 3 4 x.g 0 x.k]⟩ :: some ⟨39, x.g, (roC (s.rs.take x.k) x.ps).flatten⟩ :: x.R.map some, x.t⟩) (fun x => s.rs.length - x.k) (fun x => CAok s t x) ⟨0, t + 1 + 1 + 1 + 1 + 1, [], [], t + 1 + 1 + 1 + 1 + 1⟩ ⟨Nat.zero_le _, rfl, rfl, fun j r p _ h => by simp at h, fun bl h => by simp at h, by show t < t + 1 + 1 + 1 + 1 + 1; omega, by show t ≤ t + 1 + 1 + 1 + 1 + 1; omega⟩ (by (simp (disch := omega) only [StLe, tmLe, hpLe_refl, hpLe, bl, bb, bt, zDs, zD, eqCells, simprocAttr, roC, List.take_zero, List.zipWith_nil_left])) ?_
    rintro ⟨k, g, ps, R, tt⟩ hx
    obtain ⟨hk, hlp, hlr, hat, hnew, hgt, htt⟩ := hx
    simp only at hk hlp hlr hat hnew hgt htt
    by_cases hlt : k < s.rs.length
    · obtain ⟨r, hr⟩ : ∃ y, s.rs[k]? = some y := ⟨_, List.getElem?_eq_getElem hlt⟩
      have hrm := List.mem_of_getElem? hr
      have hra := rpC_read s.rs k r hr
      obtain ⟨ho1, ho2, _⟩ := ok.holds r hrm
      have hch := cells_hd r.hs
      have hlh := hdC_len r.hs
      have hdh := hdC_div r.hs
      have hnh : (hdC r.hs = []) = False := by
        simp only [eq_iff_iff, iff_false]
        intro e
        rw [e] at hlh
        simp at hlh
        omega
      have hRl : (R.map some).length = 2 * k := by simp [hlr]
      have hg5 : ∀ x y : Option Blk, (R.map some ++ [x, y])[R.length]? = some x := fun x y => by rw [List.getElem?_append_right (by simp)]; simp
      have hg6 : ∀ x y : Option Blk, (R.map some ++ [x, y])[R.length + 1]? = some y := fun x y => by rw [List.getElem?_append_right (by simp)]; simp
      have hg5a : ∀ x : Option Blk, (R.map some ++ [x])[R.length]? = some x := fun x => by rw [List.getElem?_append_right (by simp)]; simp
      have hs5 : ∀ x y z : Option Blk, (R.map some ++ [x, y]).set R.length z = R.map some ++ [z, y] := fun x y z => by rw [List.set_append_right _ _ (by simp)]; simp
      have hrc : (roC (s.rs.take k) ps).flatten.length = k * 3 := by rw [roC_cells (by simp [hlp]; omega)]; simp; omega
      have hpush := roC_push (p := (R.length + 1 + 1 + 1 + 1 + 1 + 1, tt + 1 + 1)) hlp hr
      ((refine ggb0 (F := _∧_∧_) ⟨@Int.ofNat_lt, hlt, hdr⟩ ?_))
      ((repeat refine AW_seq ?_))
      refine AW_block ?_
      have hs5a : ∀ x z : Option Blk, (R.map some ++ [x]).set R.length z = R.map some ++ [z] := fun x z => by rw [List.set_append_right _ _ (by simp)]; simp
      ((refine wqb (F := _∧_∧_∧_∧_) ⟨hlt, hdr, hra, hg5a, hs5a⟩ ?_))
      ((refine wqb (F := _∧_∧_∧_∧_∧_∧_) ⟨hg5a, hch, hnh, hdh, hg5, hg6, hs5⟩ ?_))
      ((refine ggb0 (F := _∧_) ⟨hg5, hrc⟩ ?_))
      refine ⟨⟨k + 1, tt + 1 + 1 + 1, ps ++ [(R.length + 1 + 1 + 1 + 1 + 1 + 1, tt + 1 + 1)], R ++ [⟨39, tt + 1, ro1 r (R.length + 1 + 1 + 1 + 1 + 1 + 1, tt + 1 + 1)⟩, ⟨46, tt + 1 + 1, hdC r.hs⟩], tt + 1 + 1 + 1⟩, ⟨hlt, by simp [hlp], by simp [hlr]; omega, fun j q p hq hp => ?_, fun bl hbl => ?_, by show t < tt + 1 + 1 + 1; omega, by show t ≤ tt + 1 + 1 + 1; omega⟩, by show s.rs.length - (k + 1) < s.rs.length - k; omega, ?_⟩
      · by_cases hjk : j < k
        · rw [List.getElem?_append_left (by omega)] at hp
          obtain ⟨a1, a2⟩ := hat j q p hq hp
          exact ⟨a1, by rw [List.getElem?_append_left (by have := (List.getElem?_eq_some_iff.1 a2).1; omega)]; exact a2⟩
        · have hjl := (List.getElem?_eq_some_iff.1 hp).1
          have hje : j = k := by simp [hlp] at hjl; omega
          subst hje
          rw [List.getElem?_append_right (by omega), hlp, Nat.sub_self] at hp
          simp only [List.getElem?_cons_zero, Option.some.injEq] at hp
          subst hp
          rw [hr, Option.some.injEq] at hq
          subst hq
          refine ⟨by simp only; omega, ?_⟩
          rw [List.getElem?_append_right (by omega), show 2 * j + 1 - R.length = 1 by omega]
          rfl
      · simp only [List.length_append, List.length_cons, List.length_nil]
        rcases List.mem_append.1 hbl with h | h
        · obtain ⟨a1, a2⟩ := hnew bl h
          refine ⟨a1, a2.imp id ?_⟩
          rintro ⟨r', p', e, hp'⟩
          exact ⟨r', p', e, by omega⟩
        · rcases List.mem_cons.1 h with rfl | h
          · exact ⟨by simp only; omega, .inr ⟨r, _, rfl, by simp only; omega⟩⟩
          · simp only [List.mem_singleton] at h
            subst h
            exact ⟨by simp only; omega, .inl ⟨r.hs, rfl⟩⟩
      · simp only [hpush, List.flatten_append, List.flatten_cons, List.flatten_nil, List.append_nil, List.map_append, List.map_cons, List.map_nil]
        (simp (disch := omega) only [StLe, tmLe, hpLe_refl, hpLe, bl, bb, bt, zDs, zD, eqCells, simprocAttr])
    · have hke : k = s.rs.length := by omega
      subst hke
      rw [List.take_length]
      ((refine wqb (F := _∧_) ⟨@Int.lt_irrefl, hdr⟩ ?_))
      ((refine wia ?_))
      ((refine wxa ?_))
      exact ⟨⟨s.rs.length, g, ps, R, tt⟩, ⟨⟨hk, hlp, hlr, hat, hnew, hgt, htt⟩, rfl⟩, by (simp (disch := omega) only [StLe, tmLe, hpLe_refl, hpLe, bl, bb, bt, zDs, zD, eqCells, simprocAttr])⟩
  rintro ⟨k, g, ps, R, tt⟩ ⟨hx, hke⟩
  simp only at hx hke
  ((refine gga0 ?_))
  ((repeat refine AW_seq ?_); (refine wta ?_); simp (disch := omega) only [retQ, resD, oneD, bb, bt, zDs, zD, eqCells, simprocAttr, Try.results10])
  exact ⟨⟨k, g, ps, R, tt⟩, t + 1, t + 1 + 1, t + 1 + 1 + 1, t + 1 + 1 + 1 + 1, _, hx, hke, rfl, rfl, by omega, by omega, by omega, by omega, rfl, rfl⟩
end Go.Proofs.Ytpcakodemleoiaa.T

