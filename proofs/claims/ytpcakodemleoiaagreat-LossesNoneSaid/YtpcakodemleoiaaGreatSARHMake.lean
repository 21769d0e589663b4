import Derived.Test.YtpcakodemleoiaaGreatSARFVUH
import Derived.Test.YtpcakodemleoiaaGreatSALXACR
import Derived.Test.YtpcakodemleoiaaGreatSALFFW
import Derived.Test.YtpcakodemleoiaaGreatSCPYALN
import Derived.Test.YtpcakodemleoiaaGreatSLHFSKM
import Derived.Test.YtpcakodemleoiaaGreatSTJ
import Derived.Test.YtpcakodemleoiaaGreatSWA
import Derived.Test.YtpcakodemleoiaaGreatSWJK
import Derived.Test.YtpcakodemleoiaaGreatSSG
import Derived.Test.YtpcakodemleoiaaGreatRows
import Derived.Lib.SmallJoins
import Derived.ProofKit
set_option linter.all false
namespace Go.Proofs.YtpcakodemleoiaaGreat.T
open Go Go.RowKit Lin
end Go.Proofs.YtpcakodemleoiaaGreat.T

namespace Go.Proofs.YtpcakodemleoiaaGreat.T
open Go Go.RowKit Lin
theorem roC_clean : ∀ (rs : List Rp) (qs : List (Nat × Nat)), roC (rs.map cleanR) qs = roC rs qs
  | [], _ => rfl
  | _ :: _, [] => by simp [roC]
  | r :: rs, p :: qs => by
    have ih := roC_clean rs qs
    unfold roC at ih ⊢
    rw [List.map_cons, List.zipWith_cons_cons, List.zipWith_cons_cons, ih]
    simp only [ro1, cleanR, List.length_map]
def idH (hs : List Hd) (i k j : Nat) : List Hd := if j < i then hs.map cleanH else if j = i then clH hs k else hs
structure IdR (s : Sy) (qs : List (Nat × Nat)) (i k : Nat) (R : List Blk) : Prop where
  lr : R.length = 2 * s.rs.length
  at_ : ∀ (j : Nat) (r : Rp) (p : Nat × Nat), s.rs[j]? = some r → qs[j]? = some p → p.1 = 2 * j + 9 ∧ R[2 * j + 1]? = some ⟨43, p.2, hdC (idH r.hs i k j)⟩
set_option maxRecDepth 100000 in
set_option maxHeartbeats 16000000 in
theorem ideal_ref (s : Sy) (ok : OkS s) : PRet Tryz.prog 25 [syD s] (syD (cleanS s)) := by
  refine PRet.intro 4 fun t => ACall.enter tab_ok Tryz.func25 rfl rfl Tryz.ntmps25 (by simp) ?_
  simp only [enterTM]
  have o1 := refOf 1
  have hr6 := ok.r6
  ((refine wqa ?_))
  refine AW.reserve 1 ?_
  simp only [List.replicate_succ, List.replicate_zero, List.cons_append, List.nil_append]
  ((repeat refine AW_seq ?_); (refine AW_region_k tab_ok fun KR hKR => ?_))
  ((refine wra ?_))
  ((try with_reducible intro KR hKR); (first | refine awOps_nc fun KK hKK => ?_ | refine awOps_gc rfl fun KK hKK => ?_); simp (disch := omega) only [bb, bt, zDs, zD, eqCells, simprocAttr, goC, callO_fn, argsD, and_self])
  refine copyH ok rfl fun g2 gr qs R0 B0 B1 B3 t1 hcb ht1 => ?_
  simp only [List.length_cons, List.length_nil, List.cons_append, List.nil_append, Nat.zero_add, Nat.reduceAdd]
  (simp (disch := omega) only [bb, bt, zDs, zD, eqCells, simprocAttr, afterC]; refine hKK _ ?_; clear hKK KK)
  refine awOps_at 2 rfl rfl (by decide) fun KK hKK => ?_
  (simp (disch := omega) only [bb, bt, zDs, zD, eqCells, simprocAttr])
  refine hKK _ ?_; clear hKK KK
  ((refine wra ?_))
  ((refine wea ?_); (try clear hKR KR))
  ((refine gga0 ?_))
  have hlq := hcb.lq
  have hrc := roC_cells hlq
  have hR0 : IdR s qs 0 0 R0 := ⟨hcb.lr, fun j r p hr hp => by
    obtain ⟨a1, a2⟩ := hcb.at_ j r p hr hp
    refine ⟨by simp only [List.length_cons, List.length_nil] at a1; omega, ?_⟩
    rw [a2]
    unfold idH
    rw [if_neg (by omega)]
    split
    · rw [clH_zero]
    · rfl⟩
  have hcells : ∀ (i : Nat) (r : Rp) (p : Nat × Nat), s.rs[i]? = some r → qs[i]? = some p → (roC s.rs qs).flatten[i * 3 + 1]? = some (.own 4 p.1 p.2 0 r.hs.length) := fun i r p h1 h2 => roC_hs h1 h2
  generalize hRC : (roC s.rs qs).flatten = RC at *
  have hrd : RC.length / 3 = s.rs.length := by omega
  ((repeat refine AW_seq ?_))
  refine AW_mid (fun x : List Blk × Nat => ⟨[(2, .ptr 1 (t + 1 + 1) 0), (3, .ptr 2 (t1 + 1) 0)], none :: some ⟨25, t + 1 + 1, [.sl 2 [] true, .sl 3 [] true]⟩ :: some ⟨25, t1 + 1, [.own 2 5 g2 0 s.bs.length, .own 3 7 gr 0 s.rs.length]⟩ :: none :: none :: some ⟨45, g2, bkC s.bs⟩ :: none :: some ⟨39, gr, RC⟩ :: x.1.map some, x.2⟩) (fun x => IdR s qs s.rs.length 0 x.1) ?_ ?_
  · refine AW_block ?_
    refine AW_loop_w (fun x : Nat × List Blk × Nat => ⟨[(2, .ptr 1 (t + 1 + 1) 0), (3, .ptr 2 (t1 + 1) 0), (4, int x.1)], none :: some ⟨25, t + 1 + 1, [.sl 2 [] true, .sl 3 [] true]⟩ :: some ⟨25, t1 + 1, [.own 2 5 g2 0 s.bs.length, .own 3 7 gr 0 s.rs.length]⟩ :: none :: none :: some ⟨45, g2, bkC s.bs⟩ :: none :: some ⟨39, gr, RC⟩ :: x.2.1.map some, x.2.2⟩) (fun x => s.rs.length - x.1) (fun x => x.1 ≤ s.rs.length ∧ IdR s qs x.1 0 x.2.1) (0, R0, t1 + 1) ⟨Nat.zero_le _, hR0⟩ (by (simp (disch := omega) only [StLe, tmLe, hpLe_refl, hpLe, bl, bb, bt, zDs, zD, eqCells, simprocAttr])) ?_
    rintro ⟨i, R1, tt⟩ ⟨hi, hR1⟩
    simp only at hi hR1
    by_cases hlt : i < s.rs.length
    · obtain ⟨r, hr⟩ : ∃ y, s.rs[i]? = some y := ⟨_, List.getElem?_eq_getElem hlt⟩
      obtain ⟨p, hp⟩ : ∃ y, qs[i]? = some y := ⟨_, List.getElem?_eq_getElem (by omega)⟩
      have hc1 := hcells i r p hr hp
      have hc2 := take_one hc1
      obtain ⟨p1, p2⟩ := p
      simp only at hc1 hc2
      have ho2 := (ok.holds r (List.mem_of_getElem? hr)).2.1
      ((refine ggb0 (F := _∧_∧_) ⟨@Int.ofNat_lt, hlt, hrd⟩ ?_))
      ((repeat refine AW_seq ?_))
      refine AW_block ?_
      ((refine gga0 ?_))
      refine AW_block ?_
      refine AW_loop_w (fun x : Nat × List Blk × Nat => ⟨[(2, .ptr 1 (t + 1 + 1) 0), (3, .ptr 2 (t1 + 1) 0), (4, int i), (5, int x.1)], none :: some ⟨25, t + 1 + 1, [.sl 2 [] true, .sl 3 [] true]⟩ :: some ⟨25, t1 + 1, [.own 2 5 g2 0 s.bs.length, .own 3 7 gr 0 s.rs.length]⟩ :: none :: none :: some ⟨45, g2, bkC s.bs⟩ :: none :: some ⟨39, gr, RC⟩ :: x.2.1.map some, x.2.2⟩) (fun x => r.hs.length - x.1) (fun x => x.1 ≤ r.hs.length ∧ IdR s qs i x.1 x.2.1) (0, R1, tt) ⟨Nat.zero_le _, hR1⟩ (by (simp (disch := omega) only [StLe, tmLe, hpLe_refl, hpLe, bl, bb, bt, zDs, zD, eqCells, simprocAttr])) ?_
      rintro ⟨k, R, t2⟩ ⟨hk, hR⟩
      simp only at hk hR
      obtain ⟨p9, pR⟩ := hR.at_ i r (p1, p2) hr hp
      have eid : idH r.hs i k i = clH r.hs k := by unfold idH; rw [if_neg (by omega), if_pos rfl]
      rw [eid] at pR
      simp only at p9 pR
      have hget : ∀ X0 X1 X2 X3 X4 X5 X6 X7 : Option Blk, (X0 :: X1 :: X2 :: X3 :: X4 :: X5 :: X6 :: X7 :: R.map some)[p1]? = some (some ⟨43, p2, hdC (clH r.hs k)⟩) := fun X0 X1 X2 X3 X4 X5 X6 X7 => by
        rw [p9, show 2 * i + 9 = (2 * i + 1) + 1 + 1 + 1 + 1 + 1 + 1 + 1 + 1 by omega]
        simp only [List.getElem?_cons_succ, List.getElem?_map, pR, Option.map_some]
      by_cases hlk : k < r.hs.length
      · obtain ⟨h, hh⟩ : ∃ y, r.hs[k]? = some y := ⟨_, List.getElem?_eq_getElem hlk⟩
        have hlR := hR.lr
        have hl4 := hdC_len (clH r.hs k)
        rw [clH_len _ _ hk] at hl4
        have hs4 := hdC_ls (clH_at hh) 1 1
        have hn4 : hdC ((clH r.hs k).set k ⟨h.b, h.p, 1, 1⟩) = hdC (clH r.hs (k + 1)) := by rw [← clH_set hh]; rfl
        rw [hn4] at hs4
        have hle4 : k * 4 + 4 ≤ r.hs.length * 4 := by omega
        have hset : ∀ (X0 X1 X2 X3 X4 X5 X6 X7 : Option Blk) (Y : Blk), (X0 :: X1 :: X2 :: X3 :: X4 :: X5 :: X6 :: X7 :: R.map some).set p1 (some Y) = X0 :: X1 :: X2 :: X3 :: X4 :: X5 :: X6 :: X7 :: (R.set (2 * i + 1) Y).map some := fun X0 X1 X2 X3 X4 X5 X6 X7 Y => by
          rw [p9, show 2 * i + 9 = (2 * i + 1) + 1 + 1 + 1 + 1 + 1 + 1 + 1 + 1 by omega]
          simp only [List.set_cons_succ, List.map_set]
        have hne : (p1 = R.length + 1 + 1 + 1 + 1 + 1 + 1 + 1 + 1) = False := by simp only [eq_iff_iff, iff_false]; omega
        have hnx : IdR s qs i (k + 1) (R.set (2 * i + 1) ⟨43, p2, hdC (clH r.hs (k + 1))⟩) := by
          refine ⟨by rw [List.length_set]; exact hlR, fun j x q hx hq => ?_⟩
          obtain ⟨a1, a2⟩ := hR.at_ j x q hx hq
          refine ⟨a1, ?_⟩
          by_cases e : j = i
          · subst e
            rw [hr, Option.some.injEq] at hx
            rw [hp, Option.some.injEq] at hq
            subst hx hq
            rw [List.getElem?_set_self (by omega)]
            unfold idH
            rw [if_neg (by omega), if_pos rfl]
          · rw [List.getElem?_set_ne (by omega), a2]
            unfold idH
            rw [if_neg e, if_neg e]
        ((refine ggb0 (F := _∧_∧_∧_∧_∧_∧_) ⟨@Int.ofNat_lt, hlk, hlt, hrd, hc1, hc2, hget⟩ ?_))
        ((repeat refine AW_seq ?_))
        refine AW_block ?_
        ((repeat refine AW_seq ?_); (refine AW_drawn_k tab_ok follows_mixed 0 fun KR hKR => ?_); simp only [List.replicate_succ, List.replicate_zero, List.append_nil, List.nil_append, List.cons_append, List.length_cons, List.length_nil, Nat.reduceAdd])
        ((refine wdb (F := _∧_∧_∧_∧_∧_∧_∧_∧_∧_∧_) ⟨hlk, hlt, hrd, hc1, hc2, hget, hset, hne, hl4, hs4, hle4⟩ ?_))
        ((first | refine awD_nc fun KK hKK => ?_ | refine awD_gc rfl fun KK hKK => ?_); simp (disch := omega) only [bb, bt, zDs, zD, eqCells, simprocAttr, goCDS, callDS_fn, argsZ, argsD, ufa, uf]; refine PGive.ret (o1) ?_; simp (disch := omega) only [bb, bt, zDs, zD, eqCells, simprocAttr, afterDS]; refine hKK _ _ _ ?_; clear hKK KK)
        ((refine wdb (F := _∧_∧_∧_∧_∧_∧_∧_∧_∧_∧_) ⟨hlk, hlt, hrd, hc1, hc2, hget, hset, hne, hl4, hs4, hle4⟩ ?_))
        ((refine awD_nil ?_); simp only [List.reverse_cons, List.reverse_nil, List.nil_append, List.cons_append]; (refine hKR _ _ (by exact anyB_map (clamp 0) (by kernel_rfl)) ?_); (try clear hKR KR); (repeat (with_reducible first | refine q1 ?_ | refine q2 ?_ | refine q3 ?_ | refine q4 ?_ | refine q5 ?_ | refine q6 ?_ | (refine q7 ?_ ?_; (focus (with_unfolding_all rfl))))))
        ((refine gga0 ?_))
        refine ⟨(k + 1, R.set (2 * i + 1) ⟨43, p2, hdC (clH r.hs (k + 1))⟩, t2 + 1), ⟨hlk, hnx⟩, by show r.hs.length - (k + 1) < r.hs.length - k; omega, ?_⟩
        (simp (disch := omega) only [StLe, tmLe, hpLe_refl, hpLe, bl, bb, bt, zDs, zD, eqCells, simprocAttr])
      · have hke : k = r.hs.length := by omega
        subst hke
        ((refine wqb (F := _∧_∧_∧_∧_∧_) ⟨@Int.lt_irrefl, hlt, hrd, hc1, hc2, hget⟩ ?_))
        ((refine wia ?_))
        ((refine wxa ?_))
        have hnx : IdR s qs (i + 1) 0 R := ⟨hR.lr, fun j x q hx hq => by
          obtain ⟨a1, a2⟩ := hR.at_ j x q hx hq
          refine ⟨a1, ?_⟩
          rw [a2]
          unfold idH
          by_cases e1 : j < i
          · rw [if_pos e1, if_pos (by omega)]
          · rw [if_neg e1]
            by_cases e2 : j = i
            · subst e2
              rw [hr, Option.some.injEq] at hx
              subst hx
              rw [if_pos rfl, if_pos (by omega), clH_end]
            · rw [if_neg e2, if_neg (by omega)]
              split
              · rw [clH_zero]
              · rfl⟩
        ((refine gga0 ?_))
        refine ⟨(i + 1, R, t2), ⟨hlt, hnx⟩, by show s.rs.length - (i + 1) < s.rs.length - i; omega, ?_⟩
        (simp (disch := omega) only [StLe, tmLe, hpLe_refl, hpLe, bl, bb, bt, zDs, zD, eqCells, simprocAttr])
    · have hie : i = s.rs.length := by omega
      subst hie
      ((refine wqb (F := _∧_) ⟨@Int.lt_irrefl, hrd⟩ ?_))
      ((refine wia ?_))
      ((refine wxa ?_))
      exact ⟨(R1, tt), hR1, by (simp (disch := omega) only [StLe, tmLe, hpLe_refl, hpLe, bl, bb, bt, zDs, zD, eqCells, simprocAttr])⟩
  rintro ⟨R, tt⟩ hR
  simp only at hR
  have hlay : LayR 3 (none :: none :: some ⟨45, g2, bkC s.bs⟩ :: none :: some ⟨39, gr, RC⟩ :: R.map some) (s.rs.map cleanR) qs := ⟨by rw [List.length_map]; exact hlq, fun j x q hx hq => by
    rw [List.getElem?_map] at hx
    cases e : s.rs[j]? with
    | none => rw [e] at hx; simp at hx
    | some y =>
      rw [e] at hx
      simp only [Option.map_some, Option.some.injEq] at hx
      subst hx
      obtain ⟨a1, a2⟩ := hR.at_ j y q e hq
      refine ⟨by omega, ?_⟩
      rw [a1, show 2 * j + 9 - 3 = (2 * j + 1) + 1 + 1 + 1 + 1 + 1 by omega]
      simp only [List.getElem?_cons_succ, List.getElem?_map, a2, Option.map_some]
      unfold idH
      rw [if_pos (List.getElem?_eq_some_iff.1 e).1]
      rfl⟩
  have z1 := zv_blocks (k := 2) (m := 3) (H2 := none :: none :: some ⟨45, g2, bkC s.bs⟩ :: none :: some ⟨39, gr, RC⟩ :: R.map some) (b := 5) (g := g2) (bs := s.bs) (by decide) rfl
  have z2 := zv_ropes (k := 1) (b := 7) (g := gr) hlay (by decide) (by rw [roC_clean, hRC]; rfl)
  rw [List.length_map] at z2
  refine AW.tail 3 [none, some ⟨25, t + 1 + 1, [.sl 2 [] true, .sl 3 [] true]⟩, some ⟨25, t1 + 1, [.own 2 5 g2 0 s.bs.length, .own 3 7 gr 0 s.rs.length]⟩] (none :: none :: some ⟨45, g2, bkC s.bs⟩ :: none :: some ⟨39, gr, RC⟩ :: R.map some) rfl ?_
  simp only [zT, zH, List.map_cons, List.map_nil, Option.map_some, Option.map_none, List.length_nil, List.length_cons, Nat.zero_add, Nat.reduceAdd, z1, z2]
  have p1 : ∀ H, zv 3 H 3 (.ptr 1 (t + 1 + 1) 0) = .ptr 1 (t + 1 + 1) 0 := fun H => by simp [zv, zz]
  have p2 : ∀ H, zv 3 H 3 (.ptr 2 (t1 + 1) 0) = .ptr 2 (t1 + 1) 0 := fun H => by simp [zv, zz]
  have p3 : ∀ H sz, zv 3 H 3 (.sl sz [] true) = .sl sz [] true := fun H sz => by simp [zv, zz, zzL]
  simp only [p1, p2, p3]
  ((refine gga0 ?_))
  ((repeat refine AW_seq ?_); (refine wta ?_); simp (disch := omega) only [retQ, resD, oneD, bb, bt, zDs, zD, eqCells, simprocAttr, Tryz.results25])
  exact rsv_tidy _ _ (by simp only [tidyD, tidyL, tidy_bk, tidy_rp, Bool.not_false, Bool.and_self])
end Go.Proofs.YtpcakodemleoiaaGreat.T

namespace Go.Proofs.YtpcakodemleoiaaGreat.T
open Go Go.RowKit Lin
end Go.Proofs.YtpcakodemleoiaaGreat.T

namespace Go.Proofs.YtpcakodemleoiaaGreat.T
open Go Go.RowKit Lin
theorem ready14 (s : Sy) : PRet Tryz.prog 10 [syD s] (bool (smallS s && validS s)) := by
  refine PRet.intro 1 fun t => ACall.enter tab_ok Tryz.func10 rfl rfl Tryz.ntmps10 (by simp) ?_
  simp only [enterTM]
  have hS := small_ref s
  cases hs : smallS s
  · rw [hs] at hS
    ((refine gga1 hS ?_))
    ((repeat refine AW_seq ?_); (refine wta ?_); simp (disch := omega) only [retQ, resD, oneD, rsv, rs, rsL, rsL_eq_map, List.map_map, bb, bt, zDs, zD, eqCells, simprocAttr, Tryz.results10])
  rw [hs] at hS
  have hV := valid_ref s (small_fits hs)
  ((refine gga2 hS hV ?_))
  ((repeat refine AW_seq ?_); (refine wta ?_); simp (disch := omega) only [retQ, resD, oneD, rsv, rs, rsL, rsL_eq_map, List.map_map, bb, bt, zDs, zD, eqCells, simprocAttr, Tryz.results10])
end Go.Proofs.YtpcakodemleoiaaGreat.T

section
namespace Go.Proofs.YtpcakodemleoiaaGreat.T
open Go Go.RowKit Go.ChangeShapes
theorem slice_one {P : Program} {w : World} {r : Reach} {base : Nat} {t e : TypeId} {v : Value} (ht : P.underlying t = some (.slice e)) (h : Value.okWide P w r base t v) : v.cells = #[v] := by
  simp only [Value.okWide, ht, Cell.okWide] at h
  cases v <;> simp_all [Value.cells, Cell.ok]
theorem ints_of : ∀ {rows : List (List D)}, (∀ r ∈ rows, (∃ n, r = [int n] ∧ (Lit.int .i64 n).wf = true) ∧ r.length = 1) → ∃ l : List Int, rows.flatten = l.map int ∧ ∀ x ∈ l, (Lit.int .i64 x).wf = true
  | [], _ => ⟨[], rfl, by simp⟩
  | r :: rows, h => by
    obtain ⟨⟨n, rfl, hw⟩, _⟩ := h r (by simp)
    obtain ⟨l, e, hl⟩ := ints_of fun x hx => h x (List.mem_cons_of_mem _ hx)
    exact ⟨n :: l, by simp [e], fun x hx => by
      rcases List.mem_cons.1 hx with rfl | hx
      · exact hw
      · exact hl x hx⟩
theorem rows_of : ∀ {rows : List (List D)}, (∀ r ∈ rows, (∃ l : List Int, r = [ints l] ∧ ∀ x ∈ l, (Lit.int .i64 x).wf = true) ∧ r.length = 1) → ∃ m : List (List Int), rows.flatten = m.map ints ∧ ∀ l ∈ m, ∀ x ∈ l, (Lit.int .i64 x).wf = true
  | [], _ => ⟨[], rfl, by simp⟩
  | r :: rows, h => by
    obtain ⟨⟨n, rfl, hw⟩, _⟩ := h r (by simp)
    obtain ⟨l, e, hl⟩ := rows_of fun x hx => h x (List.mem_cons_of_mem _ hx)
    exact ⟨n :: l, by simp [e], fun x hx => by
      rcases List.mem_cons.1 hx with rfl | hx
      · exact hw
      · exact hl x hx⟩
theorem u8_of {x : Int} (h : (Lit.int .u8 x).wf = true) : 0 ≤ x ∧ x < 256 := by
  rw [Lit.wf, Bool.and_eq_true] at h
  have h1 := of_decide_eq_true h.1
  have h2 := of_decide_eq_true h.2
  have e1 : IntKind.u8.min = 0 := rfl
  have e2 : IntKind.u8.max = 255 := rfl
  rw [e1] at h1
  rw [e2] at h2
  exact ⟨h1, by omega⟩
theorem cellsInt : Tryz.prog.cellsOf 3 = 1 := by kernel_rfl
theorem cellsInts : Tryz.prog.cellsOf 126 = 1 := by kernel_rfl
section
variable {H : Type} {enc : TypeId × Value → H} {W : World}
theorem opn_ints : Opn enc Tryz.prog W 126 fun ds => ∃ l : List Int, ds = [ints l] ∧ ∀ x ∈ l, (Lit.int .i64 x).wf = true :=
  (Opn.slice Tryz.underlying126 cellsInt (by decide) (Opn.int Tryz.underlying3)).mono fun ds ⟨rows, e, h, _⟩ => by
    obtain ⟨l, e2, hl⟩ := ints_of h
    exact ⟨l, by rw [e, e2], hl⟩
theorem opn_mat : Opn enc Tryz.prog W 123 fun ds => ∃ m : List (List Int), ds = [mat m] ∧ ∀ l ∈ m, ∀ x ∈ l, (Lit.int .i64 x).wf = true :=
  (Opn.slice Tryz.underlying123 cellsInts (by decide) opn_ints).mono fun ds ⟨rows, e, h, _⟩ => by
    obtain ⟨l, e2, hl⟩ := rows_of h
    exact ⟨l, by rw [e, e2], hl⟩
end
end Go.Proofs.YtpcakodemleoiaaGreat.T
end
section
namespace Go.Proofs.YtpcakodemleoiaaGreat.T
open Go Go.RowKit Go.ChangeShapes
theorem fracs_of : ∀ {rows : List (List D)}, (∀ r ∈ rows, (∃ a b, r = [int a, int b]) ∧ r.length = 2) → ∃ l : List (Int × Int), rows.flatten = frC l
  | [], _ => ⟨[], rfl⟩
  | r :: rows, h => by
    obtain ⟨⟨a, b, rfl⟩, _⟩ := h r (by simp)
    obtain ⟨l, e⟩ := fracs_of fun x hx => h x (List.mem_cons_of_mem _ hx)
    exact ⟨(a, b) :: l, by simp [e, frC]⟩
theorem cellsFrac : Tryz.prog.cellsOf 33 = 2 := by kernel_rfl
section
variable {H : Type} {enc : TypeId × Value → H} {W : World}
theorem opn_frac : Opn enc Tryz.prog W 33 fun ds => ∃ a b, ds = [int a, int b] :=
  (Opn.struct Tryz.underlying33 ⟨_, _, rfl, rfl, Opn.int Tryz.underlying3, _, _, rfl, by simp only [cellsInt], Opn.int Tryz.underlying3, rfl⟩ (by kernel_rfl)).mono fun ds h => by
    obtain ⟨d1, r1, rfl, ⟨a, rfl, _⟩, d2, r2, rfl, ⟨b, rfl, _⟩, rfl⟩ := h
    exact ⟨a, b, rfl⟩
theorem opn_fracs : Opn enc Tryz.prog W 28 fun ds => ∃ l : List (Int × Int), ds = [frs l] ∧ True :=
  (Opn.slice Tryz.underlying28 cellsFrac (by decide) opn_frac).mono fun ds ⟨rows, e, h, _⟩ => by
    obtain ⟨l, e2⟩ := fracs_of h
    exact ⟨l, by rw [e, e2], trivial⟩
end
end Go.Proofs.YtpcakodemleoiaaGreat.T
end
section
namespace Go.Proofs.YtpcakodemleoiaaGreat.T
open Go Go.RowKit Go.ChangeShapes
theorem flats_of {α : Type} {f : α → List D} {n : Nat} : ∀ {rows : List (List D)}, (∀ r ∈ rows, (∃ x, r = f x) ∧ r.length = n) → ∃ l : List α, rows.flatten = l.flatMap f
  | [], _ => ⟨[], rfl⟩
  | r :: rows, h => by
    obtain ⟨⟨x, rfl⟩, _⟩ := h r (by simp)
    obtain ⟨l, e⟩ := flats_of fun x hx => h x (List.mem_cons_of_mem _ hx)
    exact ⟨x :: l, by simp [e]⟩
theorem cellsHold : Tryz.prog.cellsOf 43 = 4 := by kernel_rfl
theorem cellsRope : Tryz.prog.cellsOf 39 = 3 := by kernel_rfl
theorem cellsBlock : Tryz.prog.cellsOf 45 = 2 := by kernel_rfl
theorem agg_of {P : Program} {w : World} {r : Reach} {base : Nat} {t : TypeId} {fs : Array Field} {v : Value} (ht : P.underlying t = some (.struct fs)) (h : Value.okWide P w r base t v) : ∃ cs, v = .agg cs := by
  simp only [Value.okWide, ht] at h
  obtain ⟨cs, e, _⟩ := h
  exact ⟨cs, e⟩
section
variable {H : Type} {enc : TypeId × Value → H} {W : World}
theorem opn_hold : Opn enc Tryz.prog W 43 fun ds => ∃ h : Hd, ds = hd1 h :=
  (Opn.struct Tryz.underlying43 ⟨_, _, rfl, (by kernel_rfl), Opn.str Tryz.underlying9, _, _, rfl, (by kernel_rfl), Opn.int Tryz.underlying3, _, _, rfl, (by kernel_rfl), opn_frac, rfl⟩ (by kernel_rfl)).mono fun ds h => by
    obtain ⟨d1, r1, rfl, ⟨s, rfl, _⟩, d2, r2, rfl, ⟨p, rfl, _⟩, d3, r3, rfl, ⟨a, b, rfl⟩, rfl⟩ := h
    exact ⟨⟨s, p, a, b⟩, rfl⟩
theorem opn_holds : Opn enc Tryz.prog W 37 fun ds => ∃ l : List Hd, ds = [hds l] :=
  (Opn.slice Tryz.underlying37 cellsHold (by decide) opn_hold).mono fun ds ⟨rows, e, h, _⟩ => by
    obtain ⟨l, e2⟩ := flats_of h
    exact ⟨l, by rw [e, e2]; rfl⟩
theorem opn_rope : Opn enc Tryz.prog W 39 fun ds => ∃ r : Rp, ds = rp1 r :=
  (Opn.struct Tryz.underlying39 ⟨_, _, rfl, (by kernel_rfl), Opn.str Tryz.underlying9, _, _, rfl, (by kernel_rfl), opn_holds, _, _, rfl, (by kernel_rfl), Opn.bool Tryz.underlying4, rfl⟩ (by kernel_rfl)).mono fun ds h => by
    obtain ⟨d1, r1, rfl, ⟨s, rfl, _⟩, d2, r2, rfl, ⟨l, rfl⟩, d3, r3, rfl, ⟨b, rfl⟩, rfl⟩ := h
    exact ⟨⟨s, l, b⟩, rfl⟩
theorem opn_ropes : Opn enc Tryz.prog W 23 fun ds => ∃ l : List Rp, ds = [rps l] :=
  (Opn.slice Tryz.underlying23 cellsRope (by decide) opn_rope).mono fun ds ⟨rows, e, h, _⟩ => by
    obtain ⟨l, e2⟩ := flats_of h
    exact ⟨l, by rw [e, e2]; rfl⟩
theorem opn_block : Opn enc Tryz.prog W 45 fun ds => ∃ b : Bk, ds = bk1 b :=
  (Opn.struct Tryz.underlying45 ⟨_, _, rfl, (by kernel_rfl), Opn.str Tryz.underlying9, _, _, rfl, (by kernel_rfl), Opn.int Tryz.underlying3, rfl⟩ (by kernel_rfl)).mono fun ds h => by
    obtain ⟨d1, r1, rfl, ⟨s, rfl, _⟩, d2, r2, rfl, ⟨p, rfl, _⟩, rfl⟩ := h
    exact ⟨⟨s, p⟩, rfl⟩
theorem opn_blocks : Opn enc Tryz.prog W 22 fun ds => ∃ l : List Bk, ds = [bks l] :=
  (Opn.slice Tryz.underlying22 cellsBlock (by decide) opn_block).mono fun ds ⟨rows, e, h, _⟩ => by
    obtain ⟨l, e2⟩ := flats_of h
    exact ⟨l, by rw [e, e2]; rfl⟩
theorem opn_sys : Opn enc Tryz.prog W 25 fun ds => ∃ s : Sy, ds = [bks s.bs, rps s.rs] :=
  (Opn.struct Tryz.underlying25 ⟨_, _, rfl, (by kernel_rfl), opn_blocks, _, _, rfl, (by kernel_rfl), opn_ropes, rfl⟩ (by kernel_rfl)).mono fun ds h => by
    obtain ⟨d1, r1, rfl, ⟨a, rfl⟩, d2, r2, rfl, ⟨b, rfl⟩, rfl⟩ := h
    exact ⟨⟨a, b⟩, rfl⟩
theorem arg_sys {v : Value} {base : Nat} {r : Reach} {d : DataW H} {p : List MemPlace} (h : DataW.Trod enc Tryz.prog W 0 (fun _ => true) true 25 v d p) (hv : Value.okWide Tryz.prog W r base 25 v) : ∃ s : Sy, Rep (memOf W) [] (syD s) v := by
  obtain ⟨cs, rfl⟩ : ∃ cs, v = .agg cs := by
    simp only [Value.okWide, Tryz.underlying25] at hv
    obtain ⟨cs, e, _⟩ := hv
    exact ⟨cs, e⟩
  obtain ⟨ds, hr, s, rfl⟩ := arg_agg opn_sys h
  exact ⟨s, hr⟩
theorem cellsSys : Tryz.prog.cellsOf 25 = 2 := by kernel_rfl
theorem arg_rope {v : Value} {base : Nat} {r : Reach} {d : DataW H} {p : List MemPlace} (h : DataW.Trod enc Tryz.prog W 0 (fun _ => true) true 39 v d p) (hv : Value.okWide Tryz.prog W r base 39 v) : ∃ s : Rp, Rep (memOf W) [] (.agg (rp1 s)) v := by
  obtain ⟨cs, rfl⟩ : ∃ cs, v = .agg cs := by
    simp only [Value.okWide, Tryz.underlying39] at hv
    obtain ⟨cs, e, _⟩ := hv
    exact ⟨cs, e⟩
  obtain ⟨ds, hr, s, rfl⟩ := arg_agg opn_rope h
  exact ⟨s, hr⟩
theorem arg_frac {v : Value} {base : Nat} {r : Reach} {d : DataW H} {p : List MemPlace} (h : DataW.Trod enc Tryz.prog W 0 (fun _ => true) true 33 v d p) (hv : Value.okWide Tryz.prog W r base 33 v) : ∃ s : Int × Int, Rep (memOf W) [] (frD s) v := by
  obtain ⟨cs, rfl⟩ : ∃ cs, v = .agg cs := by
    simp only [Value.okWide, Tryz.underlying33] at hv
    obtain ⟨cs, e, _⟩ := hv
    exact ⟨cs, e⟩
  obtain ⟨ds, hr, a, b, rfl⟩ := arg_agg opn_frac h
  exact ⟨(a, b), hr⟩
abbrev u16s (l : List Int) : D := .sl 1 (l.map fun n => .v (.int .u16 n)) false
theorem u16_of {x : Int} (h : (Lit.int .u16 x).wf = true) : 0 ≤ x ∧ x < 65536 := by
  rw [Lit.wf, Bool.and_eq_true] at h
  have h1 := of_decide_eq_true h.1
  have h2 := of_decide_eq_true h.2
  have e1 : IntKind.u16.min = 0 := rfl
  have e2 : IntKind.u16.max = 65535 := rfl
  rw [e1] at h1
  rw [e2] at h2
  exact ⟨h1, by omega⟩
theorem u16_rows : ∀ {rows : List (List D)}, (∀ r ∈ rows, (∃ n, r = [.v (.int .u16 n)] ∧ (Lit.int .u16 n).wf = true) ∧ r.length = 1) → ∃ l : List Int, rows.flatten = l.map (fun n => .v (.int .u16 n)) ∧ ∀ x ∈ l, (Lit.int .u16 x).wf = true
  | [], _ => ⟨[], rfl, by simp⟩
  | r :: rows, h => by
    obtain ⟨⟨n, rfl, hw⟩, _⟩ := h r (by simp)
    obtain ⟨l, e, hl⟩ := u16_rows fun x hx => h x (List.mem_cons_of_mem _ hx)
    exact ⟨n :: l, by simp [e], fun x hx => by
      rcases List.mem_cons.1 hx with rfl | hx
      · exact hw
      · exact hl x hx⟩
theorem u64_of {x : Int} (h : (Lit.int .u64 x).wf = true) : 0 ≤ x ∧ x ≤ 18446744073709551615 := by
  rw [Lit.wf, Bool.and_eq_true] at h
  have h1 := of_decide_eq_true h.1
  have h2 := of_decide_eq_true h.2
  have e1 : IntKind.u64.min = 0 := rfl
  have e2 : IntKind.u64.max = 18446744073709551615 := rfl
  rw [e1] at h1
  rw [e2] at h2
  exact ⟨h1, h2⟩
end
end Go.Proofs.YtpcakodemleoiaaGreat.T
end

/- The signs of the head's word (printed by mkmake.py): the kernel need not take a long string apart. -/
namespace Go.Proofs.YtpcakodemleoiaaGreat.T
open Go Go.RowKit Go.Joins
def wordSigns0 : List Char := [104,97,114,110,101,115,115,32,51,53,55,101,48,99,48,48,56,97,57,102,97,57,51,52,50,51,56,53,102,97,97,48,101,49,52,101,55,55,97,98,99,99,101,98,100,99,54,56,101,101,53,48,49,100,97,49,54,50,51,101,50,50,98,54].map Char.ofNat
def wordSigns1 : List Char := [55,54,48,100,102,100,99,97,32,99,117,116,32,97,116,32,108,111,102,116,98,108,111,99,107,47,108,111,102,116,98,108,111,99,107,108,97,119,49,52,46,76,111,115,115,101,115,67,97,114,114,121,32,108,111,102,116,98,108,111,99,107,47,108].map Char.ofNat
def wordSigns2 : List Char := [111,102,116,98,108,111,99,107,108,97,119,49,52,46,76,111,115,115,101,115,70,111,114,99,101,115,32,108,111,102,116,98,108,111,99,107,47,108,111,102,116,98,108,111,99,107,108,97,119,49,52,46,76,111,115,115,101,115,79,114,100,101,114,32].map Char.ofNat
def wordSigns3 : List Char := [108,111,102,116,98,108,111,99,107,47,108,111,102,116,98,108,111,99,107,108,97,119,49,52,46,76,111,115,115,101,115,72,111,108,100,115,32,108,111,102,116,98,108,111,99,107,47,108,111,102,116,98,108,111,99,107,108,97,119,49,52,46,76,111].map Char.ofNat
def wordSigns4 : List Char := [115,115,101,115,69,120,97,99,116,32,108,111,102,116,98,108,111,99,107,47,108,111,102,116,98,108,111,99,107,108,97,119,49,52,46,76,111,115,115,101,115,78,111,110,101].map Char.ofNat
def wordSigns : List Char := wordSigns0 ++ wordSigns1 ++ wordSigns2 ++ wordSigns3 ++ wordSigns4
theorem word_is : Tryz.prog.initOrder.toList = wordSigns := by
  have h : Tryz.prog.initOrder = String.ofList wordSigns := by kernel_rfl
  rw [h, String.toList_ofList]
theorem word_cut : behindMainWord (wordsSigns wordSigns) = "cut".toList :: (behindMainWord (wordsSigns wordSigns)).tail := by kernel_rfl
theorem make_of (P : Program) (l : List Char) (h : P.initOrder.toList = l) (r : List (List Char)) (hr : behindMainWord (wordsSigns l) = "cut".toList :: r) : P.make = some .cut := by
  unfold Program.make
  rw [h, hr]
  rfl
theorem enter_of (P : Program) (l : List Char) (h : P.initOrder.toList = l) (r : List (List Char)) (hr : behindMainWord (wordsSigns l) = "cut".toList :: r) (h1 : P.laysLater = false) (h2 : P.bearsReflect = false) (h3 : P.doorFits [] = true) (hs : stripLifts liftWords ("cut".toList :: r) = ([], "cut".toList :: r)) : P.mayEnter = true := by
  unfold Program.mayEnter
  rw [h, hr]
  simp only [hs, h1, h2, h3]
  rfl
theorem word_make : Tryz.prog.make = some .cut := make_of _ wordSigns word_is _ word_cut
theorem word_enter : Tryz.prog.mayEnter = true := enter_of _ wordSigns word_is _ word_cut (by kernel_rfl) (by kernel_rfl) (by kernel_rfl) (by kernel_rfl)
theorem word_lifts : Tryz.prog.liftsFinal = false := by
  unfold Program.liftsFinal Program.headLifts
  rw [word_is]
  kernel_rfl
theorem word_enterP : Tryz.pinned.checked.prog.mayEnter = true := word_enter
theorem word_liftsP : Tryz.pinned.checked.prog.liftsFinal = false := word_lifts
theorem word_makeP : Tryz.pinned.checked.prog.make = some .cut := word_make
end Go.Proofs.YtpcakodemleoiaaGreat.T

