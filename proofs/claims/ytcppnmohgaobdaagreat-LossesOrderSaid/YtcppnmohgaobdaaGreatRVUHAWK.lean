import Derived.Test.YtcppnmohgaobdaaGreatRASOVU
import Derived.Test.YtcppnmohgaobdaaGreatRTB
import Derived.Test.YtcppnmohgaobdaaGreatRWPJ
import Derived.Test.YtcppnmohgaobdaaGreatRVJAVP
import Derived.Test.YtcppnmohgaobdaaGreatRLSJ
import Derived.Test.YtcppnmohgaobdaaGreatRMGKALW
import Derived.Test.YtcppnmohgaobdaaGreatRCPYALO
import Derived.Test.YtcppnmohgaobdaaGreatRSKMSNQ
set_option linter.all false
namespace Go.Proofs.YtcppnmohgaobdaaGreat.T
open Go Go.RowKit Lin
mutual
theorem in_plain {k : Nat} : ∀ d : D, plainD d = true → inD k d = true
  | .v _, _ => by simp only [inD]
  | .sl _ cs _, h => by simp only [plainD] at h; simp only [inD]; exact in_plainL cs h
  | .rp cs _, h => by simp only [plainD] at h; simp only [inD]; exact in_plainL cs h
  | .own .., h => by simp [plainD] at h
  | .ptr .., h => by simp [plainD] at h
  | .agg cs, h => by simp only [plainD] at h; simp only [inD]; exact in_plainL cs h
  | .tup cs, h => by simp only [plainD] at h; simp only [inD]; exact in_plainL cs h
  | .fn _ cs, h => by simp only [plainD] at h; simp only [inD]; exact in_plainL cs h
  | .mp .., h => by simp [plainD] at h
  | .any, _ => by simp only [inD]
theorem in_plainL {k : Nat} : ∀ l : List D, plainL l = true → inL k l = true
  | [], _ => by simp only [inL]
  | d :: l, h => by simp only [plainL, Bool.and_eq_true] at h; simp only [inL, in_plain d h.1, in_plainL l h.2, Bool.and_self]
end
theorem sh_cells {n : Nat} : ∀ {l : List D}, (∀ d ∈ l, ∃ x, d = .v x) → shL n l = l
  | [], _ => by simp only [shL]
  | d :: l, h => by
    obtain ⟨x, rfl⟩ := h d (by simp)
    simp only [shL, shD, sh_cells fun e he => h e (List.mem_cons_of_mem _ he)]
theorem bkC_v (l : List Bk) : ∀ d ∈ bkC l, ∃ x, d = .v x := by
  intro d hd
  obtain ⟨b, _, hb⟩ := List.mem_flatMap.1 hd
  simp only [List.mem_cons, List.not_mem_nil, or_false] at hb
  rcases hb with rfl | rfl <;> exact ⟨_, rfl⟩
theorem hdC_v (l : List Hd) : ∀ d ∈ hdC l, ∃ x, d = .v x := by
  intro d hd
  obtain ⟨b, _, hb⟩ := List.mem_flatMap.1 hd
  simp only [List.mem_cons, List.not_mem_nil, or_false] at hb
  rcases hb with rfl | rfl | rfl | rfl <;> exact ⟨_, rfl⟩
theorem roC_mem {rs : List Rp} {ps : List (Nat × Nat)} {d : D} (h : d ∈ (roC rs ps).flatten) : ∃ (j : Nat) (r : Rp) (p : Nat × Nat), rs[j]? = some r ∧ ps[j]? = some p ∧ d ∈ ro1 r p := by
  obtain ⟨l, hl, hd⟩ := List.mem_flatten.1 h
  obtain ⟨j, hj⟩ := List.mem_iff_getElem?.1 hl
  unfold roC at hj
  rw [List.getElem?_zipWith] at hj
  cases h1 : rs[j]? with
  | none => rw [h1] at hj; simp at hj
  | some r =>
    cases h2 : ps[j]? with
    | none => rw [h1, h2] at hj; simp at hj
    | some p =>
      rw [h1, h2] at hj
      simp only [Option.some.injEq] at hj
      subst hj
      exact ⟨j, r, p, h1, h2, hd⟩
def shP (n : Nat) (p : Nat × Nat) : Nat × Nat := (p.1 + n, p.2)
theorem sh_roC (n : Nat) : ∀ (rs : List Rp) (ps : List (Nat × Nat)), shL n (roC rs ps).flatten = (roC rs (ps.map (shP n))).flatten
  | [], _ => by simp [roC, shL]
  | _ :: _, [] => by simp [roC, shL]
  | r :: rs, p :: ps => by
    have ih := sh_roC n rs ps
    unfold roC at ih ⊢
    simp only [List.map_cons, List.zipWith_cons_cons, List.flatten_cons, ro1, List.cons_append, List.nil_append, shL, shD, ih]
    rfl
structure CB (s : Sy) (n : Nat) (qs : List (Nat × Nat)) (R : List Blk) : Prop where
  lq : qs.length = s.rs.length
  lr : R.length = 2 * s.rs.length
  at_ : ∀ (j : Nat) (r : Rp) (p : Nat × Nat), s.rs[j]? = some r → qs[j]? = some p → p.1 = n + (2 * j + 6) ∧ R[2 * j + 1]? = some ⟨44, p.2, hdC r.hs⟩
theorem copyH {s : Sy} (ok : OkS s) {ds : List D} {H : Hp} {t : Nat} {K : D → Hp → Nat → Prop} (hd : ds.map ufa = [syD s])
    (hK : ∀ (g2 gr : Nat) (qs : List (Nat × Nat)) (R : List Blk) (B0 B1 B3 : Blk) (t' : Nat), CB s H.length qs R → t ≤ t' → K (.agg [.own 2 (H.length + 2) g2 0 s.bs.length, .own 3 (H.length + 4) gr 0 s.rs.length]) (H ++ (some B0 :: some B1 :: some ⟨57, g2, bkC s.bs⟩ :: some B3 :: some ⟨40, gr, (roC s.rs qs).flatten⟩ :: R.map some)) t') : ACall Tryz.prog 12 ds H t K := by
  have hpl : plainL [bks s.bs, rps s.rs] = true := by simp only [plainL, plain_bk, plain_rp, plainD, Bool.and_self]
  have hp : plainL [syD s] = true := by simp only [plainL, plainD, hpl, plain_bk, plain_rp, Bool.and_self]
  refine ACall.of_new (copy0S s ok t) hd hp fun d H' t' hk => ?_
  obtain ⟨x, g0, g1, g2, g3, z, cx, ck, rfl, rfl, h0, h1, h2, h3, rfl, rfl⟩ := hk
  obtain ⟨k, g, ps, R, tt⟩ := x
  obtain ⟨xk, xp, xr, xat, xnew, xg, xt⟩ := cx
  simp only at ck xk xp xr xat xnew xg xt
  subst ck
  refine ⟨⟨25, g0, [bks s.bs, rps s.rs]⟩ :: ⟨25, g1, _⟩ :: ⟨57, g2, bkC s.bs⟩ :: ⟨25, g3, _⟩ :: ⟨40, g, (roC s.rs ps).flatten⟩ :: R, rfl, ⟨xt, ?_, fun bl hbl => ?_⟩, ?_⟩
  · simp [inD, inL]
  · simp only [List.length_cons]
    have hz : inL (R.length + 1 + 1 + 1 + 1 + 1) [D.own 2 2 g2 0 s.bs.length, D.own 3 4 g 0 s.rs.length] = true := by simp [inL, inD]
    rcases List.mem_cons.1 hbl with rfl | hbl
    · exact ⟨h0, in_plainL _ hpl⟩
    rcases List.mem_cons.1 hbl with rfl | hbl
    · exact ⟨h1, hz⟩
    rcases List.mem_cons.1 hbl with rfl | hbl
    · exact ⟨h2, in_plainL _ (by have := plain_bk s.bs; simpa only [plainD] using this)⟩
    rcases List.mem_cons.1 hbl with rfl | hbl
    · exact ⟨h3, hz⟩
    rcases List.mem_cons.1 hbl with rfl | hbl
    · refine ⟨xg, inL_all fun d hd => ?_⟩
      obtain ⟨j, r, p, e1, e2, hm⟩ := roC_mem hd
      obtain ⟨a1, a2⟩ := xat j r p e1 e2
      have := (List.getElem?_eq_some_iff.1 a2).1
      simp only [ro1, List.mem_cons, List.not_mem_nil, or_false] at hm
      rcases hm with rfl | rfl | rfl
      · rfl
      · simp only [inD, decide_eq_true_eq]
        omega
      · rfl
    · obtain ⟨a1, a2⟩ := xnew bl hbl
      refine ⟨a1, ?_⟩
      rcases a2 with ⟨l, e⟩ | ⟨r, p, e, hp'⟩
      · rw [e]
        refine inL_all fun d hd => ?_
        obtain ⟨y, rfl⟩ := hdC_v l d hd
        rfl
      · rw [e]
        simp only [ro1, inL, inD, Bool.and_true, Bool.true_and, decide_eq_true_eq]
        omega
  · have hcb : CB s H.length (ps.map (shP H.length)) (R.map (shB H.length)) := by
      refine ⟨by simp [xp], by simp [xr], fun j r p hr hp' => ?_⟩
      rw [List.getElem?_map] at hp'
      cases e : ps[j]? with
      | none => rw [e] at hp'; simp at hp'
      | some q =>
        rw [e] at hp'
        simp only [Option.map_some, Option.some.injEq] at hp'
        subst hp'
        obtain ⟨a1, a2⟩ := xat j r q hr e
        refine ⟨by simp only [shP]; omega, ?_⟩
        rw [List.getElem?_map, a2, Option.map_some, shB, sh_cells (hdC_v r.hs)]
        rfl
    have hh := hK g2 g _ _ (shB H.length ⟨25, g0, [bks s.bs, rps s.rs]⟩) (shB H.length ⟨25, g1, [.own 2 2 g2 0 s.bs.length, .own 3 4 g 0 s.rs.length]⟩) (shB H.length ⟨25, g3, [.own 2 2 g2 0 s.bs.length, .own 3 4 g 0 s.rs.length]⟩) tt hcb xt
    have e1 : shB H.length ⟨57, g2, bkC s.bs⟩ = ⟨57, g2, bkC s.bs⟩ := by rw [shB, sh_cells (bkC_v s.bs)]
    have e2 : shB H.length ⟨40, g, (roC s.rs ps).flatten⟩ = ⟨40, g, (roC s.rs (ps.map (shP H.length))).flatten⟩ := by rw [shB, sh_roC]
    simp only [List.map_cons, e1, e2, shD, shL]
    rw [Nat.add_comm 2 H.length, Nat.add_comm 4 H.length]
    exact hh
structure LayR (m : Nat) (H2 : Hp) (rs : List Rp) (qs : List (Nat × Nat)) : Prop where
  lq : qs.length = rs.length
  at_ : ∀ (j : Nat) (r : Rp) (p : Nat × Nat), rs[j]? = some r → qs[j]? = some p → m ≤ p.1 ∧ H2[p.1 - m]? = some (some ⟨44, p.2, hdC r.hs⟩)
theorem zv_cells (m : Nat) (H2 : Hp) (k : Nat) {l : List D} (h : ∀ d ∈ l, ∃ x, d = .v x) : l.map (zv m H2 k) = l := by
  conv => rhs; rw [← List.map_id l]
  refine List.map_congr_left fun d hd => ?_
  obtain ⟨x, rfl⟩ := h d hd
  exact zv_v m H2 k x
theorem zv_hold {m : Nat} {H2 : Hp} {b g k : Nat} {hs : List Hd} (hb : m ≤ b) (h : H2[b - m]? = some (some ⟨44, g, hdC hs⟩)) : zv m H2 (k + 1) (.own 4 b g 0 hs.length) = hds hs := by
  have hl := hdC_len hs
  rw [zv]
  simp only [zz]
  rw [if_neg (by omega), h]
  simp only [true_and, Nat.zero_add, List.drop_zero]
  rw [if_pos (by omega), List.take_of_length_le (by omega), zv_cells m H2 k (hdC_v hs)]
theorem ro_cells {m : Nat} {H2 : Hp} {k : Nat} : ∀ {rs : List Rp} {qs : List (Nat × Nat)}, LayR m H2 rs qs → (roC rs qs).flatten.map (zv m H2 (k + 1)) = rpC rs
  | [], qs, h => by
    have : qs = [] := by have := h.lq; simpa using this
    subst this
    rfl
  | r :: rs, [], h => by have := h.lq; simp at this
  | r :: rs, p :: qs, h => by
    have h0 := h.at_ 0 r p rfl rfl
    have ih := ro_cells (k := k) (rs := rs) (qs := qs) ⟨by have := h.lq; simpa using this, fun j x y hx hy => h.at_ (j + 1) x y (by simpa using hx) (by simpa using hy)⟩
    unfold roC at ih ⊢
    rw [List.zipWith_cons_cons, List.flatten_cons, List.map_append, ih]
    simp only [ro1, List.map_cons, List.map_nil, zv_v, zv_hold h0.1 h0.2]
    rfl
theorem zv_ropes {m : Nat} {H2 : Hp} {b g k : Nat} {rs : List Rp} {qs : List (Nat × Nat)} (h : LayR m H2 rs qs) (hb : m ≤ b) (hh : H2[b - m]? = some (some ⟨40, g, (roC rs qs).flatten⟩)) : zv m H2 (k + 1 + 1) (.own 3 b g 0 rs.length) = rps rs := by
  have hl := roC_cells h.lq
  rw [zv]
  simp only [zz]
  rw [if_neg (by omega), hh]
  simp only [true_and, Nat.zero_add, List.drop_zero]
  rw [if_pos (by omega), List.take_of_length_le (by omega), ro_cells h]
theorem zv_blocks {m : Nat} {H2 : Hp} {b g k : Nat} {bs : List Bk} (hb : m ≤ b) (h : H2[b - m]? = some (some ⟨57, g, bkC bs⟩)) : zv m H2 (k + 1) (.own 2 b g 0 bs.length) = bks bs := by
  have hl := bkC_len bs
  rw [zv]
  simp only [zz]
  rw [if_neg (by omega), h]
  simp only [true_and, Nat.zero_add, List.drop_zero]
  rw [if_pos (by omega), List.take_of_length_le (by omega), zv_cells m H2 k (bkC_v bs)]
theorem roC_hs {rs : List Rp} {qs : List (Nat × Nat)} : ∀ {i : Nat} {r : Rp} {p : Nat × Nat}, rs[i]? = some r → qs[i]? = some p → (roC rs qs).flatten[i * 3 + 1]? = some (.own 4 p.1 p.2 0 r.hs.length) := by
  induction rs generalizing qs with
  | nil => intro i r p h; simp at h
  | cons x rs ih =>
    intro i r p hr hp
    cases qs with
    | nil => simp at hp
    | cons q qs =>
      cases i with
      | zero =>
        simp only [List.getElem?_cons_zero, Option.some.injEq] at hr hp
        subst hr hp
        rfl
      | succ i =>
        have := ih (qs := qs) (i := i) (r := r) (p := p) (by simpa using hr) (by simpa using hp)
        unfold roC at this ⊢
        rw [List.zipWith_cons_cons, List.flatten_cons]
        have e : (i + 1) * 3 + 1 = (i * 3 + 1) + (ro1 x q).length := by simp only [ro1, List.length_cons, List.length_nil]; omega
        rw [e, List.getElem?_append_right (by omega), Nat.add_sub_cancel]
        exact this
theorem take_one {l : List D} {i : Nat} {x : D} (h : l[i]? = some x) : (l.drop i).take 1 = [x] := by
  obtain ⟨h1, h2⟩ := List.getElem?_eq_some_iff.1 h
  rw [List.drop_eq_getElem_cons h1, h2]
  rfl
theorem ACall.of_readV {P : Program} {f : FuncId} {ds ds' : List D} {x : Value} {H : Hp} {t : Nat} {K : D → Hp → Nat → Prop} (k : Nat) (h : PRet P f ds' (.v x)) (hd : ds.map (rsv H k) = ds') (hk : K (.v x) H t) : ACall P f ds H t K := by
  refine fun w0 F G w us R hL => ?_
  subst hd
  have hL' : RepL (allMem F w0.heap.size w) [] (ds.map (rsv H k)) us := RepL_map (fun d u _ hd => rsv_rep R k d u hd) hL
  refine (h _ [] w us (allMem_at R) hL').mono fun e w' hx => ?_
  obtain ⟨F', u, rfl, h1, h2, h3, h4, h5⟩ := hx
  have hat : F.at_ w' := fun b o x e => h3 b o x (h1 b o x (allMem_le R b o x e))
  exact ⟨F, G, u, .v x, H, t, rfl, Onw.refl _ _ _, R.frame h5 (.refl _) hat (fun _ _ _ => rfl), by simpa only [Rep] using h4, hk⟩
theorem rsv_cells (H : Hp) (k : Nat) {l : List D} (h : ∀ d ∈ l, ∃ x, d = .v x) : l.map (rsv H (k + 1)) = l := by
  conv => rhs; rw [← List.map_id l]
  refine List.map_congr_left fun d hd => ?_
  obtain ⟨x, rfl⟩ := h d hd
  simp only [rsv, rs, id]
theorem rsv_hold {H : Hp} {b g k : Nat} {hs : List Hd} (h : H[b]? = some (some ⟨44, g, hdC hs⟩)) : rsv H (k + 1 + 1) (.own 4 b g 0 hs.length) = hds hs := by
  have hl := hdC_len hs
  rw [rsv]
  simp only [rs]
  rw [h]
  simp only [true_and, Nat.zero_add, List.drop_zero]
  rw [if_pos (by omega), List.take_of_length_le (by omega), rsv_cells H k (hdC_v hs)]
theorem ro_cellsR {H : Hp} {k : Nat} : ∀ {rs : List Rp} {qs : List (Nat × Nat)}, LayR 0 H rs qs → (roC rs qs).flatten.map (rsv H (k + 1 + 1)) = rpC rs
  | [], qs, h => by
    have : qs = [] := by have := h.lq; simpa using this
    subst this
    rfl
  | r :: rs, [], h => by have := h.lq; simp at this
  | r :: rs, p :: qs, h => by
    have h0 := (h.at_ 0 r p rfl rfl).2
    rw [Nat.sub_zero] at h0
    have ih := ro_cellsR (k := k) (rs := rs) (qs := qs) ⟨by have := h.lq; simpa using this, fun j x y hx hy => h.at_ (j + 1) x y (by simpa using hx) (by simpa using hy)⟩
    unfold roC at ih ⊢
    rw [List.zipWith_cons_cons, List.flatten_cons, List.map_append, ih]
    simp only [ro1, List.map_cons, List.map_nil, rsv_hold h0]
    simp only [rsv, T.rs]
    rfl
theorem rsv_ropes {H : Hp} {b g k : Nat} {rs : List Rp} {qs : List (Nat × Nat)} (h : LayR 0 H rs qs) (hh : H[b]? = some (some ⟨40, g, (roC rs qs).flatten⟩)) : rsv H (k + 1 + 1 + 1) (.own 3 b g 0 rs.length) = rps rs := by
  have hl := roC_cells h.lq
  rw [rsv]
  simp only [T.rs]
  rw [hh]
  simp only [true_and, Nat.zero_add, List.drop_zero]
  rw [if_pos (by omega), List.take_of_length_le (by omega), ro_cellsR h]
theorem rsv_blocks {H : Hp} {b g k : Nat} {bs : List Bk} (h : H[b]? = some (some ⟨57, g, bkC bs⟩)) : rsv H (k + 1 + 1) (.own 2 b g 0 bs.length) = bks bs := by
  have hl := bkC_len bs
  rw [rsv]
  simp only [rs]
  rw [h]
  simp only [true_and, Nat.zero_add, List.drop_zero]
  rw [if_pos (by omega), List.take_of_length_le (by omega), rsv_cells H k (bkC_v bs)]
end Go.Proofs.YtcppnmohgaobdaaGreat.T

namespace Go.Proofs.YtcppnmohgaobdaaGreat.T
open Go Go.RowKit Lin
theorem roC_clean : ∀ (rs : List Rp) (qs : List (Nat × Nat)), roC (rs.map cleanR) qs = roC rs qs
  | [], _ => rfl
  | _ :: _, [] => by simp [roC]
  | r :: rs, p :: qs => by
    have ih := roC_clean rs qs
    unfold roC at ih ⊢
    rw [List.map_cons, List.zipWith_cons_cons, List.zipWith_cons_cons, ih]
    simp only [ro1, cleanR, List.length_map]
def idH (hs : List Hd) (i k j : Nat) : List Hd := if j < i then hs.map cleanH else if j = i then clH hs k else hs
structure IdR (s : Sy) (qs : List (Nat × Nat)) (i k : Nat) (R : List Blk) : Prop where
  lr : R.length = 2 * s.rs.length
  at_ : ∀ (j : Nat) (r : Rp) (p : Nat × Nat), s.rs[j]? = some r → qs[j]? = some p → p.1 = 2 * j + 9 ∧ R[2 * j + 1]? = some ⟨44, p.2, hdC (idH r.hs i k j)⟩
set_option maxRecDepth 100000 in
set_option maxHeartbeats 16000000 in
theorem ideal_ref (s : Sy) (ok : OkS s) : PRet Tryz.prog 9 [syD s] (syD (cleanS s)) := by
  refine PRet.intro 4 fun t => ACall.enter tab_ok Tryz.func9 rfl rfl Tryz.ntmps9 (by simp) ?_
  simp only [enterTM]
  have o1 := refOf 1
  have hr6 := ok.r6
  ((refine wqa ?_))
  refine AW.reserve 1 ?_
  simp only [List.replicate_succ, List.replicate_zero, List.cons_append, List.nil_append]
  ((repeat refine AW_seq ?_); (refine AW_region_k tab_ok fun KR hKR => ?_))
  ((refine wra ?_))
  ((try with_reducible intro KR hKR); (first | refine awOps_nc fun KK hKK => ?_ | refine awOps_gc rfl fun KK hKK => ?_); simp (disch := omega) only [bb, bt, zDs, zD, eqCells, simprocAttr, goC, callO_fn, argsD, and_self])
  refine copyH ok rfl fun g2 gr qs R0 B0 B1 B3 t1 hcb ht1 => ?_
  simp only [List.length_cons, List.length_nil, List.cons_append, List.nil_append, Nat.zero_add, Nat.reduceAdd]
  (simp (disch := omega) only [bb, bt, zDs, zD, eqCells, simprocAttr, afterC]; refine hKK _ ?_; clear hKK KK)
  refine awOps_at 2 rfl rfl (by decide) fun KK hKK => ?_
  (simp (disch := omega) only [bb, bt, zDs, zD, eqCells, simprocAttr])
  refine hKK _ ?_; clear hKK KK
  ((refine wra ?_))
  ((refine wea ?_); (try clear hKR KR))
  ((refine gga0 ?_))
  have hlq := hcb.lq
  have hrc := roC_cells hlq
  have hR0 : IdR s qs 0 0 R0 := ⟨hcb.lr, fun j r p hr hp => by
    obtain ⟨a1, a2⟩ := hcb.at_ j r p hr hp
    refine ⟨by simp only [List.length_cons, List.length_nil] at a1; omega, ?_⟩
    rw [a2]
    unfold idH
    rw [if_neg (by omega)]
    split
    · rw [clH_zero]
    · rfl⟩
  have hcells : ∀ (i : Nat) (r : Rp) (p : Nat × Nat), s.rs[i]? = some r → qs[i]? = some p → (roC s.rs qs).flatten[i * 3 + 1]? = some (.own 4 p.1 p.2 0 r.hs.length) := fun i r p h1 h2 => roC_hs h1 h2
  generalize hRC : (roC s.rs qs).flatten = RC at *
  have hrd : RC.length / 3 = s.rs.length := by omega
  ((repeat refine AW_seq ?_))
  refine AW_mid (fun x : List Blk × Nat => ⟨[(2, .ptr 1 (t + 1 + 1) 0), (3, .ptr 2 (t1 + 1) 0)], none :: some ⟨25, t + 1 + 1, [.sl 2 [] true, .sl 3 [] true]⟩ :: some ⟨25, t1 + 1, [.own 2 5 g2 0 s.bs.length, .own 3 7 gr 0 s.rs.length]⟩ :: none :: none :: some ⟨57, g2, bkC s.bs⟩ :: none :: some ⟨40, gr, RC⟩ :: x.1.map some, x.2⟩) (fun x => IdR s qs s.rs.length 0 x.1) ?_ ?_
  · refine AW_block ?_
    refine AW_loop_w (fun x : Nat × List Blk × Nat => ⟨[(2, .ptr 1 (t + 1 + 1) 0), (3, .ptr 2 (t1 + 1) 0), (4, int x.1)], none :: some ⟨25, t + 1 + 1, [.sl 2 [] true, .sl 3 [] true]⟩ :: some ⟨25, t1 + 1, [.own 2 5 g2 0 s.bs.length, .own 3 7 gr 0 s.rs.length]⟩ :: none :: none :: some ⟨57, g2, bkC s.bs⟩ :: none :: some ⟨40, gr, RC⟩ :: x.2.1.map some, x.2.2⟩) (fun x => s.rs.length - x.1) (fun x => x.1 ≤ s.rs.length ∧ IdR s qs x.1 0 x.2.1) (0, R0, t1 + 1) ⟨Nat.zero_le _, hR0⟩ (by (simp (disch := omega) only [StLe, tmLe, hpLe_refl, hpLe, bl, bb, bt, zDs, zD, eqCells, simprocAttr])) ?_
    rintro ⟨i, R1, tt⟩ ⟨hi, hR1⟩
    simp only at hi hR1
    by_cases hlt : i < s.rs.length
    · obtain ⟨r, hr⟩ : ∃ y, s.rs[i]? = some y := ⟨_, List.getElem?_eq_getElem hlt⟩
      obtain ⟨p, hp⟩ : ∃ y, qs[i]? = some y := ⟨_, List.getElem?_eq_getElem (by omega)⟩
      have hc1 := hcells i r p hr hp
      have hc2 := take_one hc1
      obtain ⟨p1, p2⟩ := p
      simp only at hc1 hc2
      have ho2 := (ok.holds r (List.mem_of_getElem? hr)).2.1
      ((refine ggb0 (F := _∧_∧_) ⟨@Int.ofNat_lt, hlt, hrd⟩ ?_))
      ((repeat refine AW_seq ?_))
      refine AW_block ?_
      ((refine gga0 ?_))
      refine AW_block ?_
      refine AW_loop_w (fun x : Nat × List Blk × Nat => ⟨[(2, .ptr 1 (t + 1 + 1) 0), (3, .ptr 2 (t1 + 1) 0), (4, int i), (5, int x.1)], none :: some ⟨25, t + 1 + 1, [.sl 2 [] true, .sl 3 [] true]⟩ :: some ⟨25, t1 + 1, [.own 2 5 g2 0 s.bs.length, .own 3 7 gr 0 s.rs.length]⟩ :: none :: none :: some ⟨57, g2, bkC s.bs⟩ :: none :: some ⟨40, gr, RC⟩ :: x.2.1.map some, x.2.2⟩) (fun x => r.hs.length - x.1) (fun x => x.1 ≤ r.hs.length ∧ IdR s qs i x.1 x.2.1) (0, R1, tt) ⟨Nat.zero_le _, hR1⟩ (by (simp (disch := omega) only [StLe, tmLe, hpLe_refl, hpLe, bl, bb, bt, zDs, zD, eqCells, simprocAttr])) ?_
      rintro ⟨k, R, t2⟩ ⟨hk, hR⟩
      simp only at hk hR
      obtain ⟨p9, pR⟩ := hR.at_ i r (p1, p2) hr hp
      have eid : idH r.hs i k i = clH r.hs k := by unfold idH; rw [if_neg (by omega), if_pos rfl]
      rw [eid] at pR
      simp only at p9 pR
      have hget : ∀ X0 X1 X2 X3 X4 X5 X6 X7 : Option Blk, (X0 :: X1 :: X2 :: X3 :: X4 :: X5 :: X6 :: X7 :: R.map some)[p1]? = some (some ⟨44, p2, hdC (clH r.hs k)⟩) := fun X0 X1 X2 X3 X4 X5 X6 X7 => by
        rw [p9, show 2 * i + 9 = (2 * i + 1) + 1 + 1 + 1 + 1 + 1 + 1 + 1 + 1 by omega]
        simp only [List.getElem?_cons_succ, List.getElem?_map, pR, Option.map_some]
      by_cases hlk : k < r.hs.length
      · obtain ⟨h, hh⟩ : ∃ y, r.hs[k]? = some y := ⟨_, List.getElem?_eq_getElem hlk⟩
        have hlR := hR.lr
        have hl4 := hdC_len (clH r.hs k)
        rw [clH_len _ _ hk] at hl4
        have hs4 := hdC_ls (clH_at hh) 1 1
        have hn4 : hdC ((clH r.hs k).set k ⟨h.b, h.p, 1, 1⟩) = hdC (clH r.hs (k + 1)) := by rw [← clH_set hh]; rfl
        rw [hn4] at hs4
        have hle4 : k * 4 + 4 ≤ r.hs.length * 4 := by omega
        have hset : ∀ (X0 X1 X2 X3 X4 X5 X6 X7 : Option Blk) (Y : Blk), (X0 :: X1 :: X2 :: X3 :: X4 :: X5 :: X6 :: X7 :: R.map some).set p1 (some Y) = X0 :: X1 :: X2 :: X3 :: X4 :: X5 :: X6 :: X7 :: (R.set (2 * i + 1) Y).map some := fun X0 X1 X2 X3 X4 X5 X6 X7 Y => by
          rw [p9, show 2 * i + 9 = (2 * i + 1) + 1 + 1 + 1 + 1 + 1 + 1 + 1 + 1 by omega]
          simp only [List.set_cons_succ, List.map_set]
        have hne : (p1 = R.length + 1 + 1 + 1 + 1 + 1 + 1 + 1 + 1) = False := by simp only [eq_iff_iff, iff_false]; omega
        have hnx : IdR s qs i (k + 1) (R.set (2 * i + 1) ⟨44, p2, hdC (clH r.hs (k + 1))⟩) := by
          refine ⟨by rw [List.length_set]; exact hlR, fun j x q hx hq => ?_⟩
          obtain ⟨a1, a2⟩ := hR.at_ j x q hx hq
          refine ⟨a1, ?_⟩
          by_cases e : j = i
          · subst e
            rw [hr, Option.some.injEq] at hx
            rw [hp, Option.some.injEq] at hq
            subst hx hq
            rw [List.getElem?_set_self (by omega)]
            unfold idH
            rw [if_neg (by omega), if_pos rfl]
          · rw [List.getElem?_set_ne (by omega), a2]
            unfold idH
            rw [if_neg e, if_neg e]
        ((refine ggb0 (F := _∧_∧_∧_∧_∧_∧_) ⟨@Int.ofNat_lt, hlk, hlt, hrd, hc1, hc2, hget⟩ ?_))
        ((repeat refine AW_seq ?_))
        refine AW_block ?_
        ((repeat refine AW_seq ?_); (refine AW_drawn_k tab_ok follows_mixed 0 fun KR hKR => ?_); simp only [List.replicate_succ, List.replicate_zero, List.append_nil, List.nil_append, List.cons_append, List.length_cons, List.length_nil, Nat.reduceAdd])
        ((refine wdb (F := _∧_∧_∧_∧_∧_∧_∧_∧_∧_∧_) ⟨hlk, hlt, hrd, hc1, hc2, hget, hset, hne, hl4, hs4, hle4⟩ ?_))
        ((first | refine awD_nc fun KK hKK => ?_ | refine awD_gc rfl fun KK hKK => ?_); simp (disch := omega) only [bb, bt, zDs, zD, eqCells, simprocAttr, goCDS, callDS_fn, argsZ, argsD, ufa, uf]; refine PGive.ret (o1) ?_; simp (disch := omega) only [bb, bt, zDs, zD, eqCells, simprocAttr, afterDS]; refine hKK _ _ _ ?_; clear hKK KK)
        ((refine wdb (F := _∧_∧_∧_∧_∧_∧_∧_∧_∧_∧_) ⟨hlk, hlt, hrd, hc1, hc2, hget, hset, hne, hl4, hs4, hle4⟩ ?_))
        ((refine awD_nil ?_); simp only [List.reverse_cons, List.reverse_nil, List.nil_append, List.cons_append]; (refine hKR _ _ (by exact anyB_map (clamp 0) (by kernel_rfl)) ?_); (try clear hKR KR); (repeat (with_reducible first | refine q1 ?_ | refine q2 ?_ | refine q3 ?_ | refine q4 ?_ | refine q5 ?_ | refine q6 ?_ | (refine q7 ?_ ?_; (focus (with_unfolding_all rfl))))))
        ((refine gga0 ?_))
        refine ⟨(k + 1, R.set (2 * i + 1) ⟨44, p2, hdC (clH r.hs (k + 1))⟩, t2 + 1), ⟨hlk, hnx⟩, by show r.hs.length - (k + 1) < r.hs.length - k; omega, ?_⟩
        (simp (disch := omega) only [StLe, tmLe, hpLe_refl, hpLe, bl, bb, bt, zDs, zD, eqCells, simprocAttr])
      · have hke : k = r.hs.length := by omega
        subst hke
        ((refine wqb (F := _∧_∧_∧_∧_∧_) ⟨@Int.lt_irrefl, hlt, hrd, hc1, hc2, hget⟩ ?_))
        ((refine wia ?_))
        ((refine wxa ?_))
        have hnx : IdR s qs (i + 1) 0 R := ⟨hR.lr, fun j x q hx hq => by
          obtain ⟨a1, a2⟩ := hR.at_ j x q hx hq
          refine ⟨a1, ?_⟩
          rw [a2]
          unfold idH
          by_cases e1 : j < i
          · rw [if_pos e1, if_pos (by omega)]
          · rw [if_neg e1]
            by_cases e2 : j = i
            · subst e2
              rw [hr, Option.some.injEq] at hx
              subst hx
              rw [if_pos rfl, if_pos (by omega), clH_end]
            · rw [if_neg e2, if_neg (by omega)]
              split
              · rw [clH_zero]
              · rfl⟩
        ((refine gga0 ?_))
        refine ⟨(i + 1, R, t2), ⟨hlt, hnx⟩, by show s.rs.length - (i + 1) < s.rs.length - i; omega, ?_⟩
        (simp (disch := omega) only [StLe, tmLe, hpLe_refl, hpLe, bl, bb, bt, zDs, zD, eqCells, simprocAttr])
    · have hie : i = s.rs.length := by omega
      subst hie
      ((refine wqb (F := _∧_) ⟨@Int.lt_irrefl, hrd⟩ ?_))
      ((refine wia ?_))
      ((refine wxa ?_))
      exact ⟨(R1, tt), hR1, by (simp (disch := omega) only [StLe, tmLe, hpLe_refl, hpLe, bl, bb, bt, zDs, zD, eqCells, simprocAttr])⟩
  rintro ⟨R, tt⟩ hR
  simp only at hR
  have hlay : LayR 3 (none :: none :: some ⟨57, g2, bkC s.bs⟩ :: none :: some ⟨40, gr, RC⟩ :: R.map some) (s.rs.map cleanR) qs := ⟨by rw [List.length_map]; exact hlq, fun j x q hx hq => by
    rw [List.getElem?_map] at hx
    cases e : s.rs[j]? with
    | none => rw [e] at hx; simp at hx
    | some y =>
      rw [e] at hx
      simp only [Option.map_some, Option.some.injEq] at hx
      subst hx
      obtain ⟨a1, a2⟩ := hR.at_ j y q e hq
      refine ⟨by omega, ?_⟩
      rw [a1, show 2 * j + 9 - 3 = (2 * j + 1) + 1 + 1 + 1 + 1 + 1 by omega]
      simp only [List.getElem?_cons_succ, List.getElem?_map, a2, Option.map_some]
      unfold idH
      rw [if_pos (List.getElem?_eq_some_iff.1 e).1]
      rfl⟩
  have z1 := zv_blocks (k := 2) (m := 3) (H2 := none :: none :: some ⟨57, g2, bkC s.bs⟩ :: none :: some ⟨40, gr, RC⟩ :: R.map some) (b := 5) (g := g2) (bs := s.bs) (by decide) rfl
  have z2 := zv_ropes (k := 1) (b := 7) (g := gr) hlay (by decide) (by rw [roC_clean, hRC]; rfl)
  rw [List.length_map] at z2
  refine AW.tail 3 [none, some ⟨25, t + 1 + 1, [.sl 2 [] true, .sl 3 [] true]⟩, some ⟨25, t1 + 1, [.own 2 5 g2 0 s.bs.length, .own 3 7 gr 0 s.rs.length]⟩] (none :: none :: some ⟨57, g2, bkC s.bs⟩ :: none :: some ⟨40, gr, RC⟩ :: R.map some) rfl ?_
  simp only [zT, zH, List.map_cons, List.map_nil, Option.map_some, Option.map_none, List.length_nil, List.length_cons, Nat.zero_add, Nat.reduceAdd, z1, z2]
  have p1 : ∀ H, zv 3 H 3 (.ptr 1 (t + 1 + 1) 0) = .ptr 1 (t + 1 + 1) 0 := fun H => by simp [zv, zz]
  have p2 : ∀ H, zv 3 H 3 (.ptr 2 (t1 + 1) 0) = .ptr 2 (t1 + 1) 0 := fun H => by simp [zv, zz]
  have p3 : ∀ H sz, zv 3 H 3 (.sl sz [] true) = .sl sz [] true := fun H sz => by simp [zv, zz, zzL]
  simp only [p1, p2, p3]
  ((refine gga0 ?_))
  ((repeat refine AW_seq ?_); (refine wta ?_); simp (disch := omega) only [retQ, resD, oneD, bb, bt, zDs, zD, eqCells, simprocAttr, Tryz.results9])
  exact rsv_tidy _ _ (by simp only [tidyD, tidyL, tidy_bk, tidy_rp, Bool.not_false, Bool.and_self])
end Go.Proofs.YtcppnmohgaobdaaGreat.T

namespace Go.Proofs.YtcppnmohgaobdaaGreat.T
open Go Go.RowKit Lin
end Go.Proofs.YtcppnmohgaobdaaGreat.T

namespace Go.Proofs.YtcppnmohgaobdaaGreat.T
open Go Go.RowKit Lin
end Go.Proofs.YtcppnmohgaobdaaGreat.T

namespace Go.Proofs.YtcppnmohgaobdaaGreat.T
open Go Go.RowKit Lin
end Go.Proofs.YtcppnmohgaobdaaGreat.T

namespace Go.Proofs.YtcppnmohgaobdaaGreat.T
open Go Go.RowKit Lin
end Go.Proofs.YtcppnmohgaobdaaGreat.T

