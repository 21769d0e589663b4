import Derived.Test.YtjjpjgnoanfaoaaGreatQMQX
import Derived.Test.YtjjpjgnoanfaoaaGreatQVS
import Derived.Test.YtjjpjgnoanfaoaaGreatQGR
set_option linter.all false
namespace Go.Proofs.YtjjpjgnoanfaoaaGreat.T
open Go Go.RowKit Lin
set_option linter.unusedSimpArgs false

/-! Chapter 16: a system without a rope. -/
/-! Chapter 16: what vanishes, and what depends on the set of the fixed ropes alone (plain). -/
/-! The fixed ropes as a list. -/
def rowR (bs : List Bk) (r : Rp) : List Int := bs.map fun b => pull b.nm r.hs
def fxR (s : Sy) : List Rp := s.rs.filter fun r => !r.hl
theorem colP_row {s : Sy} {i : Nat} {r : Rp} (hr : s.rs[i]? = some r) : colP (matS s) i = rowR s.bs r := by
  unfold colP matS rowR
  rw [List.map_map]
  refine List.map_congr_left fun b _ => ?_
  simp [at_, hr]
theorem fxR_take (s : Sy) : ∀ k, k ≤ s.rs.length → (fixP s.rs (-1) k).map (fun i => s.rs[i]?) = ((s.rs.take k).filter fun r => !r.hl).map some
  | 0, _ => rfl
  | k + 1, hk => by
    obtain ⟨r, hr⟩ : ∃ y, s.rs[k]? = some y := ⟨_, List.getElem?_eq_getElem (by omega)⟩
    have ih := fxR_take s k (by omega)
    rw [fixP_step hr, List.take_add_one, hr, Option.toList_some, List.filter_append, List.map_append, ← ih]
    cases hh : r.hl
    · have hk1 : (!((k : Int) == -1)) = true := by simp
      rw [if_pos (by simpa using hk1), List.map_append]
      simp [hr, hh]
    · simp [hh]
theorem fxR_get (s : Sy) : (fixA s).map (fun i => s.rs[i]?) = (fxR s).map some := by
  have := fxR_take s s.rs.length (Nat.le_refl _)
  rw [List.take_length] at this
  exact this
theorem fxR_at {s : Sy} {k : Nat} {r : Rp} : (fxR s)[k]? = some r ↔ ∃ i, (fixA s)[k]? = some i ∧ s.rs[i]? = some r := by
  have h := congrArg (·[k]?) (fxR_get s)
  simp only [List.getElem?_map] at h
  constructor
  · intro hr
    rw [hr] at h
    cases hi : (fixA s)[k]? with
    | none => rw [hi] at h; simp at h
    | some i => rw [hi] at h; exact ⟨i, rfl, by simpa using h⟩
  · rintro ⟨i, hi, hr⟩
    rw [hi] at h
    simp only [Option.map_some, hr] at h
    cases hx : (fxR s)[k]? with
    | none => rw [hx] at h; simp at h
    | some q => rw [hx] at h; simp at h; rw [h]
theorem fxR_len (s : Sy) : (fxR s).length = (fixA s).length := by
  have := congrArg List.length (fxR_get s)
  simpa using this.symm
/-! The rank of some ropes' rows. -/
def rkB (bs : List Bk) (M : List Rp) : Nat := rankP (M.map (rowR bs)) bs.length
theorem rkB_is {s : Sy} (ok : OkS s) {M : List Rp} (hM : M.length ≤ 6) (h : ∀ r ∈ M, r ∈ s.rs) : IsRank ((M.map (rowR s.bs)).map at_) s.bs.length (rkB s.bs M) := by
  have hent : ∀ r ∈ M.map (rowR s.bs), r.length = s.bs.length ∧ ∀ x ∈ r, -32 ≤ x ∧ x ≤ 32 := fun r hr => by
    obtain ⟨q, hq, rfl⟩ := List.mem_map.1 hr
    refine ⟨by simp [rowR], fun x hx => ?_⟩
    obtain ⟨b, _, rfl⟩ := List.mem_map.1 hx
    have h1 := pull_bound (nm := b.nm) (ok.pulls q (h q hq))
    have h2 := (ok.holds q (h q hq)).2.1
    omega
  exact rk_isRank ⟨by simpa using hM, fun r hr => (hent r hr).1, Nat.le_refl _, fun r hr j _ => at_bound (by decide) (hent r hr).2 j, fun r hr j => by
    have := at_bound (x := 32) (by decide) (hent r hr).2 j
    omega⟩
theorem rkB_rows {s t : Sy} (ok : OkS s) (ok' : OkS t) (hb : t.bs = s.bs) {M N : List Rp} (hM : M.length ≤ 6) (hN : N.length ≤ 6) (h1 : ∀ r ∈ M, r ∈ s.rs) (h2 : ∀ r ∈ N, r ∈ t.rs) (h : ∀ x, x ∈ M.map (rowR s.bs) ↔ x ∈ N.map (rowR s.bs)) : rkB s.bs M = rkB s.bs N := by
  have i1 := rkB_is ok hM h1
  have i2 := rkB_is ok' hN h2
  rw [hb] at i2
  refine (isRank_mem i1 fun x => ?_).uniq i2
  constructor
  · intro hx
    obtain ⟨y, hy, rfl⟩ := List.mem_map.1 hx
    exact List.mem_map.2 ⟨y, (h y).1 hy, rfl⟩
  · intro hx
    obtain ⟨y, hy, rfl⟩ := List.mem_map.1 hx
    exact List.mem_map.2 ⟨y, (h y).2 hy, rfl⟩
theorem fxR_sub {s : Sy} : ∀ r ∈ fxR s, r ∈ s.rs := fun _ hr => (List.mem_filter.1 hr).1
theorem fxR_six {s : Sy} (ok : OkS s) : (fxR s).length ≤ 6 := by rw [fxR_len]; exact fixA_le ok
theorem rowsF_list (s : Sy) {L : List Nat} {X : List Rp} (h : L.map (fun i => s.rs[i]?) = X.map some) : rowsF s L = X.map (rowR s.bs) := by
  refine List.ext_getElem? fun k => ?_
  have hk := congrArg (·[k]?) h
  simp only [List.getElem?_map] at hk
  unfold rowsF
  rw [List.getElem?_map, List.getElem?_map]
  cases hi : L[k]? with
  | none =>
    rw [hi] at hk
    cases hx : X[k]? with
    | none => rfl
    | some r => rw [hx] at hk; simp at hk
  | some i =>
    rw [hi] at hk
    cases hx : X[k]? with
    | none => rw [hx] at hk; simp at hk
    | some r =>
      rw [hx] at hk
      have hr : s.rs[i]? = some r := by simpa using hk
      simp only [Option.map_some]
      rw [trS_getD s (List.getElem?_eq_some_iff.1 hr).1, colP_row hr]
theorem rankP_nil (n : Nat) : rankP ([] : List (List Int)) n = 0 := by
  obtain ⟨S, C, h1, h2, _⟩ := rk_isRank (m := []) (w := n) ⟨by simp, by simp, Nat.le_refl _, by simp, by simp⟩
  cases S with
  | nil => simpa using h2.symm
  | cons a l => exact absurd (h1 a (by simp)) (by simp)
theorem rkF_list {s : Sy} (ok : OkS s) {L : List Nat} {X : List Rp} (hl : L.length ≤ 6) (h : L.map (fun i => s.rs[i]?) = X.map some) : rkF s L = rkB s.bs X := by
  unfold rkF rkB
  rw [← rowsF_list s h]
  by_cases h0 : L = []
  · subst h0
    have e2 : rowsF s [] = [] := rfl
    rw [e2, rankP_nil, rankP_nil]
  · have hL : ∀ i ∈ L, i < s.rs.length := fun i hi => by
      obtain ⟨k, hk⟩ := List.mem_iff_getElem?.1 hi
      have h1 := congrArg (·[k]?) h
      simp only [List.getElem?_map, hk, Option.map_some] at h1
      cases hx : X[k]? with
      | none => rw [hx] at h1; simp at h1
      | some r =>
        rw [hx] at h1
        exact (List.getElem?_eq_some_iff.1 (show s.rs[i]? = some r by simpa using h1)).1
    rw [(rowsF_valid ok h0 hl hL).2.1]
/-! The redundant ropes by their names. -/
theorem fxR_inj {s : Sy} (ok : OkS s) {i j : Nat} {x y : Rp} (hi : (fxR s)[i]? = some x) (hj : (fxR s)[j]? = some y) (h : x.nm = y.nm) : i = j := by
  obtain ⟨a, ha, hx⟩ := fxR_at.1 hi
  obtain ⟨b, hb, hy⟩ := fxR_at.1 hj
  have := ok.rinj a b x y hx hy h
  subst this
  exact (List.getElem?_inj (List.getElem?_eq_some_iff.1 ha).1 (fixA_nodup s)).1 (ha.trans hb.symm)
def butR (s : Sy) (nm : ByteArray) : List Rp := (fxR s).filter fun q => !decide (q.nm = nm)
theorem butR_mem {s : Sy} {nm : ByteArray} {q : Rp} : q ∈ butR s nm ↔ q ∈ fxR s ∧ q.nm ≠ nm := by simp [butR]
theorem butR_six {s : Sy} (ok : OkS s) (nm : ByteArray) : (butR s nm).length ≤ 6 := Nat.le_trans (List.length_filter_le _ _) (fxR_six ok)
def redR (s : Sy) (r : Rp) : Bool := decide (rkB s.bs (butR s r.nm) = rkB s.bs (fxR s))
theorem filt_range {α β : Type} (X : List α) (p : Nat → Bool) (q : α → Bool) (g : Nat → β) (h : α → β) (hp : ∀ i x, X[i]? = some x → p i = q x) (hg : ∀ i x, X[i]? = some x → g i = h x) : ∀ k, k ≤ X.length → ((List.range k).filter p).map g = ((X.take k).filter q).map h
  | 0, _ => rfl
  | k + 1, hk => by
    obtain ⟨x, hx⟩ : ∃ y, X[k]? = some y := ⟨_, List.getElem?_eq_getElem (by omega)⟩
    have ih := filt_range X p q g h hp hg k (by omega)
    rw [List.range_succ, List.take_add_one, hx, Option.toList_some, List.filter_append, List.filter_append, List.map_append, List.map_append, ih]
    congr 1
    have e := hp k x hx
    cases hq : q x
    · rw [hq] at e
      simp [e, hq]
    · rw [hq] at e
      simp [e, hq, hg k x hx]
theorem map_erase_some {s : Sy} {L : List Nat} {X : List Rp} (h : L.map (fun i => s.rs[i]?) = X.map some) (k : Nat) : (L.eraseIdx k).map (fun i => s.rs[i]?) = (X.eraseIdx k).map some := by
  rw [← erase_map, ← erase_map, h]
theorem redB_is {s : Sy} (ok : OkS s) {k : Nat} {r : Rp} (hr : (fxR s)[k]? = some r) : redB s (fixA s) k = redR s r := by
  have hkl := (List.getElem?_eq_some_iff.1 hr).1
  have h6 := fixA_le ok
  have hel : ((fixA s).eraseIdx k).length ≤ 6 := Nat.le_trans (List.length_eraseIdx_le _ _) h6
  have e1 := rkF_list ok h6 (fxR_get s)
  have e2 := rkF_list ok hel (map_erase_some (fxR_get s) k)
  have e3 : rkB s.bs ((fxR s).eraseIdx k) = rkB s.bs (butR s r.nm) := by
    refine rkB_rows ok ok rfl (Nat.le_trans (List.length_eraseIdx_le _ _) (fxR_six ok)) (butR_six ok _) (fun q hq => fxR_sub q (List.mem_of_mem_eraseIdx hq)) (fun q hq => fxR_sub q (butR_mem.1 hq).1) fun x => ?_
    have hm : ∀ q, q ∈ (fxR s).eraseIdx k ↔ q ∈ butR s r.nm := fun q => by
      rw [butR_mem, List.mem_eraseIdx_iff_getElem?]
      constructor
      · rintro ⟨i, hne, hi⟩
        exact ⟨List.mem_of_getElem? hi, fun e => hne (fxR_inj ok hi hr e)⟩
      · rintro ⟨hq, hne⟩
        obtain ⟨i, hi⟩ := List.mem_iff_getElem?.1 hq
        refine ⟨i, fun e => hne ?_, hi⟩
        subst e
        rw [hr] at hi
        cases hi
        rfl
    simp only [List.mem_map, hm]
  unfold redB redR
  rw [e1, e2, e3, Bool.eq_iff_iff]
  simp
theorem redP_fx {s : Sy} (hv : validS s = true) : redP s = (((fxR s).filter (redR s)).map (·.nm), 0) := by
  have ok := validS_ok hv
  have e : redP s = (redN s (fixA s) (fixA s).length, 0) := by simp [redP, hv]
  rw [e]
  congr 1
  unfold redN
  have h := filt_range (fxR s) (redB s (fixA s)) (redR s) (fun i => (s.rs.getD ((fixA s).getD i 0) ⟨ByteArray.empty, [], false⟩).nm) (·.nm) (fun i x hx => redB_is ok hx) (fun i x hx => by
    obtain ⟨a, ha, hr⟩ := fxR_at.1 hx
    rw [List.getD_eq_getElem?_getD (l := fixA s), ha, Option.getD_some, List.getD_eq_getElem?_getD, hr]
    rfl) (fxR s).length (Nat.le_refl _)
  rw [List.take_length, fxR_len] at h
  exact h
/-! Other systems of the same ropes. -/
/-! MobilityRemoves. -/
end Go.Proofs.YtjjpjgnoanfaoaaGreat.T

namespace Go.Proofs.YtjjpjgnoanfaoaaGreat.T
open Go Go.RowKit Lin
theorem gdzb6_GRS {F C1 C2 C3 C4 C5 C6 P Q : Prop} (f : F) (c1 : C1) (c2 : C2) (c3 : C3) (c4 : C4) (c5 : C5) (c6 : C6) (q : Q) (h : F → C1 → C2 → C3 → C4 → C5 → C6 → Q → P := by
  intro ff cc1 cc2 cc3 cc4 cc5 cc6 hq
  (try with_reducible intro KR hKR)
  (repeat refine AW_seq ?_); (repeat refine AW_seq ?_); (refine AW_drawn_k tab_ok follows_mixed 0 fun KR hKR => ?_); simp only [List.replicate_succ, List.replicate_zero, List.append_nil, List.nil_append, List.cons_append, List.length_cons, List.length_nil, Nat.reduceAdd]; (repeat' ((first | refine awD_n rfl fun KK hKK => ?_ | refine awD_g rfl rfl fun KK hKK => ?_ | refine awD_gc rfl fun KK hKK => ?_ | refine awD_nc fun KK hKK => ?_); simp (disch := omega) only [bb, bt, zDs, zD, eqCells, simprocAttr, ff, bne_self_eq_false, Int.reduceBNe, Int.reduceBEq, Bool.bne_false, Bool.bne_true, Bool.false_bne, Bool.true_bne, goCDS, callDS_fn, argsZ, argsD, ufa, uf]; (try ((first | with_reducible refine PGive.ret (cc1) ?_ | with_reducible refine PGive.ret (cc2) ?_ | with_reducible refine PGive.ret (cc3) ?_ | with_reducible refine PGive.ret (cc4) ?_ | with_reducible refine PGive.ret (cc5) ?_ | with_reducible refine PGive.ret (cc6) ?_); simp (disch := omega) only [bb, bt, zDs, zD, eqCells, simprocAttr, afterDS, ff, bne_self_eq_false, Int.reduceBNe, Int.reduceBEq, Bool.bne_false, Bool.bne_true, Bool.false_bne, Bool.true_bne])); refine hKK _ _ _ ?_; clear hKK KK)); (refine awD_nil ?_); simp only [List.reverse_cons, List.reverse_nil, List.nil_append, List.cons_append]; (refine hKR _ _ (by first | rfl | kernel_rfl) ?_); (try clear hKR KR); (repeat (with_reducible first | refine q1 ?_ | refine q2 ?_ | refine q3 ?_ | refine q4 ?_ | refine q5 ?_ | refine q6 ?_ | (refine q7 ?_ ?_; (focus (with_unfolding_all rfl)))))
  (first | exact hq | (revert hKR; revert KR; exact hq))) : P := h f c1 c2 c3 c4 c5 c6 q
set_option linter.unusedSimpArgs false

/-! Chapter 16: the reference's jammed blocks, redundant ropes, witnesses. -/
theorem any_step {α : Type} (p : α → Bool) {l : List α} {k : Nat} {x : α} (h : l[k]? = some x) : (l.take (k + 1)).any p = ((l.take k).any p || p x) := by
  rw [List.take_add_one, h, Option.toList_some, List.any_append]
  simp
theorem bkC_oneN {l : List Bk} {i : Nat} {b : Bk} (h : l[i]? = some b) : ((bkC l).drop (i * 2)).take 1 = [str b.nm] := by
  have := bkC_name l i b h
  obtain ⟨h1, h2⟩ := List.getElem?_eq_some_iff.1 this
  rw [List.drop_eq_getElem_cons h1, h2]
  rfl
set_option maxHeartbeats 4000000 in
theorem jammed_ref (s : Sy) (hv : validS s = true) : PRet Tryz.prog 24 [syD s] (strsD (jamN s.bs (modesP s).1 s.bs.length)) := by
  refine PRet.intro 1 fun t => ACall.enter tab_ok Tryz.func24 rfl rfl Tryz.ntmps24 (by simp) ?_
  simp only [enterTM]
  have hM := modes_ref s hv
  have hdb := bkC_div s.bs
  have hb6 := (validS_ok hv).b6
  obtain ⟨ml, mn, _⟩ := modesP_facts s
  generalize (modesP s).1 = L at *
  ((refine gga1 hM ?_))
  refine AW.begin 4 1 9 rfl (by decide) ?_
  simp only [putTM, List.length_cons, List.length_nil, Nat.reduceEqDiff, ↓reduceIte, List.cons_append, List.nil_append]
  refine AW_mid (fun x : Nat × Nat => ⟨[(4, .own 1 1 x.1 0 (jamN s.bs L s.bs.length).length)], [none, some ⟨9, x.1, (jamN s.bs L s.bs.length).map str⟩], x.2⟩) (fun _ => True) ?_ ?_
  · refine AW_block ?_
    refine AW_loop_w (fun x : Nat × Nat × Nat => ⟨[(1, .ptr 0 (t + 1) 0), (3, frss L), (4, .own 1 1 x.2.1 0 (jamN s.bs L x.1).length), (5, int x.1)], [some ⟨25, t + 1, [bks s.bs, rps s.rs]⟩, some ⟨9, x.2.1, (jamN s.bs L x.1).map str⟩], x.2.2⟩) (fun x => s.bs.length - x.1) (fun x => x.1 ≤ s.bs.length) (0, t + 1 + 1, t + 1 + 1) (Nat.zero_le _) (by (simp (disch := omega) only [StLe, tmLe, hpLe_refl, hpLe, bl, bb, bt, zDs, zD, eqCells, simprocAttr, jamN, List.range_zero, List.filter_nil, List.map_nil, List.length_nil])) ?_
    rintro ⟨k, g, tt⟩ hk
    simp only at hk
    by_cases hlt : k < s.bs.length
    · obtain ⟨b, hb⟩ : ∃ y, s.bs[k]? = some y := ⟨_, List.getElem?_eq_getElem hlt⟩
      have hra := bkC_read s.bs k b hb
      have hrn := bkC_name s.bs k b hb
      have hr1 := bkC_oneN hb
      have hst := jamN_step (L := L) hb
      have hjl := jamN_len s.bs L k
      generalize jamN s.bs L k = J at *
      ((refine ggb0 (F := _∧_∧_) ⟨@Int.ofNat_lt, hlt, hdb⟩ ?_))
      ((repeat refine AW_seq ?_))
      refine AW_block ?_
      ((refine gga0 ?_))
      refine AW_mid (fun x : Nat => ⟨[(1, .ptr 0 (t + 1) 0), (3, frss L), (4, .own 1 1 g 0 J.length), (5, int k), (6, bool (L.any (movB k)))], [some ⟨25, t + 1, [bks s.bs, rps s.rs]⟩, some ⟨9, g, J.map str⟩], x⟩) (fun _ => True) ?_ ?_
      · refine AW_block ?_
        refine AW_loop_w (fun x : Nat × Nat => ⟨[(1, .ptr 0 (t + 1) 0), (3, frss L), (4, .own 1 1 g 0 J.length), (5, int k), (6, bool ((L.take x.1).any (movB k))), (7, int x.1)], [some ⟨25, t + 1, [bks s.bs, rps s.rs]⟩, some ⟨9, g, J.map str⟩], x.2⟩) (fun x => L.length - x.1) (fun x => x.1 ≤ L.length) (0, tt) (Nat.zero_le _) (by (simp (disch := omega) only [StLe, tmLe, hpLe_refl, hpLe, bl, bb, bt, zDs, zD, eqCells, simprocAttr, List.take_zero, List.any_nil])) ?_
        rintro ⟨j, t2⟩ hj
        simp only at hj
        by_cases hjn : j < L.length
        · obtain ⟨v, hvj⟩ : ∃ y, L[j]? = some y := ⟨_, List.getElem?_eq_getElem hjn⟩
          have hvl := ml v (List.mem_of_getElem? hvj)
          have hkv : k < v.length := by omega
          obtain ⟨f, hf⟩ : ∃ y, v[k]? = some y := ⟨_, List.getElem?_eq_getElem hkv⟩
          have hfr := frC_read v k f hf
          have hfo := frC_one hf
          have hfg := frC_get v k f hf
          have hfd := frC_div v
          have hmv : movB k v = (f.1 != 0) := by unfold movB; rw [List.getD_eq_getElem?_getD, hf]; rfl
          have hsa := any_step (movB k) hvj
          rw [hmv] at hsa
          cases hA : (L.take j).any (movB k)
          · rw [hA, Bool.false_or] at hsa
            ((refine ggb0 (F := _∧_) ⟨@Int.ofNat_lt, hjn⟩ ?_))
            ((repeat refine AW_seq ?_))
            refine AW_block ?_
            ((refine ggb0 (F := _∧_∧_∧_∧_∧_∧_) ⟨hjn, hvj, hkv, hfd, hfr, hfo, hfg⟩ ?_))
            refine ⟨(j + 1, t2), hjn, by show L.length - (j + 1) < L.length - j; omega, ?_⟩
            simp only [hsa]
            (simp (disch := omega) only [StLe, tmLe, hpLe_refl, hpLe, bl, bb, bt, zDs, zD, eqCells, simprocAttr])
          · rw [hA, Bool.true_or] at hsa
            ((refine ggb0 (F := _∧_) ⟨@Int.ofNat_lt, hjn⟩ ?_))
            ((repeat refine AW_seq ?_))
            refine AW_block ?_
            ((refine ggb0 (F := _∧_∧_∧_∧_∧_∧_) ⟨hjn, hvj, hkv, hfd, hfr, hfo, hfg⟩ ?_))
            refine ⟨(j + 1, t2), hjn, by show L.length - (j + 1) < L.length - j; omega, ?_⟩
            simp only [hsa]
            (simp (disch := omega) only [StLe, tmLe, hpLe_refl, hpLe, bl, bb, bt, zDs, zD, eqCells, simprocAttr])
        · have hje : j = L.length := by omega
          subst hje
          rw [List.take_length]
          ((refine wqb @Int.lt_irrefl ?_))
          ((refine wia ?_))
          ((refine wxa ?_))
          exact ⟨t2, trivial, by (simp (disch := omega) only [StLe, tmLe, hpLe_refl, hpLe, bl, bb, bt, zDs, zD, eqCells, simprocAttr])⟩
      rintro t2 -
      cases hA : L.any (movB k)
      · rw [hA, if_neg (by decide)] at hst
        ((refine ggb0 (F := _∧_∧_∧_∧_) ⟨hlt, hdb, hra, hrn, hr1⟩ ?_))
        refine ⟨(k + 1, t2 + 1, t2 + 1), hlt, by show s.bs.length - (k + 1) < s.bs.length - k; omega, ?_⟩
        simp only [hst, List.length_append, List.length_cons, List.length_nil, List.map_append, List.map_cons, List.map_nil]
        (simp (disch := omega) only [StLe, tmLe, hpLe_refl, hpLe, bl, bb, bt, zDs, zD, eqCells, simprocAttr])
      · rw [hA, if_pos rfl] at hst
        ((refine ggb0 (F := _∧_∧_) ⟨hlt, hdb, hra⟩ ?_))
        refine ⟨(k + 1, g, t2), hlt, by show s.bs.length - (k + 1) < s.bs.length - k; omega, ?_⟩
        simp only [hst]
        (simp (disch := omega) only [StLe, tmLe, hpLe_refl, hpLe, bl, bb, bt, zDs, zD, eqCells, simprocAttr])
    · have hke : k = s.bs.length := by omega
      subst hke
      ((refine wqb (F := _∧_) ⟨@Int.lt_irrefl, hdb⟩ ?_))
      ((refine wia ?_))
      ((refine wxa ?_))
      exact ⟨(g, tt), trivial, by (simp (disch := omega) only [StLe, tmLe, hpLe_refl, hpLe, bl, bb, bt, zDs, zD, eqCells, simprocAttr])⟩
  rintro ⟨g, tt⟩ -
  generalize jamN s.bs L s.bs.length = J at *
  have hfin : List.take J.length (J.map str) = J.map str := List.take_of_length_le (by simp)
  ((refine AW.freeze (1) (by first | rfl | (simp only [setH, List.getElem?_cons_zero, List.getElem?_cons_succ, hfin, fzS_str, List.length_map, Nat.le_refl]; done)) ?_); simp (disch := omega) only [fzT, fz, fzL, fzL_ints, fzL_mat, fzH, fzB, eq_self, bb, bt, zDs, zD, eqCells, simprocAttr, hfin, fzS_str, List.length_map, Nat.le_refl])
  ((refine gga0 ?_))
  ((repeat refine AW_seq ?_); (refine wta ?_); simp (disch := omega) only [retQ, resD, oneD, bb, bt, zDs, zD, eqCells, simprocAttr, Tryz.results24])
  exact rsv_tidy _ _ (by simp only [tidyD, tidy_strs, Bool.not_false, Bool.and_self])
theorem erase_filter {i : Nat} : ∀ {L : List Nat}, L.Nodup → ∀ k, L[k]? = some i → L.eraseIdx k = L.filter fun j => !(j == i)
  | [], _, k, h => by simp at h
  | a :: l, hn, k, h => by
    rw [List.nodup_cons] at hn
    cases k with
    | zero =>
      simp only [List.getElem?_cons_zero, Option.some.injEq] at h
      subst h
      rw [List.eraseIdx_cons_zero, List.filter_cons_of_neg (by simp)]
      symm
      rw [List.filter_eq_self]
      intro b hb
      simp only [Bool.not_eq_true', beq_eq_false_iff_ne]
      rintro rfl
      exact hn.1 hb
    | succ k =>
      simp only [List.getElem?_cons_succ] at h
      have hm := List.mem_of_getElem? h
      rw [List.eraseIdx_cons_succ, erase_filter hn.2 k h, List.filter_cons_of_pos]
      simp only [Bool.not_eq_true', beq_eq_false_iff_ne]
      rintro rfl
      exact hn.1 hm
theorem fixP_but {s : Sy} {k i : Nat} (h : (fixA s)[k]? = some i) : fixP s.rs (i : Int) s.rs.length = (fixA s).eraseIdx k := by
  rw [erase_filter (fixA_nodup s) k h]
  unfold fixA fixP
  rw [List.filter_filter]
  refine List.filter_congr fun j _ => ?_
  unfold fixB
  have e1 : ((j : Int) == -1) = false := by simpa using (by omega : (j : Int) ≠ -1)
  have e2 : ((j : Int) == (i : Int)) = (j == i) := by rw [Bool.eq_iff_iff]; simp; omega
  rw [e1, e2]
  cases (j == i) <;> simp
def isR (s : Sy) (i : Nat) : Bool := (match s.rs[i]? with | some r => !r.hl | none => false) && (rkF s (fixP s.rs (i : Int) s.rs.length) == rkF s (fixA s))
theorem rk_ref {s : Sy} (ok : OkS s) {L : List Nat} (h1 : L.length ≤ 6) (h2 : ∀ i ∈ L, i < s.rs.length) : PRet Tryz.prog 160 [mat (rowsF s L)] (int (rkF s L)) := by
  refine rank_ref _ (by rw [rowsF_len]; omega) (fun h => ?_)
  exact (rowsF_valid ok (fun e => h (by subst e; rfl)) h1 h2).1
theorem fixP_six {s : Sy} (ok : OkS s) (but : Int) : (fixP s.rs but s.rs.length).length ≤ 6 := Nat.le_trans (fixP_len s.rs but s.rs.length) ok.r6
set_option maxHeartbeats 2000000 in
theorem is_ref (s : Sy) (hv : validS s = true) {i : Nat} {r : Rp} (hr : s.rs[i]? = some r) : PRet Tryz.prog 91 [syD s, int i] (bool (isR s i)) := by
  refine PRet.intro 1 fun t => ACall.enter tab_ok Tryz.func91 rfl rfl Tryz.ntmps91 (by simp) ?_
  simp only [enterTM]
  have ok := validS_ok hv
  have hr6 := ok.r6
  have hdr := rpC_div s.rs
  have hil := (List.getElem?_eq_some_iff.1 hr).1
  have hra : (rpC s.rs)[i * 3 + 2]? = some (bool r.hl) := rpC_cell s.rs i r hr 2 (by decide)
  have e : isR s i = (!r.hl && (rkF s (fixP s.rs (i : Int) s.rs.length) == rkF s (fixA s))) := by unfold isR; rw [hr]
  rw [e]
  cases hh : r.hl
  · rw [hh] at hra
    have hF1 := fixed_ref s (i : Int) (by omega)
    have hF2 : PRet Tryz.prog 82 [syD s, int (-1)] (ints (nums (fixA s))) := fixed_ref s (-1) (by omega)
    have l1 := fixP_six ok (i : Int)
    have l2 := fixA_le ok
    have m1 : ∀ j ∈ fixP s.rs (i : Int) s.rs.length, j < s.rs.length := fun j hj => fixP_lt hj
    have m2 : ∀ j ∈ fixA s, j < s.rs.length := fun j hj => fixP_lt hj
    have hR1 := rows_ref s hv _ (show (fixP s.rs (i : Int) s.rs.length).length ≤ 1000 by omega) m1
    have hR2 := rows_ref s hv _ (show (fixA s).length ≤ 1000 by omega) m2
    have hK1 := rk_ref ok l1 m1
    have hK2 := rk_ref ok l2 m2
    generalize rkF s (fixP s.rs (i : Int) s.rs.length) = A at *
    generalize rkF s (fixA s) = B at *
    have hcast : ((A : Int) == (B : Int)) = (A == B) := by rw [Bool.eq_iff_iff]; simp; omega
    rw [Bool.not_false, Bool.true_and]
    ((refine gga0 ?_))
    ((repeat refine AW_seq ?_); (refine gdzb6_GRS (F := _∧_∧_∧_) ⟨hdr, hil, hra, hcast⟩ hF1 hR1 hK1 hF2 hR2 hK2 ?_))
    ((refine gga0 ?_))
    ((repeat refine AW_seq ?_); (refine wta ?_); simp (disch := omega) only [retQ, resD, oneD, rsv, rs, rsL, rsL_eq_map, List.map_map, bb, bt, zDs, zD, eqCells, simprocAttr, Tryz.results91])
  · rw [hh] at hra
    ((refine gga0 ?_))
    ((repeat refine AW_seq ?_); (refine gdzb (F := _∧_∧_) ⟨hdr, hil, hra⟩ ?_))
    ((refine gga0 ?_))
    ((repeat refine AW_seq ?_); (refine wta ?_); simp (disch := omega) only [retQ, resD, oneD, rsv, rs, rsL, rsL_eq_map, List.map_map, bb, bt, zDs, zD, eqCells, simprocAttr, Tryz.results91])
def redI (s : Sy) (k : Nat) : List ByteArray := ((List.range k).filter (isR s)).map fun i => (s.rs.getD i ⟨ByteArray.empty, [], false⟩).nm
theorem redI_step {s : Sy} {k : Nat} {r : Rp} (hr : s.rs[k]? = some r) : redI s (k + 1) = if isR s k = true then redI s k ++ [r.nm] else redI s k := by
  unfold redI
  rw [List.range_succ, List.filter_append, List.map_append]
  have e : (s.rs.getD k ⟨ByteArray.empty, [], false⟩).nm = r.nm := by rw [List.getD_eq_getElem?_getD, hr]; rfl
  cases h : isR s k
  · rw [List.filter_cons_of_neg (by simp [h])]
    simp
  · rw [List.filter_cons_of_pos (by simp [h]), List.filter_nil, List.map_cons, List.map_nil, e]
    simp
theorem redI_len (s : Sy) (k : Nat) : (redI s k).length ≤ k := by
  have := List.length_filter_le (isR s) (List.range k)
  simpa [redI] using this
theorem isR_red {s : Sy} (hv : validS s = true) {i : Nat} {r : Rp} (hr : s.rs[i]? = some r) : isR s i = (!r.hl && redR s r) := by
  have ok := validS_ok hv
  unfold isR
  rw [hr]
  cases hh : r.hl
  · have hm := (fixA_mem hr).2 hh
    obtain ⟨k, hk⟩ := List.mem_iff_getElem?.1 hm
    rw [fixP_but hk]
    have := redB_is ok (fxR_at.2 ⟨i, hk, hr⟩)
    unfold redB at this
    rw [this]
    simp [hh]
  · simp [hh]
theorem redI_is {s : Sy} (hv : validS s = true) : redI s s.rs.length = (redP s).1 := by
  rw [redP_fx hv]
  have h := filt_range s.rs (isR s) (fun r => !r.hl && redR s r) (fun i => (s.rs.getD i ⟨ByteArray.empty, [], false⟩).nm) (·.nm) (fun i x hx => isR_red hv hx) (fun i x hx => by rw [List.getD_eq_getElem?_getD, hx]; rfl) s.rs.length (Nat.le_refl _)
  rw [List.take_length] at h
  unfold redI
  rw [h]
  unfold fxR
  rw [List.filter_filter]
  congr 1
  refine List.filter_congr fun r _ => ?_
  rw [Bool.and_comm]
set_option maxHeartbeats 4000000 in
theorem redundant_ref (s : Sy) (hv : validS s = true) : PRet Tryz.prog 28 [syD s] (strsD (redP s).1) := by
  rw [← redI_is hv]
  refine PRet.intro 1 fun t => ACall.enter tab_ok Tryz.func28 rfl rfl Tryz.ntmps28 (by simp) ?_
  simp only [enterTM]
  have hdr := rpC_div s.rs
  have hr6 := (validS_ok hv).r6
  ((refine gga0 ?_))
  refine AW.begin 3 1 9 rfl (by decide) ?_
  simp only [putTM, List.length_cons, List.length_nil, Nat.reduceEqDiff, ↓reduceIte, List.cons_append, List.nil_append]
  refine AW_mid (fun x : Nat × Nat => ⟨[(3, .own 1 1 x.1 0 (redI s s.rs.length).length)], [none, some ⟨9, x.1, (redI s s.rs.length).map str⟩], x.2⟩) (fun _ => True) ?_ ?_
  · refine AW_block ?_
    refine AW_loop_w (fun x : Nat × Nat × Nat => ⟨[(1, .ptr 0 (t + 1) 0), (3, .own 1 1 x.2.1 0 (redI s x.1).length), (4, int x.1)], [some ⟨25, t + 1, [bks s.bs, rps s.rs]⟩, some ⟨9, x.2.1, (redI s x.1).map str⟩], x.2.2⟩) (fun x => s.rs.length - x.1) (fun x => x.1 ≤ s.rs.length) (0, t + 1 + 1, t + 1 + 1) (Nat.zero_le _) (by (simp (disch := omega) only [StLe, tmLe, hpLe_refl, hpLe, bl, bb, bt, zDs, zD, eqCells, simprocAttr, redI, List.range_zero, List.filter_nil, List.map_nil, List.length_nil])) ?_
    rintro ⟨k, g, tt⟩ hk
    simp only at hk
    by_cases hlt : k < s.rs.length
    · obtain ⟨r, hr⟩ : ∃ y, s.rs[k]? = some y := ⟨_, List.getElem?_eq_getElem hlt⟩
      have hra := rpC_get s.rs k r hr
      have hrb := rpC_one hr
      have hst := redI_step hr
      have hjl := redI_len s k
      have hI := is_ref s hv hr
      generalize redI s k = J at *
      cases hb : isR s k
      · rw [hb] at hst hI
        rw [if_neg (by decide)] at hst
        ((refine ggb0 (F := _∧_∧_) ⟨@Int.ofNat_lt, hlt, hdr⟩ ?_))
        ((repeat refine AW_seq ?_))
        refine AW_block ?_
        ((refine ggb1 (F := _∧_) ⟨hlt, hdr⟩ hI ?_))
        refine ⟨(k + 1, g, tt), hlt, by show s.rs.length - (k + 1) < s.rs.length - k; omega, ?_⟩
        simp only [hst]
        (simp (disch := omega) only [StLe, tmLe, hpLe_refl, hpLe, bl, bb, bt, zDs, zD, eqCells, simprocAttr])
      · rw [hb] at hst hI
        rw [if_pos rfl] at hst
        ((refine ggb0 (F := _∧_∧_) ⟨@Int.ofNat_lt, hlt, hdr⟩ ?_))
        ((repeat refine AW_seq ?_))
        refine AW_block ?_
        ((refine ggb1 (F := _∧_∧_∧_) ⟨hlt, hdr, hra, hrb⟩ hI ?_))
        refine ⟨(k + 1, tt + 1, tt + 1), hlt, by show s.rs.length - (k + 1) < s.rs.length - k; omega, ?_⟩
        simp only [hst, List.length_append, List.length_cons, List.length_nil, List.map_append, List.map_cons, List.map_nil]
        (simp (disch := omega) only [StLe, tmLe, hpLe_refl, hpLe, bl, bb, bt, zDs, zD, eqCells, simprocAttr])
    · have hke : k = s.rs.length := by omega
      subst hke
      ((refine wqb (F := _∧_) ⟨@Int.lt_irrefl, hdr⟩ ?_))
      ((refine wia ?_))
      ((refine wxa ?_))
      exact ⟨(g, tt), trivial, by (simp (disch := omega) only [StLe, tmLe, hpLe_refl, hpLe, bl, bb, bt, zDs, zD, eqCells, simprocAttr])⟩
  rintro ⟨g, tt⟩ -
  generalize redI s s.rs.length = J at *
  have hfin : List.take J.length (J.map str) = J.map str := List.take_of_length_le (by simp)
  ((refine AW.freeze (1) (by first | rfl | (simp only [setH, List.getElem?_cons_zero, List.getElem?_cons_succ, hfin, fzS_str, List.length_map, Nat.le_refl]; done)) ?_); simp (disch := omega) only [fzT, fz, fzL, fzL_ints, fzL_mat, fzH, fzB, eq_self, bb, bt, zDs, zD, eqCells, simprocAttr, hfin, fzS_str, List.length_map, Nat.le_refl])
  ((refine gga0 ?_))
  ((repeat refine AW_seq ?_); (refine wta ?_); simp (disch := omega) only [retQ, resD, oneD, bb, bt, zDs, zD, eqCells, simprocAttr, Tryz.results28])
  exact rsv_tidy _ _ (by simp only [tidyD, tidy_strs, Bool.not_false, Bool.and_self])
end Go.Proofs.YtjjpjgnoanfaoaaGreat.T

