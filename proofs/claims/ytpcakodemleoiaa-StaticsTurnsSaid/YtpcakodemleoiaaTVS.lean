import Derived.Test.YtpcakodemleoiaaTVJ
set_option linter.all false
section
namespace Go.Proofs.Ytpcakodemleoiaa.T
open Go Go.RowKit Lin
set_option linter.unusedSimpArgs false

/-! Equilibrium (plain). -/
theorem sub_same {w : Int} (h : vfrac w 1 = true) : subP (w, 1) (w, 1) = ((0, 1), 0) := by
  rw [subP_ok h h]
  unfold addR
  simp only
  by_cases h1 : w < 0
  · have h2 : ¬ (-w < 0) := by omega
    rw [decide_eq_true h1, decide_eq_false h2, if_neg (by decide), if_neg (by rw [Int.natAbs_neg]; exact Nat.lt_irrefl _)]
    simp [madeP, signP]
  · by_cases h3 : w = 0
    · subst h3; decide
    · have h2 : -w < 0 := by omega
      rw [decide_eq_false h1, decide_eq_true h2, if_neg (by decide), if_neg (by rw [Int.natAbs_neg]; exact Nat.lt_irrefl _)]
      simp [madeP, signP]
theorem resA_hold {l : List (Int × Int)} : ∀ (m : List (List Int)) (ws : List Int) (acc : List (Int × Int)), m.length = ws.length → (∀ w ∈ ws, vfrac w 1 = true) → (∀ (i : Nat) (r : List Int) (b : Int), m[i]? = some r → ws[i]? = some b → dotF r l (0, 1) = ((b, 1), 0) ∨ (dotF r l (0, 1)).2 = 5) →
    resA l m ws acc = (acc ++ List.replicate m.length (0, 1), 0) ∨ resA l m ws acc = ([], 5)
  | [], [], acc, _, _, _ => .inl (by simp [resA])
  | [], _ :: _, _, h, _, _ => by simp at h
  | _ :: _, [], _, h, _, _ => by simp at h
  | r :: m, w :: ws, acc, hl, hw, h => by
    simp only [resA]
    rcases h 0 r w (by simp) (by simp) with e | e
    · rw [e, if_pos rfl]
      simp only
      rw [sub_same (hw w (by simp)), if_pos rfl]
      have ih := resA_hold (l := l) m ws (acc ++ [(0, 1)]) (by simpa using hl) (fun y hy => hw y (List.mem_cons_of_mem _ hy)) fun (i : Nat) (r' : List Int) (b' : Int) h1 h2 => h (i + 1) r' b' (by simpa using h1) (by simpa using h2)
      refine ih.imp (fun e => ?_) id
      rw [e, List.length_cons, List.replicate_succ]
      simp
    · rw [e, if_neg (by decide)]
      exact .inr rfl
theorem resA_keeps {l : List (Int × Int)} : ∀ (m : List (List Int)) (ws : List Int) (acc : List (Int × Int)), (resA l m ws acc).2 = 0 → (resA l m ws acc).1.any (fun x => x.1 != 0) = false → acc.any (fun x => x.1 != 0) = false
  | [], ws, acc, _, h => by simpa only [resA] using h
  | r :: m, [], acc, _, h => by simpa only [resA] using h
  | r :: m, w :: ws, acc, h0, h => by
    simp only [resA] at h0 h
    split at h
    · rename_i h1
      rw [if_pos h1] at h0
      split at h
      · rename_i h2
        rw [if_pos h2] at h0
        have := resA_keeps m ws _ h0 h
        rw [List.any_append, Bool.or_eq_false_iff] at this
        exact this.1
      · rename_i h2
        rw [if_neg h2] at h0
        exact absurd h0 h2
    · rename_i h1
      rw [if_neg h1] at h0
      exact absurd h0 h1
theorem resA_inv {l : List (Int × Int)} (ha : allV l = true) : ∀ (m : List (List Int)) (ws : List Int) (acc : List (Int × Int)), (∀ r ∈ m, ∀ n ∈ r, -1000 ≤ n ∧ n ≤ 1000) → (∀ w ∈ ws, vfrac w 1 = true) → (resA l m ws acc).2 = 0 → (resA l m ws acc).1.any (fun x => x.1 != 0) = false →
    ∀ (i : Nat) (r : List Int) (b : Int), m[i]? = some r → ws[i]? = some b → dotF r l (0, 1) = ((b, 1), 0)
  | [], ws, acc, _, _, _, _, i, r, b, hr, _ => by simp at hr
  | r :: m, [], acc, _, _, _, _, i, r', b, _, hb => by simp at hb
  | r :: m, w :: ws, acc, hm, hw, h0, h, i, r', b, hr, hb => by
    simp only [resA] at h0 h
    split at h
    rotate_left 1
    · rename_i h1
      rw [if_neg h1] at h0
      exact absurd h0 h1
    rename_i h1
    rw [if_pos h1] at h0
    split at h
    rotate_left 1
    · rename_i h2
      rw [if_neg h2] at h0
      exact absurd h0 h2
    rename_i h2
    rw [if_pos h2] at h0
    cases i with
    | succ i => exact resA_inv ha m ws _ (fun x hx => hm x (List.mem_cons_of_mem _ hx)) (fun x hx => hw x (List.mem_cons_of_mem _ hx)) h0 h i r' b (by simpa using hr) (by simpa using hb)
    | zero =>
      simp only [List.getElem?_cons_zero, Option.some.injEq] at hr hb
      subst hr
      subst hb
      have hk := resA_keeps m ws _ h0 h
      rw [List.any_append, Bool.or_eq_false_iff] at hk
      have hz : (subP (w, 1) (dotF r l (0, 1)).1).1.1 = 0 := by simpa using hk.2
      have hv := dotF_valid (hm r (by simp)) ha (by decide) h1
      have hy := Val.self hv
      have hwv : Val (w, 1) w 1 := ⟨hw w (by simp), by decide, rfl⟩
      have hs := hwv.sub hy h2
      generalize hY : dotF r l (0, 1) = Y at *
      have he := hs.e
      rw [hz, Int.zero_mul] at he
      have h3 : w * Y.1.2 - Y.1.1 * 1 = 0 := (Int.mul_eq_zero.1 he.symm).resolve_right hs.d
      refine Prod.ext (hy.int ?_) h1
      omega
/-- What Check says of tensions. -/
theorem chk_iff {s : Sy} {l : List (Int × Int)} (hg : givE s l = 0) (h0 : (chkP s l).2 = 0) {Z : Nat → Int} {D : Int} (hD : D ≠ 0) (hZ : ∀ (k : Nat) (f : Int × Int), l[k]? = some f → Val f (Z k) D) : (chkP s l).1 = true ↔ SolQ (matS s) (wtsS s) Z D := by
  obtain ⟨hv, ha, hz⟩ := givE_zero hg
  have ok := validS_ok hv
  have hrow := ok.rows
  have hwv := ok.wv
  have hll := ok.len
  have hw : wid (matS s) = l.length := by rw [ok.mat_wid, hz]
  have er : resP s l = resA l (matS s) (wtsS s) [] := by unfold resP; rw [if_pos hg]
  unfold chkP at h0 ⊢
  rw [er] at h0 ⊢
  have hdv : ∀ r ∈ matS s, _ := fun r hr => dot_val (r := r) hD (by rw [(hrow r hr).1, hw]) (hrow r hr).2 hZ
  by_cases h1 : (resA l (matS s) (wtsS s) []).2 = 0
  rotate_left 1
  · rw [if_neg h1] at h0
    exact absurd h0 h1
  rw [if_pos h1]
  simp only [Bool.not_eq_true']
  constructor
  · intro h i r b hi hb
    have e := resA_inv ha _ _ _ (fun r hr => (hrow r hr).2) hwv h1 h i r b hi hb
    have hr := List.mem_of_getElem? hi
    rcases hdv r hr with ⟨_, k⟩ | k
    · rw [e] at k
      have hb1 : Val (b, 1) b 1 := ⟨hwv b (List.mem_of_getElem? hb), by decide, rfl⟩
      have := k.same hb1
      rw [(hrow r hr).1] at this
      rw [Int.mul_comm D]
      omega
    · rw [e] at k; simp at k
  · intro h
    rcases resA_hold (l := l) (matS s) (wtsS s) [] hll.symm hwv (fun i r b hi hb => by
      have hr := List.mem_of_getElem? hi
      rcases hdv r hr with ⟨k1, k⟩ | k
      · rw [(hrow r hr).1, h i r b hi hb] at k
        exact .inl (Prod.ext (k.int (Int.mul_comm _ _)) k1)
      · exact .inr k) with e | e
    · rw [e]
      simp
    · rw [e] at h1; simp at h1
theorem chk_given {s : Sy} {l : List (Int × Int)} (h0 : (chkP s l).2 = 0) : givE s l = 0 := by
  unfold chkP at h0
  by_cases hg : givE s l = 0
  · exact hg
  · have er : resP s l = ([], givE s l) := by unfold resP; rw [if_neg hg]
    rw [er] at h0
    simp only at h0
    rw [if_neg hg] at h0
    exact absurd h0 hg
/-- Tensions that are found in another way. -/
theorem hold_none {s : Sy} {l : List (Int × Int)} (h : (tensP s).2 ≠ 0) : (tensP s).1 = [] ∧ ((chkP s l).2 = 0 → (chkP s l).1 = true → (tensP s).2 = 21) := by
  by_cases hv : validS s = true
  · have ok := validS_ok hv
    have e : tensP s = solveP (matS s) (wtsS s) := by unfold tensP; rw [if_pos hv]
    rw [e] at h ⊢
    refine ⟨solve_nil ok.mat_valid ok.len ok.wts_in h, fun h0 hc => ?_⟩
    have hg := chk_given h0
    obtain ⟨_, ha, hz⟩ := givE_zero hg
    obtain ⟨Z', D', hD', hZ'⟩ := dens l ha
    have hs := (chk_iff hg h0 hD' hZ').1 hc
    rcases solve_cases ok.mat_valid ok.len ok.wts_in with k | k | k
    · exact absurd k h
    · exact k
    · exact absurd ⟨Z', D', hD', hs⟩ ((solve_gap ok.mat_valid ok.len ok.wts_in).1 k)
  · have e : tensP s = ([], 1) := by unfold tensP; rw [if_neg hv]
    refine ⟨by rw [e], fun h0 => ?_⟩
    have hg := chk_given h0
    exact absurd (givE_zero hg).1 hv
end Go.Proofs.Ytpcakodemleoiaa.T
end

section
namespace Go.Proofs.Ytpcakodemleoiaa.T
open Go Go.RowKit Lin
set_option linter.unusedSimpArgs false

/-! Valid systems, without an order (plain). -/
theorem nodup_take {l : List ByteArray} : l.Nodup ↔ ∀ (k : Nat) (x : ByteArray), l[k]? = some x → (l.take k).contains x = false := by
  unfold List.Nodup
  rw [List.pairwise_iff_getElem]
  constructor
  · intro h k x hk
    rw [← Bool.not_eq_true, List.contains_iff_mem]
    intro hm
    obtain ⟨i, hi⟩ := List.mem_iff_getElem?.1 hm
    have hik : i < k := by
      have := (List.getElem?_eq_some_iff.1 hi).1
      simp at this; omega
    rw [List.getElem?_take, if_pos hik] at hi
    obtain ⟨hk1, hk2⟩ := List.getElem?_eq_some_iff.1 hk
    obtain ⟨hi1, hi2⟩ := List.getElem?_eq_some_iff.1 hi
    exact h i k hi1 hk1 hik (by rw [hi2, hk2])
  · intro h i j hi hj hij e
    have h1 := h j l[j] (List.getElem?_eq_getElem hj)
    rw [← Bool.not_eq_true, List.contains_iff_mem] at h1
    refine h1 (List.mem_of_getElem? (i := i) ?_)
    rw [List.getElem?_take, if_pos hij, List.getElem?_eq_getElem hi, e]
structure VS (s : Sy) : Prop where
  b : 1 ≤ s.bs.length ∧ s.bs.length ≤ 6
  r : 1 ≤ s.rs.length ∧ s.rs.length ≤ 6
  nd : (bNames s.bs ++ rNames s.rs).Nodup
  bk : ∀ b ∈ s.bs, isNm b.nm = true ∧ 0 ≤ b.w ∧ b.w ≤ 16777216
  rp : ∀ r ∈ s.rs, isNm r.nm = true ∧ okRope s.bs r = true
  h : hauls s.rs ≤ 1
theorem bN_len (l : List Bk) : (bNames l).length = l.length := by simp [bNames]
theorem rN_len (l : List Rp) : (rNames l).length = l.length := by simp [rNames]
theorem bN_take (l : List Bk) (k : Nat) : bNames (l.take k) = (bNames l).take k := by simp [bNames, List.map_take]
theorem rN_take (l : List Rp) (k : Nat) : rNames (l.take k) = (rNames l).take k := by simp [rNames, List.map_take]
theorem validS_iff {s : Sy} : validS s = true ↔ VS s := by
  unfold validS okSize
  simp only [Bool.and_eq_true, List.all_eq_true, List.mem_range, decide_eq_true_eq]
  have hbl := bN_len s.bs
  have hrl := rN_len s.rs
  constructor
  · rintro ⟨⟨⟨⟨b, r⟩, hb⟩, hr⟩, hh⟩
    have hB : ∀ i b, s.bs[i]? = some b → isNm b.nm = true ∧ (bNames (s.bs.take i)).contains b.nm = false ∧ 0 ≤ b.w ∧ b.w ≤ 16777216 := fun i b hi => by
      have := hb i (List.getElem?_eq_some_iff.1 hi).1
      rw [okB_at hi, Bool.and_eq_true, Bool.and_eq_true, Bool.not_eq_true', decide_eq_true_eq] at this
      exact ⟨this.1.1, this.1.2, this.2⟩
    have hR : ∀ i r, s.rs[i]? = some r → isNm r.nm = true ∧ (bNames s.bs ++ rNames (s.rs.take i)).contains r.nm = false ∧ okRope s.bs r = true := fun i r hi => by
      have := hr i (List.getElem?_eq_some_iff.1 hi).1
      rw [okR_at hi, Bool.and_eq_true, Bool.and_eq_true, Bool.not_eq_true'] at this
      exact ⟨this.1.1, this.1.2, this.2⟩
    refine ⟨b, r, nodup_take.2 fun k x hk => ?_, fun x hx => ?_, fun x hx => ?_, hh⟩
    · by_cases hkb : k < s.bs.length
      · rw [List.getElem?_append_left (by omega)] at hk
        rw [List.take_append_of_le_length (by omega)]
        obtain ⟨b, hb'⟩ : ∃ b, s.bs[k]? = some b := ⟨_, List.getElem?_eq_getElem hkb⟩
        have hx : b.nm = x := by simpa [bNames, hb'] using hk
        rw [← hx, ← bN_take]
        exact (hB k b hb').2.1
      · rw [List.getElem?_append_right (by omega), hbl] at hk
        have hlt := (List.getElem?_eq_some_iff.1 hk).1
        obtain ⟨r, hr'⟩ : ∃ r, s.rs[k - s.bs.length]? = some r := ⟨_, List.getElem?_eq_getElem (by omega)⟩
        have hx : r.nm = x := by simpa [rNames, hr'] using hk
        rw [← hx, List.take_append, List.take_of_length_le (by omega), hbl, ← rN_take]
        exact (hR _ r hr').2.1
    · obtain ⟨i, hi⟩ := List.mem_iff_getElem?.1 hx
      exact ⟨(hB i x hi).1, (hB i x hi).2.2⟩
    · obtain ⟨i, hi⟩ := List.mem_iff_getElem?.1 hx
      exact ⟨(hR i x hi).1, (hR i x hi).2.2⟩
  · rintro ⟨b, r, nd, bk, rp, hh⟩
    have hn := nodup_take.1 nd
    refine ⟨⟨⟨⟨b, r⟩, fun i hi => ?_⟩, fun i hi => ?_⟩, hh⟩
    · obtain ⟨b, hb⟩ : ∃ b, s.bs[i]? = some b := ⟨_, List.getElem?_eq_getElem hi⟩
      have h1 := bk b (List.mem_of_getElem? hb)
      have h2 := hn i b.nm (by rw [List.getElem?_append_left (by omega)]; simp [bNames, hb])
      rw [List.take_append_of_le_length (by omega), ← bN_take] at h2
      rw [okB_at hb, h1.1, h2, decide_eq_true h1.2]
      rfl
    · obtain ⟨r, hr⟩ : ∃ r, s.rs[i]? = some r := ⟨_, List.getElem?_eq_getElem hi⟩
      have h1 := rp r (List.mem_of_getElem? hr)
      have h2 := hn (s.bs.length + i) r.nm (by
        rw [List.getElem?_append_right (by omega), hbl, Nat.add_sub_cancel_left]
        simp [rNames, hr])
      rw [List.take_append, List.take_of_length_le (by omega), hbl, Nat.add_sub_cancel_left, ← rN_take] at h2
      rw [okR_at hr, h1.1, h2, h1.2]
      rfl
/-- What a rope needs of the blocks: their names. -/
theorem okHold_names {bs bs' : List Bk} (h : ∀ nm, (bNames bs).contains nm = (bNames bs').contains nm) (x : Hd) (e : Bool) : okHold bs x e = okHold bs' x e := by
  unfold okHold
  rw [findB_ge, findB_ge, h]
theorem okHolds_names {bs bs' : List Bk} (h : ∀ nm, (bNames bs).contains nm = (bNames bs').contains nm) (l : List Hd) : okHolds bs l = okHolds bs' l := by
  unfold okHolds
  congr 1
  funext i
  cases l[i]? with
  | none => rfl
  | some x => exact okHold_names h x _
theorem okRope_names {bs bs' : List Bk} (h : ∀ nm, (bNames bs).contains nm = (bNames bs').contains nm) (r : Rp) : okRope bs r = okRope bs' r := by
  unfold okRope
  rw [okHolds_names h]
/-- Other weights. -/
theorem VS.weights {s t : Sy} (h : VS s) (hr : t.rs = s.rs) (hn : bNames t.bs = bNames s.bs) (hw : ∀ b ∈ t.bs, 0 ≤ b.w ∧ b.w ≤ 16777216) : VS t := by
  have hl : t.bs.length = s.bs.length := by rw [← bN_len, ← bN_len, hn]
  refine ⟨by rw [hl]; exact h.b, by rw [hr]; exact h.r, by rw [hr, hn]; exact h.nd, fun b hb => ⟨?_, hw b hb⟩, fun r hr' => ?_, by rw [hr]; exact h.h⟩
  · have : b.nm ∈ bNames s.bs := by rw [← hn]; exact List.mem_map.2 ⟨b, hb, rfl⟩
    obtain ⟨c, hc, e⟩ := List.mem_map.1 this
    rw [← e]
    exact (h.bk c hc).1
  · rw [hr] at hr'
    rw [okRope_names (bs' := s.bs) (fun nm => by rw [hn])]
    exact h.rp r hr'
theorem matS_names {s t : Sy} (hr : t.rs = s.rs) (hn : bNames t.bs = bNames s.bs) : matS t = matS s := by
  have e : ∀ u : Sy, matS u = (bNames u.bs).map fun nm => u.rs.map fun r => pull nm r.hs := fun u => by unfold matS bNames; rw [List.map_map]; rfl
  rw [e, e, hn, hr]
/-- All in the reverse order. -/
def revS (s : Sy) : Sy := ⟨s.bs.reverse, s.rs.reverse⟩
theorem VS.rev {s : Sy} (h : VS s) : VS (revS s) := by
  refine ⟨by simpa [revS] using h.b, by simpa [revS] using h.r, ?_, fun b hb => h.bk b (List.mem_reverse.1 hb), fun r hr => ?_, ?_⟩
  · have e1 : bNames (revS s).bs = (bNames s.bs).reverse := by simp [revS, bNames]
    have e2 : rNames (revS s).rs = (rNames s.rs).reverse := by simp [revS, rNames]
    rw [e1, e2]
    refine (List.Perm.nodup_iff ?_).1 h.nd
    exact ((List.reverse_perm _).append (List.reverse_perm _)).symm
  · rw [okRope_names (bs' := s.bs) fun nm => by
      rw [Bool.eq_iff_iff, List.contains_iff_mem, List.contains_iff_mem]
      simp [revS, bNames]]
    exact h.rp r (List.mem_reverse.1 hr)
  · have : hauls (revS s).rs = hauls s.rs := by
      unfold hauls revS
      rw [List.filter_reverse, List.length_reverse]
    rw [this]
    exact h.h
theorem matS_rev (s : Sy) : matS (revS s) = revM (matS s) := by
  unfold matS revM revS
  simp only [List.map_reverse, List.map_map]
  rfl
theorem wtsS_rev (s : Sy) : wtsS (revS s) = (wtsS s).reverse := by simp [wtsS, revS]
theorem tens_rev {s : Sy} (hv : validS s = true) : tensP (revS s) = ((tensP s).1.reverse, (tensP s).2) := by
  have h2 := validS_iff.2 (validS_iff.1 hv).rev
  have ok := validS_ok hv
  unfold tensP
  rw [if_pos hv, if_pos h2, matS_rev, wtsS_rev]
  exact solve_rev ok.mat_valid ok.len ok.wts_in
/-- A rope that runs the other way. -/
def backR (r : Rp) : Rp := ⟨r.nm, r.hs.reverse, false⟩
def backS (s : Sy) (i : Nat) : Sy := ⟨s.bs, match s.rs[i]? with | some r => s.rs.set i (backR r) | none => s.rs⟩
theorem okHolds_iff {bs : List Bk} {hs : List Hd} : okHolds bs hs = true ↔ ∀ (i : Nat) (h : Hd), hs[i]? = some h → okHold bs h (endH hs.length i) = true := by
  unfold okHolds
  rw [List.all_eq_true]
  constructor
  · intro h i x hi
    have := h i (List.mem_range.2 (List.getElem?_eq_some_iff.1 hi).1)
    rw [hi] at this
    exact this
  · intro h i hi
    rw [List.mem_range] at hi
    rw [List.getElem?_eq_getElem hi]
    exact h i _ (List.getElem?_eq_getElem hi)
theorem okHolds_rev {bs : List Bk} {hs : List Hd} (h : okHolds bs hs = true) : okHolds bs hs.reverse = true := okHolds_iff.2 fun i x hi => by
  have hl := (List.getElem?_eq_some_iff.1 hi).1
  rw [List.length_reverse] at hl
  have := okHolds_iff.1 h _ x (rev_get hi)
  have e : endH hs.reverse.length i = endH hs.length (hs.length - 1 - i) := by
    unfold endH
    rw [List.length_reverse, Bool.eq_iff_iff]
    simp only [Bool.or_eq_true, beq_iff_eq]
    omega
  rw [e]
  exact this
theorem pull_perm {nm : ByteArray} {a b : List Hd} (h : a.Perm b) : pull nm a = pull nm b := by
  induction h with
  | nil => rfl
  | cons x _ ih => simp only [pull, ih]
  | swap x y l => simp only [pull]; omega
  | trans _ _ h1 h2 => rw [h1, h2]
theorem filter_set_len {l : List Rp} {i : Nat} {x y : Rp} (h : l[i]? = some x) (hy : y.hl = false) : hauls (l.set i y) ≤ hauls l := by
  unfold hauls
  obtain ⟨hi, e⟩ := List.getElem?_eq_some_iff.1 h
  rw [List.set_eq_take_append_cons_drop, if_pos hi]
  conv => rhs; rw [← List.take_append_drop i l, List.drop_eq_getElem_cons hi]
  simp only [List.filter_append, List.length_append, List.filter_cons, hy]
  simp only [Bool.false_eq_true, if_false]
  split <;> simp
theorem VS.back {s : Sy} (h : VS s) (i : Nat) : VS (backS s i) := by
  unfold backS
  cases hi : s.rs[i]? with
  | none => exact h
  | some r =>
    have hil := (List.getElem?_eq_some_iff.1 hi).1
    have hrm := List.mem_of_getElem? hi
    have hnm : rNames (s.rs.set i (backR r)) = rNames s.rs := by
      unfold rNames
      rw [List.map_set]
      refine List.ext_getElem? fun k => ?_
      by_cases e : i = k
      · subst e
        rw [List.getElem?_set_self (by simpa using hil), List.getElem?_map, hi]
        rfl
      · rw [List.getElem?_set_ne e]
    refine ⟨h.b, by simpa using h.r, by show (bNames s.bs ++ rNames (s.rs.set i (backR r))).Nodup; rw [hnm]; exact h.nd, h.bk, fun x hx => ?_, Nat.le_trans (filter_set_len hi rfl) h.h⟩
    rcases List.mem_or_eq_of_mem_set hx with hx | rfl
    · exact h.rp x hx
    · obtain ⟨a1, a2⟩ := h.rp r hrm
      refine ⟨a1, ?_⟩
      unfold okRope at a2 ⊢
      simp only [Bool.and_eq_true, decide_eq_true_eq] at a2 ⊢
      refine ⟨⟨by simpa [backR] using a2.1.1, ?_⟩, rfl⟩
      exact okHolds_rev a2.1.2
theorem matS_back (s : Sy) (i : Nat) : matS (backS s i) = matS s ∧ wtsS (backS s i) = wtsS s := by
  unfold backS
  cases hi : s.rs[i]? with
  | none => exact ⟨rfl, rfl⟩
  | some r =>
    refine ⟨?_, rfl⟩
    unfold matS
    simp only
    refine List.map_congr_left fun b _ => ?_
    rw [List.map_set]
    refine List.ext_getElem? fun k => ?_
    have hil := (List.getElem?_eq_some_iff.1 hi).1
    by_cases e : i = k
    · subst e
      rw [List.getElem?_set_self (by simpa using hil), List.getElem?_map, hi, Option.map_some]
      exact congrArg some (pull_perm (List.reverse_perm _))
    · rw [List.getElem?_set_ne e]
theorem tens_back {s : Sy} (hv : validS s = true) (i : Nat) : tensP (backS s i) = tensP s := by
  have h2 := validS_iff.2 ((validS_iff.1 hv).back i)
  obtain ⟨e1, e2⟩ := matS_back s i
  unfold tensP
  rw [if_pos hv, if_pos h2, e1, e2]
end Go.Proofs.Ytpcakodemleoiaa.T
end

section
namespace Go.Proofs.Ytpcakodemleoiaa.T
open Go Go.RowKit Lin
set_option linter.unusedSimpArgs false

/-! Sums of weights; one tension more (plain). -/
section
variable {m : List (List Int)} {right other : List Int}
theorem SolQ.add {Z Y : Nat → Int} {D E : Int} (h : SolQ m right Z D) (k : SolQ m other Y E) : SolQ m (zipA right other) (fun j => Z j * E + Y j * D) (D * E) := fun i r b hi hb => by
  obtain ⟨p, q, hp, hq, rfl⟩ := zip_get hb
  rw [sum_two (Lin.at_ r) Z Y E D, h i r p hi hp, k i r q hi hq, Int.mul_add]
  ac_rfl
theorem SolQ.less (hl : other.length = right.length) {Z Y : Nat → Int} {D E : Int} (h : SolQ m right Z D) (k : SolQ m (zipA right other) Y E) : SolQ m other (fun j => Y j * D + Z j * (-E)) (D * E) := fun i r b hi hb => by
  have hil := (List.getElem?_eq_some_iff.1 hb).1
  obtain ⟨p, hp⟩ : ∃ p, right[i]? = some p := ⟨_, List.getElem?_eq_getElem (by omega)⟩
  have hz : (zipA right other)[i]? = some (p + b) := by
    unfold zipA
    rw [List.getElem?_zipWith, hp, hb]
  rw [sum_two (Lin.at_ r) Y Z D (-E), h i r p hi hp, k i r _ hi hz]
  grind
variable (hv : validP m = true) (hr : right.length = m.length) (ho : other.length = m.length) (hw : withinP right 67108864 = true) (hwo : withinP other 67108864 = true) (hws : withinP (zipA right other) 67108864 = true)
include hv hr ho hw hwo hws
theorem adds_err (h1 : (solveP m right).2 = 0) : ((solveP m other).2 = 0 ∧ (solveP m (zipA right other)).2 = 0) ∨ ((solveP m other).2 = 22 ∧ (solveP m (zipA right other)).2 = 22) := by
  have hz : (zipA right other).length = m.length := by simp [zipA]; omega
  obtain ⟨⟨Z, D, hD, hZ⟩, hfull⟩ := (solve_ok hv hr hw).1 h1
  rcases solve_cases hv ho hwo with k | k | k
  · obtain ⟨⟨Y, E, hE, hY⟩, _⟩ := (solve_ok hv ho hwo).1 k
    exact .inl ⟨k, (solve_ok hv hz hws).2 ⟨⟨_, _, Int.mul_ne_zero hD hE, hZ.add hY⟩, hfull⟩⟩
  · exact absurd ((solve_free hv ho hwo).1 k).2 hfull
  · refine .inr ⟨k, (solve_gap hv hz hws).2 ?_⟩
    rintro ⟨Y, E, hE, hY⟩
    exact (solve_gap hv ho hwo).1 k ⟨_, _, Int.mul_ne_zero hD hE, hZ.less (by omega) hY⟩
theorem adds_at (h1 : (solveP m right).2 = 0) (h2 : (solveP m other).2 = 0) (h3 : (solveP m (zipA right other)).2 = 0) (i : Nat) (x y z : Int × Int) (hx : (solveP m right).1[i]? = some x) (hy : (solveP m other).1[i]? = some y) (hz : (solveP m (zipA right other)).1[i]? = some z) : addP x y = (z, 0) ∨ (addP x y).2 = 5 := by
  have hzl : (zipA right other).length = m.length := by simp [zipA]; omega
  obtain ⟨Z, D, hD, hZ, hl, hX⟩ := solve_val hv hr hw h1
  obtain ⟨Y, E, hE, hY, _, hX2⟩ := solve_val hv ho hwo h2
  obtain ⟨W, F, hF, hW, _, hX3⟩ := solve_val hv hzl hws h3
  have a := hX i x hx
  have b := hX2 i y hy
  have c := hX3 i z hz
  have hi : i < wid m := by have := (List.getElem?_eq_some_iff.1 hx).1; omega
  rw [addP_ok a.v b.v]
  rcases addR_err a.v b.v with k | k
  · left
    refine Prod.ext ((a.add b k).eq c ?_) k
    exact sol_uniq hv hzl hws ((solve_ok hv hr hw).1 h1).2 (Int.mul_ne_zero hD hE) hF (hZ.add hY) hW i hi
  · exact .inr k
end
/-! Residuals, one by one. -/
end Go.Proofs.Ytpcakodemleoiaa.T
end


