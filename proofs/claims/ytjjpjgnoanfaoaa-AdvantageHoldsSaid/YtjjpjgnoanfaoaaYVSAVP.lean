import Derived.Test.YtjjpjgnoanfaoaaVJ
import Derived.Test.YtjjpjgnoanfaoaaMGW
set_option linter.all false
section
namespace Go.Proofs.Ytjjpjgnoanfaoaa.T
open Go Go.RowKit Lin
set_option linter.unusedSimpArgs false

/-! Equilibrium (plain). -/
theorem sub_same {w : Int} (h : vfrac w 1 = true) : subP (w, 1) (w, 1) = ((0, 1), 0) := by
  rw [subP_ok h h]
  unfold addR
  simp only
  by_cases h1 : w < 0
  · have h2 : ¬ (-w < 0) := by omega
    rw [decide_eq_true h1, decide_eq_false h2, if_neg (by decide), if_neg (by rw [Int.natAbs_neg]; exact Nat.lt_irrefl _)]
    simp [madeP, signP]
  · by_cases h3 : w = 0
    · subst h3; decide
    · have h2 : -w < 0 := by omega
      rw [decide_eq_false h1, decide_eq_true h2, if_neg (by decide), if_neg (by rw [Int.natAbs_neg]; exact Nat.lt_irrefl _)]
      simp [madeP, signP]
theorem resA_hold {l : List (Int × Int)} : ∀ (m : List (List Int)) (ws : List Int) (acc : List (Int × Int)), m.length = ws.length → (∀ w ∈ ws, vfrac w 1 = true) → (∀ (i : Nat) (r : List Int) (b : Int), m[i]? = some r → ws[i]? = some b → dotF r l (0, 1) = ((b, 1), 0) ∨ (dotF r l (0, 1)).2 = 5) →
    resA l m ws acc = (acc ++ List.replicate m.length (0, 1), 0) ∨ resA l m ws acc = ([], 5)
  | [], [], acc, _, _, _ => .inl (by simp [resA])
  | [], _ :: _, _, h, _, _ => by simp at h
  | _ :: _, [], _, h, _, _ => by simp at h
  | r :: m, w :: ws, acc, hl, hw, h => by
    simp only [resA]
    rcases h 0 r w (by simp) (by simp) with e | e
    · rw [e, if_pos rfl]
      simp only
      rw [sub_same (hw w (by simp)), if_pos rfl]
      have ih := resA_hold (l := l) m ws (acc ++ [(0, 1)]) (by simpa using hl) (fun y hy => hw y (List.mem_cons_of_mem _ hy)) fun (i : Nat) (r' : List Int) (b' : Int) h1 h2 => h (i + 1) r' b' (by simpa using h1) (by simpa using h2)
      refine ih.imp (fun e => ?_) id
      rw [e, List.length_cons, List.replicate_succ]
      simp
    · rw [e, if_neg (by decide)]
      exact .inr rfl
theorem resA_keeps {l : List (Int × Int)} : ∀ (m : List (List Int)) (ws : List Int) (acc : List (Int × Int)), (resA l m ws acc).2 = 0 → (resA l m ws acc).1.any (fun x => x.1 != 0) = false → acc.any (fun x => x.1 != 0) = false
  | [], ws, acc, _, h => by simpa only [resA] using h
  | r :: m, [], acc, _, h => by simpa only [resA] using h
  | r :: m, w :: ws, acc, h0, h => by
    simp only [resA] at h0 h
    split at h
    · rename_i h1
      rw [if_pos h1] at h0
      split at h
      · rename_i h2
        rw [if_pos h2] at h0
        have := resA_keeps m ws _ h0 h
        rw [List.any_append, Bool.or_eq_false_iff] at this
        exact this.1
      · rename_i h2
        rw [if_neg h2] at h0
        exact absurd h0 h2
    · rename_i h1
      rw [if_neg h1] at h0
      exact absurd h0 h1
theorem resA_inv {l : List (Int × Int)} (ha : allV l = true) : ∀ (m : List (List Int)) (ws : List Int) (acc : List (Int × Int)), (∀ r ∈ m, ∀ n ∈ r, -1000 ≤ n ∧ n ≤ 1000) → (∀ w ∈ ws, vfrac w 1 = true) → (resA l m ws acc).2 = 0 → (resA l m ws acc).1.any (fun x => x.1 != 0) = false →
    ∀ (i : Nat) (r : List Int) (b : Int), m[i]? = some r → ws[i]? = some b → dotF r l (0, 1) = ((b, 1), 0)
  | [], ws, acc, _, _, _, _, i, r, b, hr, _ => by simp at hr
  | r :: m, [], acc, _, _, _, _, i, r', b, _, hb => by simp at hb
  | r :: m, w :: ws, acc, hm, hw, h0, h, i, r', b, hr, hb => by
    simp only [resA] at h0 h
    split at h
    rotate_left 1
    · rename_i h1
      rw [if_neg h1] at h0
      exact absurd h0 h1
    rename_i h1
    rw [if_pos h1] at h0
    split at h
    rotate_left 1
    · rename_i h2
      rw [if_neg h2] at h0
      exact absurd h0 h2
    rename_i h2
    rw [if_pos h2] at h0
    cases i with
    | succ i => exact resA_inv ha m ws _ (fun x hx => hm x (List.mem_cons_of_mem _ hx)) (fun x hx => hw x (List.mem_cons_of_mem _ hx)) h0 h i r' b (by simpa using hr) (by simpa using hb)
    | zero =>
      simp only [List.getElem?_cons_zero, Option.some.injEq] at hr hb
      subst hr
      subst hb
      have hk := resA_keeps m ws _ h0 h
      rw [List.any_append, Bool.or_eq_false_iff] at hk
      have hz : (subP (w, 1) (dotF r l (0, 1)).1).1.1 = 0 := by simpa using hk.2
      have hv := dotF_valid (hm r (by simp)) ha (by decide) h1
      have hy := Val.self hv
      have hwv : Val (w, 1) w 1 := ⟨hw w (by simp), by decide, rfl⟩
      have hs := hwv.sub hy h2
      generalize hY : dotF r l (0, 1) = Y at *
      have he := hs.e
      rw [hz, Int.zero_mul] at he
      have h3 : w * Y.1.2 - Y.1.1 * 1 = 0 := (Int.mul_eq_zero.1 he.symm).resolve_right hs.d
      refine Prod.ext (hy.int ?_) h1
      omega
/-- What Check says of tensions. -/
theorem chk_iff {s : Sy} {l : List (Int × Int)} (hg : givE s l = 0) (h0 : (chkP s l).2 = 0) {Z : Nat → Int} {D : Int} (hD : D ≠ 0) (hZ : ∀ (k : Nat) (f : Int × Int), l[k]? = some f → Val f (Z k) D) : (chkP s l).1 = true ↔ SolQ (matS s) (wtsS s) Z D := by
  obtain ⟨hv, ha, hz⟩ := givE_zero hg
  have ok := validS_ok hv
  have hrow := ok.rows
  have hwv := ok.wv
  have hll := ok.len
  have hw : wid (matS s) = l.length := by rw [ok.mat_wid, hz]
  have er : resP s l = resA l (matS s) (wtsS s) [] := by unfold resP; rw [if_pos hg]
  unfold chkP at h0 ⊢
  rw [er] at h0 ⊢
  have hdv : ∀ r ∈ matS s, _ := fun r hr => dot_val (r := r) hD (by rw [(hrow r hr).1, hw]) (hrow r hr).2 hZ
  by_cases h1 : (resA l (matS s) (wtsS s) []).2 = 0
  rotate_left 1
  · rw [if_neg h1] at h0
    exact absurd h0 h1
  rw [if_pos h1]
  simp only [Bool.not_eq_true']
  constructor
  · intro h i r b hi hb
    have e := resA_inv ha _ _ _ (fun r hr => (hrow r hr).2) hwv h1 h i r b hi hb
    have hr := List.mem_of_getElem? hi
    rcases hdv r hr with ⟨_, k⟩ | k
    · rw [e] at k
      have hb1 : Val (b, 1) b 1 := ⟨hwv b (List.mem_of_getElem? hb), by decide, rfl⟩
      have := k.same hb1
      rw [(hrow r hr).1] at this
      rw [Int.mul_comm D]
      omega
    · rw [e] at k; simp at k
  · intro h
    rcases resA_hold (l := l) (matS s) (wtsS s) [] hll.symm hwv (fun i r b hi hb => by
      have hr := List.mem_of_getElem? hi
      rcases hdv r hr with ⟨k1, k⟩ | k
      · rw [(hrow r hr).1, h i r b hi hb] at k
        exact .inl (Prod.ext (k.int (Int.mul_comm _ _)) k1)
      · exact .inr k) with e | e
    · rw [e]
      simp
    · rw [e] at h1; simp at h1
theorem chk_err {s : Sy} {l : List (Int × Int)} (hg : givE s l = 0) : (chkP s l).2 = 0 ∨ (chkP s l).2 = 5 := by
  obtain ⟨hv, ha, hz⟩ := givE_zero hg
  have ok := validS_ok hv
  have hrow := ok.rows
  have hwv := ok.wv
  have er : resP s l = resA l (matS s) (wtsS s) [] := by unfold resP; rw [if_pos hg]
  have main : ∀ (m : List (List Int)) (ws : List Int) (acc : List (Int × Int)), (∀ r ∈ m, r.length = l.length ∧ ∀ n ∈ r, -1000 ≤ n ∧ n ≤ 1000) → (∀ w ∈ ws, vfrac w 1 = true) → (resA l m ws acc).2 = 0 ∨ (resA l m ws acc).2 = 5 := by
    obtain ⟨Z, D, hD, hZ⟩ := dens l ha
    intro m
    induction m with
    | nil => intro ws acc _ _; simp [resA]
    | cons r m ih =>
      intro ws acc hr hw
      cases ws with
      | nil => simp [resA]
      | cons w ws =>
        simp only [resA]
        rcases dot_val (r := r) hD (hr r (by simp)).1 (hr r (by simp)).2 hZ with ⟨k1, k⟩ | k
        · rw [if_pos k1]
          rcases subP_err (a := (w, 1)) (hw w (by simp)) k.v with h2 | h2
          · rw [if_pos h2]
            exact ih ws _ (fun x hx => hr x (List.mem_cons_of_mem _ hx)) (fun x hx => hw x (List.mem_cons_of_mem _ hx))
          · rw [if_neg (by omega)]
            exact .inr h2
        · rw [if_neg (by omega)]
          exact .inr k
  have := main (matS s) (wtsS s) [] (fun r hr => ⟨by rw [(hrow r hr).1, ok.mat_wid, hz], (hrow r hr).2⟩) hwv
  unfold chkP
  rw [er]
  rcases this with e | e
  · rw [if_pos e]; exact .inl rfl
  · rw [if_neg (by omega)]; exact .inr e
theorem hold_own {s : Sy} (h : (tensP s).2 = 0) : chkP s (tensP s).1 = (true, 0) ∨ (chkP s (tensP s).1).2 = 5 := by
  obtain ⟨hg, Z, D, hD, hZ, hX⟩ := tens_own h
  rcases chk_err hg with h0 | h0
  · exact .inl (Prod.ext ((chk_iff hg h0 hD hX).2 hZ) h0)
  · exact .inr h0
theorem chk_given {s : Sy} {l : List (Int × Int)} (h0 : (chkP s l).2 = 0) : givE s l = 0 := by
  unfold chkP at h0
  by_cases hg : givE s l = 0
  · exact hg
  · have er : resP s l = ([], givE s l) := by unfold resP; rw [if_neg hg]
    rw [er] at h0
    simp only at h0
    rw [if_neg hg] at h0
    exact absurd h0 hg
/-- With no others. -/
theorem hold_only {s : Sy} {l : List (Int × Int)} (h : (tensP s).2 = 0) (h0 : (chkP s l).2 = 0) : (chkP s l).1 = (l == (tensP s).1) := by
  have hg := chk_given h0
  obtain ⟨hv, ha, hz⟩ := givE_zero hg
  have ok := validS_ok hv
  obtain ⟨_, Z, D, hD, hZ, hX⟩ := tens_own h
  obtain ⟨Z', D', hD', hZ'⟩ := dens l ha
  rw [Bool.eq_iff_iff, beq_iff_eq]
  constructor
  · intro hc
    have hs := (chk_iff hg h0 hD' hZ').1 hc
    have e : tensP s = solveP (matS s) (wtsS s) := by unfold tensP; rw [if_pos hv]
    rw [e] at h ⊢
    exact (solve_is ok.mat_valid ok.len ok.wts_in h (by rw [ok.mat_wid, hz]) hD' hs hZ').symm
  · intro e
    subst e
    exact (chk_iff hg h0 hD hX).2 hZ
/-- Tensions that are found in another way. -/
theorem hold_none {s : Sy} {l : List (Int × Int)} (h : (tensP s).2 ≠ 0) : (tensP s).1 = [] ∧ ((chkP s l).2 = 0 → (chkP s l).1 = true → (tensP s).2 = 21) := by
  by_cases hv : validS s = true
  · have ok := validS_ok hv
    have e : tensP s = solveP (matS s) (wtsS s) := by unfold tensP; rw [if_pos hv]
    rw [e] at h ⊢
    refine ⟨solve_nil ok.mat_valid ok.len ok.wts_in h, fun h0 hc => ?_⟩
    have hg := chk_given h0
    obtain ⟨_, ha, hz⟩ := givE_zero hg
    obtain ⟨Z', D', hD', hZ'⟩ := dens l ha
    have hs := (chk_iff hg h0 hD' hZ').1 hc
    rcases solve_cases ok.mat_valid ok.len ok.wts_in with k | k | k
    · exact absurd k h
    · exact k
    · exact absurd ⟨Z', D', hD', hs⟩ ((solve_gap ok.mat_valid ok.len ok.wts_in).1 k)
  · have e : tensP s = ([], 1) := by unfold tensP; rw [if_neg hv]
    refine ⟨by rw [e], fun h0 => ?_⟩
    have hg := chk_given h0
    exact absurd (givE_zero hg).1 hv
/-- The total is that of the weights. -/
theorem sum_rows {m : List (List Int)} {ws : List Int} {Z : Nat → Int} {D : Int} (n : Nat) (hl : m.length = ws.length) (h : ∀ (i : Nat) (r : List Int) (b : Int), m[i]? = some r → ws[i]? = some b → sumN (fun k => Lin.at_ r k * Z k) n = D * b) : ∀ i, i ≤ m.length → sumN (fun k => pulN m k i * Z k) n = D * (ws.take i).sum
  | 0, _ => by
    rw [sumN_congr (G := fun _ => 0) n fun k _ => by rw [pulN_zero, Int.zero_mul], sumN_zero]
    simp
  | i + 1, hi => by
    obtain ⟨r, hr⟩ : ∃ r, m[i]? = some r := ⟨_, List.getElem?_eq_getElem (by omega)⟩
    obtain ⟨b, hb⟩ : ∃ b, ws[i]? = some b := ⟨_, List.getElem?_eq_getElem (by omega)⟩
    have ih := sum_rows n hl h i (by omega)
    have h1 := h i r b hr hb
    have e : ∀ k, pulN m k (i + 1) = pulN m k i + Lin.at_ r k := fun k => by
      unfold pulN
      rw [List.take_add_one, hr]
      simp [List.getD, Lin.at_]
    rw [sumN_congr n fun k _ => by rw [e k, Int.add_mul], sumN_add, ih, h1, List.take_add_one, hb]
    simp [Int.mul_add]
theorem total_own {s : Sy} (h : (tensP s).2 = 0) : totP s (tensP s).1 = (((wtsS s).sum, 1), 0) ∨ (totP s (tensP s).1).2 = 5 := by
  obtain ⟨hg, Z, D, hD, hZ, hX⟩ := tens_own h
  obtain ⟨hv, ha, hz⟩ := givE_zero hg
  have ok := validS_ok hv
  unfold totP
  rw [if_pos hg]
  have hw := ok.mat_wid
  have h6 := ok.b6
  have hml := ok.mat_len
  obtain ⟨_, _, h3⟩ := validP_iff.1 ok.mat_valid
  have hb : ∀ n ∈ colS (matS s) s.rs.length, -1000 ≤ n ∧ n ≤ 1000 := fun n hn => by
    obtain ⟨k, hk, rfl⟩ := List.mem_map.1 hn
    have := pulN_le (m := matS s) (k := k) (fun r hr => (h3 r hr).2) (fun r hr => by rw [(h3 r hr).1, hw]; exact List.mem_range.1 hk) (matS s).length (Nat.le_refl _)
    omega
  refine (dot_val hD (by rw [colS_len, hz]) hb hX).imp (fun ⟨k1, k⟩ => Prod.ext (k.int ?_) k1) id
  rw [colS_len, sumN_congr (G := fun k => pulN (matS s) k (matS s).length * Z k) _ fun k hk => by
    have : Lin.at_ (colS (matS s) s.rs.length) k = pulN (matS s) k (matS s).length := by unfold Lin.at_; rw [colS_at hk]; rfl
    rw [this]]
  rw [sum_rows s.rs.length ok.len.symm (fun i r b hi hb => by rw [← hw]; exact hZ i r b hi hb) _ (Nat.le_refl _), List.take_of_length_le (by rw [ok.len]; exact Nat.le_refl _), Int.mul_comm]
end Go.Proofs.Ytjjpjgnoanfaoaa.T
end

section
namespace Go.Proofs.Ytjjpjgnoanfaoaa.T
open Go Go.RowKit Lin
set_option linter.unusedSimpArgs false

/-! Valid systems, without an order (plain). -/
theorem nodup_take {l : List ByteArray} : l.Nodup ↔ ∀ (k : Nat) (x : ByteArray), l[k]? = some x → (l.take k).contains x = false := by
  unfold List.Nodup
  rw [List.pairwise_iff_getElem]
  constructor
  · intro h k x hk
    rw [← Bool.not_eq_true, List.contains_iff_mem]
    intro hm
    obtain ⟨i, hi⟩ := List.mem_iff_getElem?.1 hm
    have hik : i < k := by
      have := (List.getElem?_eq_some_iff.1 hi).1
      simp at this; omega
    rw [List.getElem?_take, if_pos hik] at hi
    obtain ⟨hk1, hk2⟩ := List.getElem?_eq_some_iff.1 hk
    obtain ⟨hi1, hi2⟩ := List.getElem?_eq_some_iff.1 hi
    exact h i k hi1 hk1 hik (by rw [hi2, hk2])
  · intro h i j hi hj hij e
    have h1 := h j l[j] (List.getElem?_eq_getElem hj)
    rw [← Bool.not_eq_true, List.contains_iff_mem] at h1
    refine h1 (List.mem_of_getElem? (i := i) ?_)
    rw [List.getElem?_take, if_pos hij, List.getElem?_eq_getElem hi, e]
structure VS (s : Sy) : Prop where
  b : 1 ≤ s.bs.length ∧ s.bs.length ≤ 6
  r : 1 ≤ s.rs.length ∧ s.rs.length ≤ 6
  nd : (bNames s.bs ++ rNames s.rs).Nodup
  bk : ∀ b ∈ s.bs, isNm b.nm = true ∧ 0 ≤ b.w ∧ b.w ≤ 16777216
  rp : ∀ r ∈ s.rs, isNm r.nm = true ∧ okRope s.bs r = true
  h : hauls s.rs ≤ 1
theorem bN_len (l : List Bk) : (bNames l).length = l.length := by simp [bNames]
theorem rN_len (l : List Rp) : (rNames l).length = l.length := by simp [rNames]
theorem bN_take (l : List Bk) (k : Nat) : bNames (l.take k) = (bNames l).take k := by simp [bNames, List.map_take]
theorem rN_take (l : List Rp) (k : Nat) : rNames (l.take k) = (rNames l).take k := by simp [rNames, List.map_take]
theorem validS_iff {s : Sy} : validS s = true ↔ VS s := by
  unfold validS okSize
  simp only [Bool.and_eq_true, List.all_eq_true, List.mem_range, decide_eq_true_eq]
  have hbl := bN_len s.bs
  have hrl := rN_len s.rs
  constructor
  · rintro ⟨⟨⟨⟨b, r⟩, hb⟩, hr⟩, hh⟩
    have hB : ∀ i b, s.bs[i]? = some b → isNm b.nm = true ∧ (bNames (s.bs.take i)).contains b.nm = false ∧ 0 ≤ b.w ∧ b.w ≤ 16777216 := fun i b hi => by
      have := hb i (List.getElem?_eq_some_iff.1 hi).1
      rw [okB_at hi, Bool.and_eq_true, Bool.and_eq_true, Bool.not_eq_true', decide_eq_true_eq] at this
      exact ⟨this.1.1, this.1.2, this.2⟩
    have hR : ∀ i r, s.rs[i]? = some r → isNm r.nm = true ∧ (bNames s.bs ++ rNames (s.rs.take i)).contains r.nm = false ∧ okRope s.bs r = true := fun i r hi => by
      have := hr i (List.getElem?_eq_some_iff.1 hi).1
      rw [okR_at hi, Bool.and_eq_true, Bool.and_eq_true, Bool.not_eq_true'] at this
      exact ⟨this.1.1, this.1.2, this.2⟩
    refine ⟨b, r, nodup_take.2 fun k x hk => ?_, fun x hx => ?_, fun x hx => ?_, hh⟩
    · by_cases hkb : k < s.bs.length
      · rw [List.getElem?_append_left (by omega)] at hk
        rw [List.take_append_of_le_length (by omega)]
        obtain ⟨b, hb'⟩ : ∃ b, s.bs[k]? = some b := ⟨_, List.getElem?_eq_getElem hkb⟩
        have hx : b.nm = x := by simpa [bNames, hb'] using hk
        rw [← hx, ← bN_take]
        exact (hB k b hb').2.1
      · rw [List.getElem?_append_right (by omega), hbl] at hk
        have hlt := (List.getElem?_eq_some_iff.1 hk).1
        obtain ⟨r, hr'⟩ : ∃ r, s.rs[k - s.bs.length]? = some r := ⟨_, List.getElem?_eq_getElem (by omega)⟩
        have hx : r.nm = x := by simpa [rNames, hr'] using hk
        rw [← hx, List.take_append, List.take_of_length_le (by omega), hbl, ← rN_take]
        exact (hR _ r hr').2.1
    · obtain ⟨i, hi⟩ := List.mem_iff_getElem?.1 hx
      exact ⟨(hB i x hi).1, (hB i x hi).2.2⟩
    · obtain ⟨i, hi⟩ := List.mem_iff_getElem?.1 hx
      exact ⟨(hR i x hi).1, (hR i x hi).2.2⟩
  · rintro ⟨b, r, nd, bk, rp, hh⟩
    have hn := nodup_take.1 nd
    refine ⟨⟨⟨⟨b, r⟩, fun i hi => ?_⟩, fun i hi => ?_⟩, hh⟩
    · obtain ⟨b, hb⟩ : ∃ b, s.bs[i]? = some b := ⟨_, List.getElem?_eq_getElem hi⟩
      have h1 := bk b (List.mem_of_getElem? hb)
      have h2 := hn i b.nm (by rw [List.getElem?_append_left (by omega)]; simp [bNames, hb])
      rw [List.take_append_of_le_length (by omega), ← bN_take] at h2
      rw [okB_at hb, h1.1, h2, decide_eq_true h1.2]
      rfl
    · obtain ⟨r, hr⟩ : ∃ r, s.rs[i]? = some r := ⟨_, List.getElem?_eq_getElem hi⟩
      have h1 := rp r (List.mem_of_getElem? hr)
      have h2 := hn (s.bs.length + i) r.nm (by
        rw [List.getElem?_append_right (by omega), hbl, Nat.add_sub_cancel_left]
        simp [rNames, hr])
      rw [List.take_append, List.take_of_length_le (by omega), hbl, Nat.add_sub_cancel_left, ← rN_take] at h2
      rw [okR_at hr, h1.1, h2, h1.2]
      rfl
/-- What a rope needs of the blocks: their names. -/
theorem okHold_names {bs bs' : List Bk} (h : ∀ nm, (bNames bs).contains nm = (bNames bs').contains nm) (x : Hd) (e : Bool) : okHold bs x e = okHold bs' x e := by
  unfold okHold
  rw [findB_ge, findB_ge, h]
theorem okHolds_names {bs bs' : List Bk} (h : ∀ nm, (bNames bs).contains nm = (bNames bs').contains nm) (l : List Hd) : okHolds bs l = okHolds bs' l := by
  unfold okHolds
  congr 1
  funext i
  cases l[i]? with
  | none => rfl
  | some x => exact okHold_names h x _
theorem okRope_names {bs bs' : List Bk} (h : ∀ nm, (bNames bs).contains nm = (bNames bs').contains nm) (r : Rp) : okRope bs r = okRope bs' r := by
  unfold okRope
  rw [okHolds_names h]
/-- Other weights. -/
theorem VS.weights {s t : Sy} (h : VS s) (hr : t.rs = s.rs) (hn : bNames t.bs = bNames s.bs) (hw : ∀ b ∈ t.bs, 0 ≤ b.w ∧ b.w ≤ 16777216) : VS t := by
  have hl : t.bs.length = s.bs.length := by rw [← bN_len, ← bN_len, hn]
  refine ⟨by rw [hl]; exact h.b, by rw [hr]; exact h.r, by rw [hr, hn]; exact h.nd, fun b hb => ⟨?_, hw b hb⟩, fun r hr' => ?_, by rw [hr]; exact h.h⟩
  · have : b.nm ∈ bNames s.bs := by rw [← hn]; exact List.mem_map.2 ⟨b, hb, rfl⟩
    obtain ⟨c, hc, e⟩ := List.mem_map.1 this
    rw [← e]
    exact (h.bk c hc).1
  · rw [hr] at hr'
    rw [okRope_names (bs' := s.bs) (fun nm => by rw [hn])]
    exact h.rp r hr'
theorem matS_names {s t : Sy} (hr : t.rs = s.rs) (hn : bNames t.bs = bNames s.bs) : matS t = matS s := by
  have e : ∀ u : Sy, matS u = (bNames u.bs).map fun nm => u.rs.map fun r => pull nm r.hs := fun u => by unfold matS bNames; rw [List.map_map]; rfl
  rw [e, e, hn, hr]
/-- All in the reverse order. -/
def revS (s : Sy) : Sy := ⟨s.bs.reverse, s.rs.reverse⟩
theorem VS.rev {s : Sy} (h : VS s) : VS (revS s) := by
  refine ⟨by simpa [revS] using h.b, by simpa [revS] using h.r, ?_, fun b hb => h.bk b (List.mem_reverse.1 hb), fun r hr => ?_, ?_⟩
  · have e1 : bNames (revS s).bs = (bNames s.bs).reverse := by simp [revS, bNames]
    have e2 : rNames (revS s).rs = (rNames s.rs).reverse := by simp [revS, rNames]
    rw [e1, e2]
    refine (List.Perm.nodup_iff ?_).1 h.nd
    exact ((List.reverse_perm _).append (List.reverse_perm _)).symm
  · rw [okRope_names (bs' := s.bs) fun nm => by
      rw [Bool.eq_iff_iff, List.contains_iff_mem, List.contains_iff_mem]
      simp [revS, bNames]]
    exact h.rp r (List.mem_reverse.1 hr)
  · have : hauls (revS s).rs = hauls s.rs := by
      unfold hauls revS
      rw [List.filter_reverse, List.length_reverse]
    rw [this]
    exact h.h
theorem matS_rev (s : Sy) : matS (revS s) = revM (matS s) := by
  unfold matS revM revS
  simp only [List.map_reverse, List.map_map]
  rfl
theorem wtsS_rev (s : Sy) : wtsS (revS s) = (wtsS s).reverse := by simp [wtsS, revS]
theorem tens_rev {s : Sy} (hv : validS s = true) : tensP (revS s) = ((tensP s).1.reverse, (tensP s).2) := by
  have h2 := validS_iff.2 (validS_iff.1 hv).rev
  have ok := validS_ok hv
  unfold tensP
  rw [if_pos hv, if_pos h2, matS_rev, wtsS_rev]
  exact solve_rev ok.mat_valid ok.len ok.wts_in
/-- A rope that runs the other way. -/
def backR (r : Rp) : Rp := ⟨r.nm, r.hs.reverse, false⟩
def backS (s : Sy) (i : Nat) : Sy := ⟨s.bs, match s.rs[i]? with | some r => s.rs.set i (backR r) | none => s.rs⟩
theorem okHolds_iff {bs : List Bk} {hs : List Hd} : okHolds bs hs = true ↔ ∀ (i : Nat) (h : Hd), hs[i]? = some h → okHold bs h (endH hs.length i) = true := by
  unfold okHolds
  rw [List.all_eq_true]
  constructor
  · intro h i x hi
    have := h i (List.mem_range.2 (List.getElem?_eq_some_iff.1 hi).1)
    rw [hi] at this
    exact this
  · intro h i hi
    rw [List.mem_range] at hi
    rw [List.getElem?_eq_getElem hi]
    exact h i _ (List.getElem?_eq_getElem hi)
theorem okHolds_rev {bs : List Bk} {hs : List Hd} (h : okHolds bs hs = true) : okHolds bs hs.reverse = true := okHolds_iff.2 fun i x hi => by
  have hl := (List.getElem?_eq_some_iff.1 hi).1
  rw [List.length_reverse] at hl
  have := okHolds_iff.1 h _ x (rev_get hi)
  have e : endH hs.reverse.length i = endH hs.length (hs.length - 1 - i) := by
    unfold endH
    rw [List.length_reverse, Bool.eq_iff_iff]
    simp only [Bool.or_eq_true, beq_iff_eq]
    omega
  rw [e]
  exact this
theorem pull_perm {nm : ByteArray} {a b : List Hd} (h : a.Perm b) : pull nm a = pull nm b := by
  induction h with
  | nil => rfl
  | cons x _ ih => simp only [pull, ih]
  | swap x y l => simp only [pull]; omega
  | trans _ _ h1 h2 => rw [h1, h2]
theorem filter_set_len {l : List Rp} {i : Nat} {x y : Rp} (h : l[i]? = some x) (hy : y.hl = false) : hauls (l.set i y) ≤ hauls l := by
  unfold hauls
  obtain ⟨hi, e⟩ := List.getElem?_eq_some_iff.1 h
  rw [List.set_eq_take_append_cons_drop, if_pos hi]
  conv => rhs; rw [← List.take_append_drop i l, List.drop_eq_getElem_cons hi]
  simp only [List.filter_append, List.length_append, List.filter_cons, hy]
  simp only [Bool.false_eq_true, if_false]
  split <;> simp
theorem VS.back {s : Sy} (h : VS s) (i : Nat) : VS (backS s i) := by
  unfold backS
  cases hi : s.rs[i]? with
  | none => exact h
  | some r =>
    have hil := (List.getElem?_eq_some_iff.1 hi).1
    have hrm := List.mem_of_getElem? hi
    have hnm : rNames (s.rs.set i (backR r)) = rNames s.rs := by
      unfold rNames
      rw [List.map_set]
      refine List.ext_getElem? fun k => ?_
      by_cases e : i = k
      · subst e
        rw [List.getElem?_set_self (by simpa using hil), List.getElem?_map, hi]
        rfl
      · rw [List.getElem?_set_ne e]
    refine ⟨h.b, by simpa using h.r, by show (bNames s.bs ++ rNames (s.rs.set i (backR r))).Nodup; rw [hnm]; exact h.nd, h.bk, fun x hx => ?_, Nat.le_trans (filter_set_len hi rfl) h.h⟩
    rcases List.mem_or_eq_of_mem_set hx with hx | rfl
    · exact h.rp x hx
    · obtain ⟨a1, a2⟩ := h.rp r hrm
      refine ⟨a1, ?_⟩
      unfold okRope at a2 ⊢
      simp only [Bool.and_eq_true, decide_eq_true_eq] at a2 ⊢
      refine ⟨⟨by simpa [backR] using a2.1.1, ?_⟩, rfl⟩
      exact okHolds_rev a2.1.2
theorem matS_back (s : Sy) (i : Nat) : matS (backS s i) = matS s ∧ wtsS (backS s i) = wtsS s := by
  unfold backS
  cases hi : s.rs[i]? with
  | none => exact ⟨rfl, rfl⟩
  | some r =>
    refine ⟨?_, rfl⟩
    unfold matS
    simp only
    refine List.map_congr_left fun b _ => ?_
    rw [List.map_set]
    refine List.ext_getElem? fun k => ?_
    have hil := (List.getElem?_eq_some_iff.1 hi).1
    by_cases e : i = k
    · subst e
      rw [List.getElem?_set_self (by simpa using hil), List.getElem?_map, hi, Option.map_some]
      exact congrArg some (pull_perm (List.reverse_perm _))
    · rw [List.getElem?_set_ne e]
theorem tens_back {s : Sy} (hv : validS s = true) (i : Nat) : tensP (backS s i) = tensP s := by
  have h2 := validS_iff.2 ((validS_iff.1 hv).back i)
  obtain ⟨e1, e2⟩ := matS_back s i
  unfold tensP
  rw [if_pos hv, if_pos h2, e1, e2]
end Go.Proofs.Ytjjpjgnoanfaoaa.T
end

section
namespace Go.Proofs.Ytjjpjgnoanfaoaa.T
open Go Go.RowKit Lin
set_option linter.unusedSimpArgs false

/-! Sums of weights; one tension more (plain). -/
section
variable {m : List (List Int)} {right other : List Int}
theorem SolQ.add {Z Y : Nat → Int} {D E : Int} (h : SolQ m right Z D) (k : SolQ m other Y E) : SolQ m (zipA right other) (fun j => Z j * E + Y j * D) (D * E) := fun i r b hi hb => by
  obtain ⟨p, q, hp, hq, rfl⟩ := zip_get hb
  rw [sum_two (Lin.at_ r) Z Y E D, h i r p hi hp, k i r q hi hq, Int.mul_add]
  ac_rfl
theorem SolQ.less (hl : other.length = right.length) {Z Y : Nat → Int} {D E : Int} (h : SolQ m right Z D) (k : SolQ m (zipA right other) Y E) : SolQ m other (fun j => Y j * D + Z j * (-E)) (D * E) := fun i r b hi hb => by
  have hil := (List.getElem?_eq_some_iff.1 hb).1
  obtain ⟨p, hp⟩ : ∃ p, right[i]? = some p := ⟨_, List.getElem?_eq_getElem (by omega)⟩
  have hz : (zipA right other)[i]? = some (p + b) := by
    unfold zipA
    rw [List.getElem?_zipWith, hp, hb]
  rw [sum_two (Lin.at_ r) Y Z D (-E), h i r p hi hp, k i r _ hi hz]
  grind
variable (hv : validP m = true) (hr : right.length = m.length) (ho : other.length = m.length) (hw : withinP right 67108864 = true) (hwo : withinP other 67108864 = true) (hws : withinP (zipA right other) 67108864 = true)
include hv hr ho hw hwo hws
theorem adds_err (h1 : (solveP m right).2 = 0) : ((solveP m other).2 = 0 ∧ (solveP m (zipA right other)).2 = 0) ∨ ((solveP m other).2 = 22 ∧ (solveP m (zipA right other)).2 = 22) := by
  have hz : (zipA right other).length = m.length := by simp [zipA]; omega
  obtain ⟨⟨Z, D, hD, hZ⟩, hfull⟩ := (solve_ok hv hr hw).1 h1
  rcases solve_cases hv ho hwo with k | k | k
  · obtain ⟨⟨Y, E, hE, hY⟩, _⟩ := (solve_ok hv ho hwo).1 k
    exact .inl ⟨k, (solve_ok hv hz hws).2 ⟨⟨_, _, Int.mul_ne_zero hD hE, hZ.add hY⟩, hfull⟩⟩
  · exact absurd ((solve_free hv ho hwo).1 k).2 hfull
  · refine .inr ⟨k, (solve_gap hv hz hws).2 ?_⟩
    rintro ⟨Y, E, hE, hY⟩
    exact (solve_gap hv ho hwo).1 k ⟨_, _, Int.mul_ne_zero hD hE, hZ.less (by omega) hY⟩
theorem adds_at (h1 : (solveP m right).2 = 0) (h2 : (solveP m other).2 = 0) (h3 : (solveP m (zipA right other)).2 = 0) (i : Nat) (x y z : Int × Int) (hx : (solveP m right).1[i]? = some x) (hy : (solveP m other).1[i]? = some y) (hz : (solveP m (zipA right other)).1[i]? = some z) : addP x y = (z, 0) ∨ (addP x y).2 = 5 := by
  have hzl : (zipA right other).length = m.length := by simp [zipA]; omega
  obtain ⟨Z, D, hD, hZ, hl, hX⟩ := solve_val hv hr hw h1
  obtain ⟨Y, E, hE, hY, _, hX2⟩ := solve_val hv ho hwo h2
  obtain ⟨W, F, hF, hW, _, hX3⟩ := solve_val hv hzl hws h3
  have a := hX i x hx
  have b := hX2 i y hy
  have c := hX3 i z hz
  have hi : i < wid m := by have := (List.getElem?_eq_some_iff.1 hx).1; omega
  rw [addP_ok a.v b.v]
  rcases addR_err a.v b.v with k | k
  · left
    refine Prod.ext ((a.add b k).eq c ?_) k
    exact sol_uniq hv hzl hws ((solve_ok hv hr hw).1 h1).2 (Int.mul_ne_zero hD hE) hF (hZ.add hY) hW i hi
  · exact .inr k
end
/-! Residuals, one by one. -/
theorem resA_app {l : List (Int × Int)} : ∀ (m : List (List Int)) (ws : List Int) (acc : List (Int × Int)), (resA l m ws acc).2 = (resA l m ws []).2 ∧ ((resA l m ws []).2 = 0 → (resA l m ws acc).1 = acc ++ (resA l m ws []).1)
  | [], ws, acc => by simp [resA]
  | r :: m, [], acc => by simp [resA]
  | r :: m, w :: ws, acc => by
    simp only [resA]
    split
    · split
      · obtain ⟨a1, a2⟩ := resA_app m ws (acc ++ [(subP (w, 1) (dotF r l (0, 1)).1).1])
        obtain ⟨b1, b2⟩ := resA_app m ws ([] ++ [(subP (w, 1) (dotF r l (0, 1)).1).1])
        refine ⟨by rw [a1, b1], fun h => ?_⟩
        rw [b1] at h
        rw [a2 h, b2 h]
        simp
      · rename_i h2
        exact ⟨rfl, fun h => absurd h h2⟩
    · rename_i h1
      exact ⟨rfl, fun h => absurd h h1⟩
theorem resA_at {l : List (Int × Int)} : ∀ (m : List (List Int)) (ws : List Int), (resA l m ws []).2 = 0 → ∀ (i : Nat) (r : List Int) (w : Int), m[i]? = some r → ws[i]? = some w → (dotF r l (0, 1)).2 = 0 ∧ (subP (w, 1) (dotF r l (0, 1)).1).2 = 0 ∧ (resA l m ws []).1[i]? = some (subP (w, 1) (dotF r l (0, 1)).1).1
  | [], ws, _, i, r, w, hr, _ => by simp at hr
  | r :: m, [], _, i, r', w, _, hw => by simp at hw
  | r :: m, w :: ws, h0, i, r', w', hr, hw => by
    simp only [resA] at h0 ⊢
    split at h0
    rotate_left 1
    · rename_i h1; exact absurd h0 h1
    rename_i h1
    rw [if_pos h1]
    split at h0
    rotate_left 1
    · rename_i h2; exact absurd h0 h2
    rename_i h2
    rw [if_pos h2]
    obtain ⟨a1, a2⟩ := resA_app (l := l) m ws ([] ++ [(subP (w, 1) (dotF r l (0, 1)).1).1])
    rw [a1] at h0
    rw [a2 h0]
    cases i with
    | zero =>
      simp only [List.getElem?_cons_zero, Option.some.injEq] at hr hw
      subst hr
      subst hw
      exact ⟨h1, h2, by simp⟩
    | succ i =>
      have ih := resA_at m ws h0 i r' w' (by simpa using hr) (by simpa using hw)
      refine ⟨ih.1, ih.2.1, ?_⟩
      simpa using ih.2.2
theorem resA_full {l : List (Int × Int)} : ∀ (m : List (List Int)) (ws : List Int), m.length = ws.length → (resA l m ws []).2 = 0 → (resA l m ws []).1.length = m.length
  | [], ws, _, _ => by simp [resA]
  | r :: m, [], h, _ => by simp at h
  | r :: m, w :: ws, hl, h0 => by
    simp only [resA] at h0 ⊢
    split at h0
    rotate_left 1
    · rename_i h1; exact absurd h0 h1
    rename_i h1
    rw [if_pos h1]
    split at h0
    rotate_left 1
    · rename_i h2; exact absurd h0 h2
    rename_i h2
    rw [if_pos h2]
    obtain ⟨a1, a2⟩ := resA_app (l := l) m ws ([] ++ [(subP (w, 1) (dotF r l (0, 1)).1).1])
    rw [a1] at h0
    rw [a2 h0, List.length_append, resA_full m ws (by simpa using hl) h0]
    simp
    omega
theorem resP_err {s : Sy} {l : List (Int × Int)} : ((resP s l).2 ≠ 0 → (resP s l).1 = []) ∧ (givE s l = 0 → (resP s l).2 = 0 ∨ (resP s l).2 = 5) := by
  constructor
  · intro h
    unfold resP at h ⊢
    split at h
    · rename_i hg
      rw [if_pos hg]
      have main : ∀ (m : List (List Int)) (ws : List Int) (acc : List (Int × Int)), (resA l m ws acc).2 ≠ 0 → (resA l m ws acc).1 = [] := by
        intro m
        induction m with
        | nil => intro ws acc h; simp [resA] at h
        | cons r m ih =>
          intro ws acc h
          cases ws with
          | nil => simp [resA] at h
          | cons w ws =>
            simp only [resA] at h ⊢
            split at h
            · rename_i h1
              rw [if_pos h1]
              split at h
              · rename_i h2
                rw [if_pos h2]
                exact ih _ _ h
              · rename_i h2
                rw [if_neg h2]
            · rename_i h1
              rw [if_neg h1]
      exact main _ _ _ h
    · rename_i hg
      rw [if_neg hg]
  · intro hg
    have := chk_err hg
    unfold chkP at this
    by_cases h0 : (resP s l).2 = 0
    · exact .inl h0
    · rw [if_neg h0] at this
      exact this
theorem resP_full {s : Sy} {l : List (Int × Int)} (h0 : (resP s l).2 = 0) : givE s l = 0 ∧ (resP s l).1.length = s.bs.length := by
  by_cases hg : givE s l = 0
  · obtain ⟨hv, _⟩ := givE_zero hg
    have ok := validS_ok hv
    unfold resP at h0 ⊢
    rw [if_pos hg] at h0 ⊢
    exact ⟨hg, by rw [resA_full _ _ ok.len.symm h0, ok.mat_len]⟩
  · unfold resP at h0
    rw [if_neg hg] at h0
    exact absurd h0 hg
/-- One more on one rope. -/
theorem point_at {s : Sy} {l : List (Int × Int)} {i : Nat} {f : Int × Int} (hf : l[i]? = some f) (hx : (addP f (1, 1)).2 = 0) (h1 : (resP s l).2 = 0) (h2 : (resP s (l.set i (addP f (1, 1)).1)).2 = 0) (j : Nat) (b : Bk) (r : Rp) (hb : s.bs[j]? = some b) (hr : s.rs[i]? = some r) :
    ∃ p q, (resP s l).1[j]? = some p ∧ (resP s (l.set i (addP f (1, 1)).1)).1[j]? = some q ∧ (subP p q = ((pull b.nm r.hs, 1), 0) ∨ (subP p q).2 = 5) := by
  obtain ⟨g1, _⟩ := resP_full h1
  obtain ⟨g2, _⟩ := resP_full h2
  obtain ⟨hv, ha, hz⟩ := givE_zero g1
  have ok := validS_ok hv
  have hrow := ok.rows
  obtain ⟨Z, D, hD, hZ⟩ := dens l ha
  have hfv := hZ i f hf
  have h11 : Val (1, 1) 1 1 := .one (by omega)
  rw [addP_ok hfv.v h11.v] at *
  have hxv := (hfv.add h11 hx).to (r := Z i + D) hD (by grind)
  generalize (addR f (1, 1)).1 = x at *
  have hil := (List.getElem?_eq_some_iff.1 hf).1
  have hZ2 : ∀ (k : Nat) (g : Int × Int), (l.set i x)[k]? = some g → Val g (if k = i then Z i + D else Z k) D := fun k g hg => by
    by_cases e : k = i
    · subst e
      rw [List.getElem?_set_self hil, Option.some.injEq] at hg
      subst hg
      rw [if_pos rfl]
      exact hxv
    · rw [List.getElem?_set_ne (Ne.symm e)] at hg
      rw [if_neg e]
      exact hZ k g hg
  unfold resP at h1 h2 ⊢
  rw [if_pos g1] at h1 ⊢
  rw [if_pos g2] at h2 ⊢
  have hm : (matS s)[j]? = some (s.rs.map fun r => pull b.nm r.hs) := by simp [matS, hb]
  have hwj : (wtsS s)[j]? = some b.w := by simp [wtsS, hb]
  have hwv : Val (b.w, 1) b.w 1 := ⟨ok.wv _ (List.mem_of_getElem? hwj), by decide, rfl⟩
  obtain ⟨a1, a2, a3⟩ := resA_at _ _ h1 j _ _ hm hwj
  obtain ⟨b1, b2, b3⟩ := resA_at _ _ h2 j _ _ hm hwj
  refine ⟨_, _, a3, b3, ?_⟩
  obtain ⟨r1, r2⟩ := hrow _ (List.mem_of_getElem? hm)
  have hlw : wid (matS s) = l.length := by rw [ok.mat_wid, hz]
  have hp := dot_val hD (by rw [r1, hlw]) r2 hZ
  have hq := dot_val hD (by rw [r1, List.length_set, hlw]) r2 hZ2
  have hpi : Lin.at_ (s.rs.map fun r => pull b.nm r.hs) i = pull b.nm r.hs := by simp [Lin.at_, hr]
  rw [r1] at hp hq
  rw [sumN_upd (Lin.at_ (s.rs.map fun r => pull b.nm r.hs)) Z i (Z i + D) _ (by omega), hpi] at hq
  have hp := (hp.resolve_right (by omega)).2
  have hq := (hq.resolve_right (by omega)).2
  have hP := hwv.sub hp a2
  have hQ := hwv.sub hq b2
  generalize (subP (b.w, 1) (dotF (s.rs.map fun r => pull b.nm r.hs) l (0, 1)).1).1 = P at *
  generalize (subP (b.w, 1) (dotF (s.rs.map fun r => pull b.nm r.hs) (l.set i x) (0, 1)).1).1 = Q at *
  rcases subP_err hP.v hQ.v with k | k
  · exact .inl (Prod.ext ((hP.sub hQ k).int (by grind)) k)
  · exact .inr k
end Go.Proofs.Ytjjpjgnoanfaoaa.T
end


namespace Go.Proofs.Ytjjpjgnoanfaoaa.T
open Go Go.RowKit Lin
set_option linter.unusedSimpArgs false

/-! Fractions that fit: an operation whose value is a fraction's gives that fraction (plain). -/
theorem sg_abs (s : Bool) (n : Nat) : (sg s (n : Int)).natAbs = n := by unfold sg; cases s <;> simp
theorem made_is {x : Int × Int} (hx : vfrac x.1 x.2 = true) {a d : Nat} {s : Bool} (hd : 0 < d) (h : x.1 * (d : Int) = sg s a * x.2) : madeP a s d = (x, 0) := by
  obtain ⟨b1, b2, b3, b4, b5⟩ := fr_bounds hx
  have hn : x.1.natAbs * d = a * x.2.natAbs := by
    have := congrArg Int.natAbs h
    rwa [Int.natAbs_mul, Int.natAbs_mul, Int.natAbs_natCast, sg_abs] at this
  rw [made_low (p := x.1.natAbs) (q := x.2.natAbs) (by omega) hd b5 hn]
  unfold signP
  rw [if_neg (by omega)]
  have hd' : (0 : Int) < d := by omega
  have e2 : ((x.2.natAbs : Nat) : Int) = x.2 := Int.natAbs_of_nonneg (by omega)
  have hp := Int.mul_nonneg (Int.natCast_nonneg a) (show (0 : Int) ≤ x.2 by omega)
  have e1 : (if s = true then -((x.1.natAbs : Nat) : Int) else (x.1.natAbs : Int)) = x.1 := by
    cases s
    · have h0 : 0 ≤ x.1 := by
        rcases Int.lt_or_le x.1 0 with hl | hl
        · have := Int.mul_neg_of_neg_of_pos hl hd'
          simp only [sg, Bool.false_eq_true, if_false] at h
          omega
        · exact hl
      simp only [Bool.false_eq_true, if_false]
      omega
    · have h0 : x.1 ≤ 0 := by
        rcases Int.lt_or_le 0 x.1 with hl | hl
        · have := Int.mul_pos hl hd'
          simp only [sg, if_true, Int.neg_mul] at h
          omega
        · exact hl
      simp only [if_true]
      omega
  rw [e1, e2]
theorem madeP_nil {a d : Nat} {b : Bool} (h : (madeP a b d).2 ≠ 0) : (madeP a b d).1 = (0, 0) := by
  unfold madeP signP at h ⊢
  split
  · rfl
  · rename_i h1
    rw [if_neg h1] at h
    split
    · rfl
    · rename_i h2
      rw [if_neg h2] at h
      exact absurd rfl h
theorem den_mul {a b : Int × Int} (ha : vfrac a.1 a.2 = true) (hb : vfrac b.1 b.2 = true) : 0 < a.2.natAbs * b.2.natAbs ∧ ((a.2.natAbs * b.2.natAbs : Nat) : Int) = a.2 * b.2 := by
  have h1 := (fr_bounds ha).1
  have h2 := (fr_bounds hb).1
  exact ⟨Nat.mul_pos (by omega) (by omega), by rw [Int.natCast_mul, Int.natAbs_of_nonneg (by omega), Int.natAbs_of_nonneg (by omega)]⟩
theorem mulR_is {a b x : Int × Int} {p q r s : Int} (ha : Val a p q) (hb : Val b r s) (hx : Val x (p * r) (q * s)) : mulR a b = (x, 0) := by
  obtain ⟨hp, e1⟩ := den_mul ha.v hb.v
  refine made_is hx.v hp ?_
  have e2 : sg (decide (a.1 < 0) != decide (b.1 < 0)) ((a.1.natAbs * b.1.natAbs : Nat) : Int) = a.1 * b.1 := by
    rw [sg_mul a.1 b.1, Int.natCast_mul]
  rw [e1, e2]
  refine cancel (c := q * s) (Int.mul_ne_zero ha.n0 hb.n0) ?_
  have h1 := ha.e
  have h2 := hb.e
  have h3 := hx.e
  calc x.1 * (a.2 * b.2) * (q * s) = x.1 * (q * s) * (a.2 * b.2) := by ac_rfl
    _ = p * r * x.2 * (a.2 * b.2) := by rw [h3]
    _ = (p * a.2) * (r * b.2) * x.2 := by ac_rfl
    _ = (a.1 * q) * (b.1 * s) * x.2 := by rw [h1, h2]
    _ = a.1 * b.1 * x.2 * (q * s) := by ac_rfl
theorem addR_made {a b : Int × Int} (ha : vfrac a.1 a.2 = true) (hb : vfrac b.1 b.2 = true) : ∃ (s : Bool) (z : Nat), addR a b = madeP z s (a.2.natAbs * b.2.natAbs) ∧ sg s (z : Int) = a.1 * b.2 + b.1 * a.2 := by
  obtain ⟨a1, _⟩ := fr_bounds ha
  obtain ⟨b1, _⟩ := fr_bounds hb
  have x1 : ((a.1.natAbs * b.2.natAbs : Nat) : Int) = (a.1.natAbs : Int) * b.2 := by rw [Int.natCast_mul, Int.natAbs_of_nonneg (by omega : 0 ≤ b.2)]
  have y1 : ((b.1.natAbs * a.2.natAbs : Nat) : Int) = (b.1.natAbs : Int) * a.2 := by rw [Int.natCast_mul, Int.natAbs_of_nonneg (by omega : 0 ≤ a.2)]
  have sa := abs_sg a.1
  have sb := abs_sg b.1
  by_cases h1 : decide (a.1 < 0) = decide (b.1 < 0)
  · refine ⟨decide (a.1 < 0), a.1.natAbs * b.2.natAbs + b.1.natAbs * a.2.natAbs, by unfold addR; rw [if_pos h1], ?_⟩
    rw [Int.natCast_add, x1, y1]
    rw [← h1] at sb
    conv => rhs; rw [sa, sb]
    unfold sg
    cases decide (a.1 < 0)
    · simp
    · simp [Int.neg_mul, Int.neg_add]
  · by_cases h2 : a.1.natAbs * b.2.natAbs < b.1.natAbs * a.2.natAbs
    · refine ⟨decide (b.1 < 0), b.1.natAbs * a.2.natAbs - a.1.natAbs * b.2.natAbs, by unfold addR; rw [if_neg h1, if_pos h2], ?_⟩
      rw [Int.natCast_sub (by omega), x1, y1]
      conv => rhs; rw [sa, sb]
      rw [sg_mulr, sg_mulr]
      clear sa sb x1 y1
      generalize (a.1.natAbs : Int) * b.2 = P
      generalize (b.1.natAbs : Int) * a.2 = R
      exact sg_diff h1 P R
    · refine ⟨decide (a.1 < 0), a.1.natAbs * b.2.natAbs - b.1.natAbs * a.2.natAbs, by unfold addR; rw [if_neg h1, if_neg h2], ?_⟩
      rw [Int.natCast_sub (by omega), x1, y1]
      conv => rhs; rw [sa, sb]
      rw [sg_mulr, sg_mulr]
      clear sa sb x1 y1
      generalize (a.1.natAbs : Int) * b.2 = P
      generalize (b.1.natAbs : Int) * a.2 = R
      exact sg_diff2 h1 P R
theorem addR_is {a b x : Int × Int} {p q r s : Int} (ha : Val a p q) (hb : Val b r s) (hx : Val x (p * s + r * q) (q * s)) : addR a b = (x, 0) := by
  obtain ⟨hp, e1⟩ := den_mul ha.v hb.v
  obtain ⟨sn, z, e, hz⟩ := addR_made ha.v hb.v
  rw [e]
  refine made_is hx.v hp ?_
  rw [e1, hz]
  refine cancel (c := q * s) (Int.mul_ne_zero ha.n0 hb.n0) ?_
  have h1 := ha.e
  have h2 := hb.e
  have h3 := hx.e
  calc x.1 * (a.2 * b.2) * (q * s) = x.1 * (q * s) * (a.2 * b.2) := by ac_rfl
    _ = (p * s + r * q) * x.2 * (a.2 * b.2) := by rw [h3]
    _ = ((p * a.2) * (s * b.2) + (r * b.2) * (q * a.2)) * x.2 := by grind
    _ = ((a.1 * q) * (s * b.2) + (b.1 * s) * (q * a.2)) * x.2 := by rw [h1, h2]
    _ = (a.1 * b.2 + b.1 * a.2) * x.2 * (q * s) := by grind
theorem Val.num {b : Int × Int} {r s : Int} (k : Val b r s) : b.1 = 0 ↔ r = 0 := by
  have h := k.e
  constructor
  · intro e
    rw [e, Int.zero_mul] at h
    exact (Int.mul_eq_zero.1 h.symm).resolve_right k.d
  · intro e
    rw [e, Int.zero_mul] at h
    exact (Int.mul_eq_zero.1 h).resolve_right k.n0
theorem Val.recip {b : Int × Int} {r s : Int} (k : Val b r s) (h0 : r ≠ 0) : Val (recip b) s r := by
  refine ⟨recip_ok k.v fun e => h0 (k.num.1 e), h0, ?_⟩
  have he := k.e
  unfold T.recip
  split
  · simp only [Int.neg_mul, Int.mul_neg]
    rw [Int.mul_comm b.2, Int.mul_comm s, he]
  · simp only
    rw [Int.mul_comm b.2, Int.mul_comm s, he]
theorem divR_is {a b x : Int × Int} {p q r s : Int} (ha : Val a p q) (hb : Val b r s) (h0 : r ≠ 0) (hx : Val x (p * s) (q * r)) : divR a b = (x, 0) := by
  rw [div_recip hb.v]
  exact mulR_is ha (hb.recip h0) hx
theorem divR_nil {a b : Int × Int} (h : (divR a b).2 ≠ 0) : (divR a b).1 = (0, 0) := madeP_nil h
theorem mulR_nil {a b : Int × Int} (h : (mulR a b).2 ≠ 0) : (mulR a b).1 = (0, 0) := madeP_nil h
theorem divP_ok {a b : Int × Int} (ha : vfrac a.1 a.2 = true) (hb : vfrac b.1 b.2 = true) : divP a b = divR a b := by unfold divP; rw [if_pos ⟨ha, hb⟩]
theorem divP_nil {a b : Int × Int} (h : (divP a b).2 ≠ 0) : (divP a b).1 = (0, 0) := by
  unfold divP at h ⊢
  split
  · rename_i h1
    rw [if_pos h1] at h
    exact divR_nil h
  · rfl
theorem divP_val {a b : Int × Int} (h : (divP a b).2 = 0) : vfrac a.1 a.2 = true ∧ vfrac b.1 b.2 = true ∧ b.1 ≠ 0 ∧ divP a b = divR a b := by
  unfold divP at h
  split at h
  · rename_i h1
    refine ⟨h1.1, h1.2, fun e => ?_, divP_ok h1.1 h1.2⟩
    rw [div_zero e] at h
    simp at h
  · simp at h

/-! Chapter 13 (plain): advantages. -/
def unitB (nm : ByteArray) (b : Bk) : Bk := ⟨b.nm, if b.nm = nm then 1 else 0⟩
def unitS (s : Sy) (nm : ByteArray) : Sy := ⟨s.bs.map (unitB nm), s.rs⟩
def overN (n : Int) (s : Sy) : (Int × Int) × Int := if (haulP s).2 = 0 then divP (n, 1) (haulP s).1 else ((0, 0), (haulP s).2)
def forP (s : Sy) (nm : ByteArray) : (Int × Int) × Int := if validS s = true then (if findB s.bs nm < 0 then ((0, 0), 9) else overN 1 (unitS s nm)) else ((0, 0), 1)
theorem unit_names (s : Sy) (nm : ByteArray) : bNames (unitS s nm).bs = bNames s.bs := by simp [bNames, unitS, unitB]
theorem unit_len (s : Sy) (nm : ByteArray) : (unitS s nm).bs.length = s.bs.length := by simp [unitS]
theorem unit_valid {s : Sy} (hv : validS s = true) (nm : ByteArray) : validS (unitS s nm) = true := by
  refine validS_iff.2 ((validS_iff.1 hv).weights rfl (unit_names s nm) fun b hb => ?_)
  obtain ⟨c, _, rfl⟩ := List.mem_map.1 hb
  simp only [unitB]
  split <;> omega
theorem haulP_nil {s : Sy} (h : (haulP s).2 ≠ 0) : (haulP s).1 = (0, 0) := by
  unfold haulP at h ⊢
  split
  · rename_i h1
    rw [if_pos h1] at h
    split
    · rfl
    · rename_i h2
      rw [if_neg h2] at h
      exact absurd rfl h
  · rfl
theorem overN_nil {n : Int} {s : Sy} (h : (overN n s).2 ≠ 0) : (overN n s).1 = (0, 0) := by
  unfold overN at h ⊢
  split
  · rename_i h1
    rw [if_pos h1] at h
    exact divP_nil h
  · rfl
theorem forP_nil {s : Sy} {nm : ByteArray} (h : (forP s nm).2 ≠ 0) : (forP s nm).1 = (0, 0) := by
  unfold forP at h ⊢
  split
  · rename_i h1
    rw [if_pos h1] at h
    split
    · rfl
    · rename_i h2
      rw [if_neg h2] at h
      exact overN_nil h
  · rfl
theorem travP_nil {s : Sy} {nm : ByteArray} (h : (travP s nm).2 ≠ 0) : (travP s nm).1 = (0, 0) := by
  unfold travP at h ⊢
  split
  · rename_i h1
    rw [if_pos h1] at h
    split
    · rfl
    · rename_i h2
      rw [if_neg h2] at h
      split
      · rfl
      · rename_i h3
        rw [if_neg h3] at h
        split
        · rename_i h4
          rw [if_pos h4] at h
          exact divP_nil h
        · rfl
  · rfl
/-- The tension of the hauled rope. -/
theorem haulP_val {s : Sy} (h : (haulP s).2 = 0) : validS s = true ∧ (tensP s).2 = 0 ∧ ∃ (i : Nat) (r : Rp), hix s = (i : Int) ∧ s.rs[i]? = some r ∧ r.hl = true ∧ (tensP s).1[i]? = some (haulP s).1 ∧ ∃ Z D, D ≠ 0 ∧ SolQ (matS s) (wtsS s) Z D ∧ Val (haulP s).1 (Z i) D := by
  unfold haulP at h ⊢
  by_cases h1 : (tensP s).2 = 0
  · rw [if_pos h1] at h ⊢
    by_cases h2 : hix s < 0
    · rw [if_pos h2] at h
      simp at h
    · rw [if_neg h2]
      obtain ⟨hv, hl⟩ := tensP_len h1
      obtain ⟨i, r, e, hr, hh⟩ := hix_hit h2
      obtain ⟨_, Z, D, hD, hS, hV⟩ := tens_own h1
      have hi := (List.getElem?_eq_some_iff.1 hr).1
      obtain ⟨f, hf⟩ : ∃ y, (tensP s).1[i]? = some y := ⟨_, List.getElem?_eq_getElem (by omega)⟩
      have eg : (tensP s).1.getD (hix s).toNat (0, 0) = f := by rw [e, Int.toNat_natCast, List.getD_eq_getElem?_getD, hf]; rfl
      refine ⟨hv, h1, i, r, e, hr, hh, ?_, Z, D, hD, hS, ?_⟩
      · rw [eg]; exact hf
      · rw [eg]; exact hV i f hf
  · rw [if_neg h1] at h
    exact absurd h h1
theorem findB_ok {s : Sy} {nm : ByteArray} (h : ¬ findB s.bs nm < 0) : ∃ (j : Nat) (b : Bk), findB s.bs nm = j ∧ s.bs[j]? = some b ∧ b.nm = nm := findB_hit (by omega)
theorem at_unit {s : Sy} (ok : OkS s) {nm : ByteArray} {j : Nat} {b : Bk} (hb : s.bs[j]? = some b) (hn : b.nm = nm) {k : Nat} (hk : k < s.bs.length) : Lin.at_ (wtsS (unitS s nm)) k = if j = k then 1 else 0 := by
  have hc : s.bs[k]? = some s.bs[k] := List.getElem?_eq_getElem hk
  have : (unitS s nm).bs[k]? = some (unitB nm s.bs[k]) := by simp [unitS, hc]
  rw [at_wts this]
  by_cases e : j = k
  · subst e
    rw [hb, Option.some.injEq] at hc
    rw [if_pos rfl]
    simp only [unitB]
    rw [← hc, if_pos hn]
  · rw [if_neg e]
    simp only [unitB]
    rw [if_neg]
    intro h
    exact e (ok.inj j k b s.bs[k] hb hc (by rw [hn, h]))
theorem at_haul {s : Sy} {i : Nat} {r : Rp} (he : hix s = (i : Int)) (hr : s.rs[i]? = some r) {k : Nat} (hk : k < s.rs.length) : Lin.at_ (unitH s) k = if i = k then 1 else 0 := by
  unfold unitH Lin.at_
  rw [he, Int.toNat_natCast, List.getElem?_set]
  split
  · rename_i e
    rw [if_pos (by rw [List.length_replicate]; omega)]
    rfl
  · rw [List.getElem?_replicate, if_pos hk]
    rfl
theorem trS_names {s t : Sy} (hr : t.rs = s.rs) (hn : bNames t.bs = bNames s.bs) : trS t = trS s := by
  have hb : t.bs.length = s.bs.length := by rw [← bN_len, ← bN_len, hn]
  unfold trS
  rw [matS_names hr hn, hr]
/-- An advantage by forces is one by travels: virtual work. -/
theorem adv_same {s : Sy} {nm : ByteArray} (h1 : (forP s nm).2 = 0) (h2 : (travP s nm).2 = 0) : (forP s nm).1 = (travP s nm).1 ∧ (forP s nm).1.1 ≠ 0 := by
  unfold forP at h1 ⊢
  unfold travP at h2 ⊢
  by_cases hv : validS s = true
  rotate_left 1
  · rw [if_neg hv] at h1; simp at h1
  rw [if_pos hv] at h1 h2 ⊢
  rw [if_pos hv]
  by_cases hb : findB s.bs nm < 0
  · rw [if_pos hb] at h1; simp at h1
  rw [if_neg hb] at h1 h2 ⊢
  rw [if_neg hb]
  by_cases hx : hix s < 0
  · rw [if_pos hx] at h2; simp at h2
  rw [if_neg hx] at h2 ⊢
  by_cases hs : (speedsP s (unitH s)).2 = 0
  rotate_left 1
  · rw [if_neg hs] at h2; exact absurd h2 hs
  rw [if_pos hs] at h2 ⊢
  unfold overN at h1 ⊢
  by_cases hh : (haulP (unitS s nm)).2 = 0
  rotate_left 1
  · rw [if_neg hh] at h1; exact absurd h1 hh
  rw [if_pos hh] at h1 ⊢
  have ok := validS_ok hv
  obtain ⟨j, b, ej, hj, hn⟩ := findB_ok hb
  obtain ⟨hvu, _, i, r, ei, hr, _, _, Z, D, hD, hZ, hVt⟩ := haulP_val hh
  have oku := validS_ok hvu
  obtain ⟨X, E, hE, hX, hl, hV⟩ := speedsP_val hs
  have ei' : hix s = (i : Int) := ei
  have hr' : s.rs[i]? = some r := hr
  have hjl := (List.getElem?_eq_some_iff.1 hj).1
  have hil := (List.getElem?_eq_some_iff.1 hr').1
  obtain ⟨f, hf⟩ : ∃ y, (speedsP s (unitH s)).1[j]? = some y := ⟨_, List.getElem?_eq_getElem (by omega)⟩
  have ef : (speedsP s (unitH s)).1.getD (findB s.bs nm).toNat (0, 0) = f := by rw [ej, Int.toNat_natCast, List.getD_eq_getElem?_getD, hf]; rfl
  rw [ef] at h2 ⊢
  have hVf := hV j f hf
  have etr : trS (unitS s nm) = trS s := trS_names rfl (unit_names s nm)
  have hX' : SolQ (trS (unitS s nm)) (unitH s) X E := by rw [etr]; exact hX
  have hw := oku.virtual (h := unitH s) (by simp [unitH, unitS]) hZ hX'
  have hbl := unit_len s nm
  have w1 : sumN (fun k => Lin.at_ (wtsS (unitS s nm)) k * X k) (unitS s nm).bs.length = X j := by
    rw [hbl, sumN_congr (G := fun k => X k * (if j = k then 1 else 0)) _ fun k hk => by rw [at_unit ok hj hn hk, Int.mul_comm], sumN_pick _ _ _ _ hjl, Int.mul_one]
  have w2 : sumN (fun k => Lin.at_ (unitH s) k * Z k) (unitS s nm).rs.length = Z i := by
    show sumN (fun k => Lin.at_ (unitH s) k * Z k) s.rs.length = Z i
    rw [sumN_congr (G := fun k => Z k * (if i = k then 1 else 0)) _ fun k hk => by rw [at_haul ei' hr' hk, Int.mul_comm], sumN_pick _ _ _ _ hil, Int.mul_one]
  rw [w1, w2] at hw
  obtain ⟨v1, v2, n1, d1⟩ := divP_val h1
  obtain ⟨_, u2, n2, d2⟩ := divP_val h2
  rw [d1] at h1 ⊢
  rw [d2] at h2 ⊢
  have a1 := (Val.one (n := 1) (by decide)).div hVt n1 h1
  have a2 := (Val.one (n := 1) (by decide)).div hVf n2 h2
  refine ⟨a1.eq a2 ?_, fun e => ?_⟩
  · simp only [Int.one_mul]
    rw [Int.mul_comm D, Int.mul_comm E]
    exact hw
  · have := a1.num.1 e
    rw [Int.one_mul] at this
    exact hD this
end Go.Proofs.Ytjjpjgnoanfaoaa.T

