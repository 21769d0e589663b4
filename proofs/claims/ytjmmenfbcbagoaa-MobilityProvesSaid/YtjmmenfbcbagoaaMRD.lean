import Derived.Test.YtjmmenfbcbagoaaMQG
set_option linter.all false
namespace Go.Proofs.Ytjmmenfbcbagoaa.T
open Go Go.RowKit Lin
theorem gdzb3_MRD {F C1 C2 C3 P Q : Prop} (f : F) (c1 : C1) (c2 : C2) (c3 : C3) (q : Q) (h : F → C1 → C2 → C3 → Q → P := by
  intro ff cc1 cc2 cc3 hq
  (try with_reducible intro KR hKR)
  (repeat refine AW_seq ?_); (repeat refine AW_seq ?_); (refine AW_drawn_k tab_ok follows_mixed 0 fun KR hKR => ?_); simp only [List.replicate_succ, List.replicate_zero, List.append_nil, List.nil_append, List.cons_append, List.length_cons, List.length_nil, Nat.reduceAdd]; (repeat' ((first | refine awD_n rfl fun KK hKK => ?_ | refine awD_g rfl rfl fun KK hKK => ?_ | refine awD_gc rfl fun KK hKK => ?_ | refine awD_nc fun KK hKK => ?_); simp (disch := omega) only [bb, bt, zDs, zD, eqCells, simprocAttr, ff, bne_self_eq_false, Int.reduceBNe, Int.reduceBEq, Bool.bne_false, Bool.bne_true, Bool.false_bne, Bool.true_bne, goCDS, callDS_fn, argsZ, argsD, ufa, uf]; (try ((first | with_reducible refine PGive.ret (cc1) ?_ | with_reducible refine PGive.ret (cc2) ?_ | with_reducible refine PGive.ret (cc3) ?_); simp (disch := omega) only [bb, bt, zDs, zD, eqCells, simprocAttr, afterDS, ff, bne_self_eq_false, Int.reduceBNe, Int.reduceBEq, Bool.bne_false, Bool.bne_true, Bool.false_bne, Bool.true_bne])); refine hKK _ _ _ ?_; clear hKK KK)); (refine awD_nil ?_); simp only [List.reverse_cons, List.reverse_nil, List.nil_append, List.cons_append]; (refine hKR _ _ (by first | rfl | kernel_rfl) ?_); (try clear hKR KR); (repeat (with_reducible first | refine q1 ?_ | refine q2 ?_ | refine q3 ?_ | refine q4 ?_ | refine q5 ?_ | refine q6 ?_ | (refine q7 ?_ ?_; (focus (with_unfolding_all rfl)))))
  (first | exact hq | (revert hKR; revert KR; exact hq))) : P := h f c1 c2 c3 q
set_option linter.unusedSimpArgs false

/-! Chapter 16: redundant ropes. -/
def redB (s : Sy) (L : List Nat) (k : Nat) : Bool := rkF s (L.eraseIdx k) == rkF s L
def redN (s : Sy) (L : List Nat) (k : Nat) : List ByteArray := ((List.range k).filter (redB s L)).map fun i => (s.rs.getD (L.getD i 0) ⟨ByteArray.empty, [], false⟩).nm
theorem redN_step {s : Sy} {L : List Nat} {k i : Nat} {r : Rp} (hL : L[k]? = some i) (hr : s.rs[i]? = some r) : redN s L (k + 1) = if redB s L k = true then redN s L k ++ [r.nm] else redN s L k := by
  unfold redN
  rw [List.range_succ, List.filter_append, List.map_append]
  have e : (s.rs.getD (L.getD k 0) ⟨ByteArray.empty, [], false⟩).nm = r.nm := by
    rw [List.getD_eq_getElem?_getD (l := L), hL, Option.getD_some, List.getD_eq_getElem?_getD, hr]; rfl
  cases h : redB s L k
  · rw [List.filter_cons_of_neg (by simp [h])]
    simp
  · rw [List.filter_cons_of_pos (by simp [h]), List.filter_nil, List.map_cons, List.map_nil, e]
    simp
theorem redN_len (s : Sy) (L : List Nat) (k : Nat) : (redN s L k).length ≤ k := by
  have := List.length_filter_le (redB s L) (List.range k)
  simpa [redN] using this
def redP (s : Sy) : List ByteArray × Int := if validS s = true then (redN s (fixA s) (fixA s).length, 0) else ([], 1)
theorem rpC_get : ∀ (l : List Rp) (i : Nat) (r : Rp), l[i]? = some r → (rpC l)[i * 3]? = some (str r.nm)
  | [], i, r, h => by simp at h
  | x :: l, 0, r, h => by
    simp at h; subst h; rfl
  | x :: l, i + 1, r, h => by
    have := rpC_get l i r (by simpa using h)
    show (str x.nm :: hds x.hs :: bool x.hl :: rpC l)[(i + 1) * 3]? = _
    rw [show (i + 1) * 3 = i * 3 + 1 + 1 + 1 by omega, List.getElem?_cons_succ, List.getElem?_cons_succ, List.getElem?_cons_succ]
    exact this
theorem rpC_one {l : List Rp} {i : Nat} {r : Rp} (h : l[i]? = some r) : ((rpC l).drop (i * 3)).take 1 = [str r.nm] := by
  have := rpC_get l i r h
  obtain ⟨h1, h2⟩ := List.getElem?_eq_some_iff.1 this
  rw [List.drop_eq_getElem_cons h1, h2]
  rfl
set_option maxHeartbeats 4000000 in
theorem redundant_prog (s : Sy) (hf : Fits s) : PRet Try.prog 23 [syD s] (.tup [strsD (redP s).1, int (redP s).2]) := by
  refine PRet.intro 1 fun t => ACall.enter tab_ok Try.func23 rfl rfl Try.ntmps23 (by simp) ?_
  simp only [enterTM]
  have hO := of_prog s hf
  have hdr := rpC_div s.rs
  cases hv : validS s
  · rw [hv] at hO
    simp only [Bool.false_eq_true, if_false] at hO
    have e : redP s = ([], 1) := by simp [redP, hv]
    ((refine gga1 hO ?_))
    ((repeat refine AW_seq ?_); (refine wta ?_); simp (disch := omega) only [retQ, resD, oneD, rsv, rs, rsL, rsL_eq_map, List.map_map, bb, bt, zDs, zD, eqCells, simprocAttr, Try.results23, e])
    rfl
  rw [hv] at hO
  simp only [if_true] at hO
  have e : redP s = (redN s (fixA s) (fixA s).length, 0) := by simp [redP, hv]
  have ok := validS_ok hv
  have hr6 := ok.r6
  have hfl := fixP_len s.rs (-1) s.rs.length
  have hlt : ∀ j ∈ fixA s, j < s.rs.length := fun j hj => fixP_lt hj
  replace hfl : (fixA s).length ≤ 6 := Nat.le_trans hfl hr6
  rw [e]
  clear e
  generalize fixA s = L at *
  have hnl := nums_len L
  have hrl := rowsF_len s L
  have hR2 := rank_rows ok hfl hlt
  ((refine ggb1 hnl hO ?_))
  refine AW.begin 6 1 9 rfl (by decide) ?_
  simp only [putTM, List.length_cons, List.length_nil, Nat.reduceEqDiff, ↓reduceIte, List.cons_append, List.nil_append]
  refine AW_mid (fun x : Nat × Nat => ⟨[(6, .own 1 2 x.1 0 (redN s L L.length).length)], [none, none, some ⟨9, x.1, (redN s L L.length).map str⟩], x.2⟩) (fun _ => True) ?_ ?_
  · refine AW_block ?_
    refine AW_loop_w (fun x : Nat × Nat × Nat => ⟨[(1, .ptr 0 (t + 1) 0), (4, .ptr 1 (t + 1 + 1) 0), (6, .own 1 2 x.2.1 0 (redN s L x.1).length), (18, ints (nums L)), (19, int L.length), (20, int x.1)], [some ⟨25, t + 1, [bks s.bs, rps s.rs]⟩, some ⟨102, t + 1 + 1, [ints (nums L), mat (rowsF s L)]⟩, some ⟨9, x.2.1, (redN s L x.1).map str⟩], x.2.2⟩) (fun x => L.length - x.1) (fun x => x.1 ≤ L.length) (0, t + 1 + 1 + 1, t + 1 + 1 + 1) (Nat.zero_le _) (by (simp (disch := omega) only [StLe, tmLe, hpLe_refl, hpLe, bl, bb, bt, zDs, zD, eqCells, simprocAttr, redN, List.range_zero, List.filter_nil, List.map_nil, List.length_nil])) ?_
    rintro ⟨k, g, tt⟩ hk
    simp only at hk
    by_cases hkl : k < L.length
    · obtain ⟨i, hLk⟩ : ∃ y, L[k]? = some y := ⟨_, List.getElem?_eq_getElem hkl⟩
      have hil := hlt i (List.mem_of_getElem? hLk)
      obtain ⟨r, hr⟩ : ∃ y, s.rs[i]? = some y := ⟨_, List.getElem?_eq_getElem hil⟩
      have hra := rpC_get s.rs i r hr
      have hrb := rpC_one hr
      have hnk : (nums L)[k]? = some (i : Int) := by unfold nums; rw [List.getElem?_map, hLk]; rfl
      have hkn : k < (nums L).length := by omega
      have hst := redN_step hLk hr
      have hjl := redN_len s L k
      have hel : (L.eraseIdx k).length = L.length - 1 := List.length_eraseIdx_of_lt hkl
      have hW := without_ret (nums L) (rowsF s L) k (by omega) (by omega)
      rw [rowsF_erase] at hW
      have hR1 := rank_rows ok (L := L.eraseIdx k) (by omega) (fun j hj => hlt j (List.mem_of_mem_eraseIdx hj))
      unfold redB at hst
      generalize rkF s (L.eraseIdx k) = A at *
      generalize rkF s L = B at *
      generalize redN s L k = J at *
      have hcast : ((A : Int) == (B : Int)) = (A == B) := by rw [Bool.eq_iff_iff]; simp; omega
      cases hab : (A == B)
      · rw [hab] at hst hcast
        ((refine ggb0 (F := _∧_) ⟨@Int.ofNat_lt, hkl⟩ ?_))
        ((repeat refine AW_seq ?_))
        refine AW_block ?_
        ((refine ggb0 (F := _∧_) ⟨hkn, hnk⟩ ?_))
        ((repeat refine AW_seq ?_); (refine gdzb3_MRD hcast hW hR1 hR2 ?_))
        ((refine gga0 ?_))
        refine ⟨(k + 1, g, tt + 1), hkl, by show L.length - (k + 1) < L.length - k; omega, ?_⟩
        simp only [hst, Bool.false_eq_true, if_false]
        (simp (disch := omega) only [StLe, tmLe, hpLe_refl, hpLe, bl, bb, bt, zDs, zD, eqCells, simprocAttr])
      · rw [hab] at hst hcast
        ((refine ggb0 (F := _∧_) ⟨@Int.ofNat_lt, hkl⟩ ?_))
        ((repeat refine AW_seq ?_))
        refine AW_block ?_
        ((refine ggb0 (F := _∧_) ⟨hkn, hnk⟩ ?_))
        ((repeat refine AW_seq ?_); (refine gdzb3_MRD hcast hW hR1 hR2 ?_))
        ((refine ggb0 (F := _∧_∧_∧_) ⟨hdr, hil, hra, hrb⟩ ?_))
        refine ⟨(k + 1, tt + 1 + 1, tt + 1 + 1), hkl, by show L.length - (k + 1) < L.length - k; omega, ?_⟩
        simp only [hst, if_true, List.length_append, List.length_cons, List.length_nil, List.map_append, List.map_cons, List.map_nil]
        (simp (disch := omega) only [StLe, tmLe, hpLe_refl, hpLe, bl, bb, bt, zDs, zD, eqCells, simprocAttr])
    · have hke : k = L.length := by omega
      subst hke
      ((refine wqb @Int.lt_irrefl ?_))
      ((refine wia ?_))
      ((refine wxa ?_))
      exact ⟨(g, tt), trivial, by (simp (disch := omega) only [StLe, tmLe, hpLe_refl, hpLe, bl, bb, bt, zDs, zD, eqCells, simprocAttr])⟩
  rintro ⟨g, tt⟩ -
  generalize redN s L L.length = J at *
  have hfin : List.take J.length (J.map str) = J.map str := List.take_of_length_le (by simp)
  ((refine AW.freeze (2) (by first | rfl | (simp only [setH, List.getElem?_cons_zero, List.getElem?_cons_succ, hfin, fzS_str, List.length_map, Nat.le_refl]; done)) ?_); simp (disch := omega) only [fzT, fz, fzL, fzL_ints, fzL_mat, fzH, fzB, eq_self, bb, bt, zDs, zD, eqCells, simprocAttr, hfin, fzS_str, List.length_map, Nat.le_refl])
  ((refine gga0 ?_))
  ((repeat refine AW_seq ?_); (refine wta ?_); simp (disch := omega) only [retQ, resD, oneD, bb, bt, zDs, zD, eqCells, simprocAttr, Try.results23])
  exact rsv_tidy _ _ (by simp only [tidyD, tidyL, tidy_strs, Bool.not_false, Bool.and_self])
/-! Chapter 16: a witness proves that a rope is redundant (plain). -/
theorem ups_piv (k : Nat) : ∀ (d : Nat) (f : Frm), (ups k d f).pivots = f.pivots
  | 0, f => rfl
  | d + 1, f => by
    simp only [ups]
    rw [ups_piv k d]
theorem elim_pivots (m : List (List Int)) (c : Nat) : (elim m (c + 1)).pivots = (elim m c).pivots ∨ (elim m (c + 1)).pivots = (elim m c).pivots ++ [c] := by
  rw [elim_by, elim_by]
  show (colBy ups (elimBy ups m c) c).pivots = _ ∨ (colBy ups (elimBy ups m c) c).pivots = _
  unfold colBy
  split
  · exact .inl rfl
  · right
    simp only [piv]
    rw [ups_piv]
/-- Minors of the first rows, in the turned matrix. -/
theorem minor_front {E : List (List Int)} {x : List Int} {n : Nat} {S : List Row} {C : List Nat} (hS : ∀ s ∈ S, s ∈ E.map at_) (hC : ∀ c ∈ C, c < n) (h : w S C ≠ 0) :
    ∃ (S' : List Row) (C' : List Nat), (∀ s ∈ S', s ∈ (turnP (E ++ [x]) n).map at_) ∧ (∀ c ∈ C', c < E.length) ∧ w S' C' ≠ 0 ∧ S'.length = C.length := by
  obtain ⟨is, h1, rfl⟩ := pick hS
  have e : (is.map fun i j => at_ (row E i) j) = is.map fun i j => at_ (row (E ++ [x]) i) j := List.map_congr_left fun i hi => by
    have : row (E ++ [x]) i = row E i := by simp [row, List.getElem?_append_left (h1 i hi)]
    rw [this]
  rw [e, w_turn (fun i j => at_ (row (E ++ [x]) i) j) is C] at h
  refine ⟨_, is, fun s hs => ?_, h1, h, by simp⟩
  obtain ⟨c, hc, rfl⟩ := List.mem_map.1 hs
  refine List.mem_map.2 ⟨colP (E ++ [x]) c, List.mem_map.2 ⟨c, by simpa using hC c hc, rfl⟩, ?_⟩
  funext i
  exact at_colP (E ++ [x]) c i
/-- If a row adds nothing to the rank, the turned matrix' last column is free. -/
theorem last_free {E : List (List Int)} {x : List Int} {n : Nat} (hv : validP (turnP (E ++ [x]) n) = true) (hw : wid (turnP (E ++ [x]) n) = E.length + 1) (hl : ∀ r ∈ E ++ [x], r.length = n) {r : Nat}
    (h1 : r = 0 ∨ IsRank (E.map at_) n r) (h2 : IsRank ((E ++ [x]).map at_) n r) : (elim (turnP (E ++ [x]) n) (E.length + 1)).pivots.contains E.length = false ∧ (elim (turnP (E ++ [x]) n) (E.length + 1)).pivots.length = r := by
  have hs := valid_small hv
  rw [hw] at hs
  have ivn := elim_inv (ups_mover (turnP (E ++ [x]) n) (E.length + 1)) hs.lens (E.length + 1) (Nat.le_refl _)
  have ivm := elim_inv (ups_mover (turnP (E ++ [x]) n) (E.length + 1)) hs.lens E.length (Nat.le_succ _)
  rw [← elim_by] at ivn ivm
  have rn := ivn.isRank
  have rm := ivm.isRank
  have hrn : (elim (turnP (E ++ [x]) n) (E.length + 1)).pivots.length = r := by
    have : (E ++ [x]).length = E.length + 1 := by simp
    rw [← this] at rn
    have := rank_turn hl h2 rn
    simpa using this
  have hrm : r ≤ (elim (turnP (E ++ [x]) n) E.length).pivots.length := by
    rcases h1 with h | h
    · omega
    obtain ⟨S, C, k1, k2, k3, k4, k5, _⟩ := h
    obtain ⟨S', C', l1, l2, l3, l4⟩ := minor_front (x := x) k1 k4 k5
    have := rm.max l1 l2 l3
    omega
  refine ⟨?_, hrn⟩
  rcases elim_pivots (turnP (E ++ [x]) n) E.length with e | e
  · rw [e]
    cases hc : (elim (turnP (E ++ [x]) n) E.length).pivots.contains E.length
    · rfl
    · have := ivm.lt _ (List.contains_iff_mem.1 hc)
      omega
  · rw [e, List.length_append, List.length_singleton] at hrn
    omega
/-- The fractions that are put. -/
def ZP (P : List Nat) (Z : Nat → Int) (k : Nat) (i : Nat) : Int := sumN (fun j => if P[j]? = some i then Z j else 0) k
theorem sumN_pickW (g : Nat → Int) (c : Nat) (d : Int) : ∀ n, c < n → sumN (fun j => g j * (if c = j then d else 0)) n = g c * d
  | 0, h => by omega
  | n + 1, h => by
    simp only [sumN]
    by_cases e : c = n
    · subst e
      rw [if_pos rfl]
      have : sumN (fun j => g j * (if c = j then d else 0)) c = sumN (fun _ => 0) c := sumN_congr c fun k hk => by rw [if_neg (by omega), Int.mul_zero]
      rw [this, sumN_zero]
      omega
    · rw [if_neg e, sumN_pickW g c d n (by omega)]
      omega
theorem ZP_sum (a : Nat → Int) (P : List Nat) (Z : Nat → Int) (n : Nat) : ∀ k, k ≤ P.length → (∀ p ∈ P, p < n) → sumN (fun i => a i * ZP P Z k i) n = sumN (fun j => a (P.getD j 0) * Z j) k
  | 0, _, _ => by
    simp only [ZP, sumN, Int.mul_zero]
    exact sumN_zero n
  | k + 1, hk, hP => by
    obtain ⟨p, hp⟩ : ∃ y, P[k]? = some y := ⟨_, List.getElem?_eq_getElem (by omega)⟩
    have ih := ZP_sum a P Z n k (by omega) hP
    have e : ∀ i, a i * ZP P Z (k + 1) i = a i * ZP P Z k i + a i * (if p = i then Z k else 0) := fun i => by
      simp only [ZP, sumN, hp, Option.some.injEq]
      rw [Int.mul_add]
      exact Int.add_comm _ _
    rw [sumN_congr n fun i _ => e i, sumN_add, ih, sumN_pickW a p (Z k) n (hP p (List.mem_of_getElem? hp))]
    simp only [sumN]
    have : P.getD k 0 = p := by rw [List.getD_eq_getElem?_getD, hp]; rfl
    rw [this]
    exact Int.add_comm _ _
theorem ZP_new {P : List Nat} {Z : Nat → Int} {k p : Nat} (hn : P.Nodup) (hp : P[k]? = some p) : ∀ j, j ≤ k → ZP P Z j p = 0
  | 0, _ => rfl
  | j + 1, hj => by
    have ih := ZP_new (Z := Z) hn hp j (by omega)
    unfold ZP at ih ⊢
    simp only [sumN, ih]
    have hk := (List.getElem?_eq_some_iff.1 hp).1
    have : P[j]? ≠ some p := fun h => by
      have hj' := (List.getElem?_eq_some_iff.1 h).1
      have := (List.getElem?_inj hj' hn).1 (h.trans hp.symm)
      omega
    rw [if_neg this]
    rfl
theorem putW_val {v : List (Int × Int)} {P : List Nat} {n : Nat} {Z : Nat → Int} {D : Int} (hD : D ≠ 0) (hn : P.Nodup) (hX : ∀ (k : Nat) (f : Int × Int), v[k]? = some f → Val f (Z k) D) (hv : v.length = P.length) : ∀ k, k ≤ P.length → ∀ (i : Nat) (f : Int × Int), (putW v P n k)[i]? = some f → Val f (ZP P Z k i) D
  | 0, _, i, f, h => by
    simp only [putW, List.getElem?_replicate] at h
    split at h
    · cases h
      exact ⟨by decide, hD, by simp [ZP, sumN]⟩
    · cases h
  | k + 1, hk, i, f, h => by
    obtain ⟨p, hp⟩ : ∃ y, P[k]? = some y := ⟨_, List.getElem?_eq_getElem (by omega)⟩
    obtain ⟨y, hy⟩ : ∃ y, v[k]? = some y := ⟨_, List.getElem?_eq_getElem (by omega)⟩
    have e1 : P.getD k 0 = p := by rw [List.getD_eq_getElem?_getD, hp]; rfl
    have e2 : v.getD k (0, 0) = y := by rw [List.getD_eq_getElem?_getD, hy]; rfl
    simp only [putW, e1, e2] at h
    have ez : ZP P Z (k + 1) i = ZP P Z k i + if p = i then Z k else 0 := by simp only [ZP, sumN, hp, Option.some.injEq]; exact Int.add_comm _ _
    rw [ez]
    by_cases e : p = i
    · subst e
      rw [if_pos rfl, ZP_new hn hp k (Nat.le_refl _), Int.zero_add]
      rw [List.getElem?_set] at h
      rw [if_pos rfl] at h
      split at h
      · cases h
        exact hX k _ hy
      · cases h
    · rw [if_neg e, Int.add_zero]
      rw [List.getElem?_set_ne e] at h
      exact putW_val hD hn hX hv k (by omega) i f h
theorem putW_app (v : List (Int × Int)) (O : List Nat) (i n : Nat) : ∀ k, k ≤ O.length → putW v (O ++ [i]) n k = putW v O n k
  | 0, _ => rfl
  | k + 1, hk => by
    simp only [putW]
    rw [putW_app v O i n k (by omega)]
    have : (O ++ [i]).getD k 0 = O.getD k 0 := by rw [List.getD_eq_getElem?_getD, List.getD_eq_getElem?_getD, List.getElem?_append_left (by omega)]
    rw [this]
theorem putW_free {v : List (Int × Int)} {P : List Nat} {n i : Nat} (hi : i ∉ P) (hin : i < n) : ∀ k, k ≤ P.length → (putW v P n k)[i]? = some (0, 1)
  | 0, _ => by simp [putW, hin]
  | k + 1, hk => by
    obtain ⟨p, hp⟩ : ∃ y, P[k]? = some y := ⟨_, List.getElem?_eq_getElem (by omega)⟩
    have e1 : P.getD k 0 = p := by rw [List.getD_eq_getElem?_getD, hp]; rfl
    have hne : p ≠ i := fun h => hi (by rw [← h]; exact List.mem_of_getElem? hp)
    simp only [putW, e1]
    rw [List.getElem?_set_ne hne]
    exact putW_free hi hin k (by omega)
theorem isRank_mem {A B : List Row} {n r : Nat} (h : IsRank A n r) (e : ∀ x, x ∈ A ↔ x ∈ B) : IsRank B n r := by
  obtain ⟨S, C, k1, k2, k3, k4, k5, k6⟩ := h
  exact ⟨S, C, fun s hs => (e s).1 (k1 s hs), k2, k3, k4, k5, fun j hj y hy => k6 j hj y ((e y).2 hy)⟩
theorem erase_back {L : List Nat} {k i : Nat} (hk : L[k]? = some i) : ∀ j, j ∈ L.eraseIdx k ++ [i] ↔ j ∈ L := fun j => by
  obtain ⟨h1, h2⟩ := List.getElem?_eq_some_iff.1 hk
  have e : L = L.take k ++ i :: L.drop (k + 1) := by
    conv => lhs; rw [← List.take_append_drop k L, List.drop_eq_getElem_cons h1, h2]
  rw [List.eraseIdx_eq_take_drop_succ]
  constructor
  · intro h
    rw [e]
    simp only [List.mem_append, List.mem_cons, List.mem_singleton, List.not_mem_nil, or_false] at h ⊢
    rcases h with (h | h) | h
    · exact .inl h
    · exact .inr (.inr h)
    · exact .inr (.inl h)
  · intro h
    rw [e] at h
    simp only [List.mem_append, List.mem_cons, List.mem_singleton, List.not_mem_nil, or_false] at h ⊢
    rcases h with h | h | h
    · exact .inl (.inl h)
    · exact .inr h
    · exact .inl (.inr h)
theorem erase_nodup {L : List Nat} {k i : Nat} (hn : L.Nodup) (hk : L[k]? = some i) : (L.eraseIdx k ++ [i]).Nodup := by
  obtain ⟨h1, h2⟩ := List.getElem?_eq_some_iff.1 hk
  have e : L = L.take k ++ i :: L.drop (k + 1) := by
    conv => lhs; rw [← List.take_append_drop k L, List.drop_eq_getElem_cons h1, h2]
  rw [List.eraseIdx_eq_take_drop_succ]
  rw [e] at hn
  have := List.perm_middle (a := i) (l₁ := L.take k) (l₂ := L.drop (k + 1))
  exact (List.perm_append_singleton i _).symm.nodup (this.nodup hn)
theorem rowsF_rank {s : Sy} (ok : OkS s) {L : List Nat} (h0 : L ≠ []) (h1 : L.length ≤ 6) (h2 : ∀ i ∈ L, i < s.rs.length) : IsRank ((rowsF s L).map at_) s.bs.length (rkF s L) := by
  obtain ⟨rv, rw', rm⟩ := rowsF_valid ok h0 h1 h2
  have := rk_isRank (valid_small rv)
  unfold rkF
  rw [rw'] at this ⊢
  exact this
theorem rkF_nil (s : Sy) : rkF s [] = 0 := by
  have : rowsF s [] = [] := rfl
  unfold rkF
  rw [this]
  rfl
/-- A witness: its last entry is 1, and the pulls times it add up to 0. -/
theorem wit_val {s : Sy} (ok : OkS s) {L : List Nat} {k i : Nat} (hn : L.Nodup) (hL : ∀ j ∈ L, j < s.rs.length) (hl6 : L.length ≤ 6) (hLk : L[k]? = some i) (hr : ¬ rkF s (L.eraseIdx k) < rkF s L) :
    ∃ v, witK s L k i = (v, 0) ∧ v.length = s.rs.length ∧ v[i]? = some (1, 1) ∧ (∀ j, j < s.rs.length → j ∉ L → v[j]? = some (0, 1)) ∧ ∃ (Z : Nat → Int) (D : Int), D ≠ 0 ∧ (∀ (j : Nat) (f : Int × Int), v[j]? = some f → Val f (Z j) D) ∧ ∀ r ∈ matS s, sumN (fun j => at_ r j * Z j) s.rs.length = 0 := by
  have hb6 := ok.b6
  have hkl := (List.getElem?_eq_some_iff.1 hLk).1
  have hil := hL i (List.mem_of_getElem? hLk)
  have hback := erase_back hLk
  have hnd := erase_nodup hn hLk
  have hel : (L.eraseIdx k).length = L.length - 1 := List.length_eraseIdx_of_lt hkl
  have hP : ∀ j ∈ L.eraseIdx k ++ [i], j < s.rs.length := fun j hj => hL j ((hback j).1 hj)
  have hO : ∀ j ∈ L.eraseIdx k, j < s.rs.length := fun j hj => hP j (List.mem_append_left _ hj)
  have h0 : L ≠ [] := fun e => by subst e; simp at hLk
  obtain ⟨cv, cw, cm⟩ := rowsF_valid ok (L := L.eraseIdx k ++ [i]) (by simp) (by simp; omega) hP
  obtain ⟨uv, uw⟩ := turn_valid cv (by omega)
  rw [cw] at uv uw
  have hCe : rowsF s (L.eraseIdx k ++ [i]) = rowsF s (L.eraseIdx k) ++ [(trS s).getD i []] := by simp [rowsF]
  have hCl : (rowsF s (L.eraseIdx k ++ [i])).length = (rowsF s (L.eraseIdx k)).length + 1 := by rw [hCe]; simp
  have hEl := rowsF_len s (L.eraseIdx k)
  have hR := rowsF_rank ok h0 hl6 hL
  have hle : rkF s (L.eraseIdx k) = rkF s L ∨ L.eraseIdx k = [] ∧ rkF s L = 0 := by
    by_cases hO0 : L.eraseIdx k = []
    · rw [hO0, rkF_nil] at hr
      exact .inr ⟨hO0, by omega⟩
    · have := (rowsF_rank ok hO0 (by omega) hO).le hR fun x hx => by
        obtain ⟨q, hq, rfl⟩ := List.mem_map.1 hx
        obtain ⟨j, hj, rfl⟩ := List.mem_map.1 hq
        exact List.mem_map.2 ⟨_, List.mem_map.2 ⟨j, (hback j).1 (List.mem_append_left _ hj), rfl⟩, rfl⟩
      exact .inl (by omega)
  have h1 : rkF s L = 0 ∨ IsRank ((rowsF s (L.eraseIdx k)).map at_) s.bs.length (rkF s L) := by
    rcases hle with h | h
    · by_cases hO0 : L.eraseIdx k = []
      · rw [hO0, rkF_nil] at h
        exact .inl h.symm
      · rw [← h]
        exact .inr (rowsF_rank ok hO0 (by omega) hO)
    · exact .inl h.2
  have h2 : IsRank ((rowsF s (L.eraseIdx k) ++ [(trS s).getD i []]).map at_) s.bs.length (rkF s L) := by
    rw [← hCe]
    refine isRank_mem hR fun x => ?_
    constructor
    · intro hx
      obtain ⟨q, hq, rfl⟩ := List.mem_map.1 hx
      obtain ⟨j, hj, rfl⟩ := List.mem_map.1 hq
      exact List.mem_map.2 ⟨_, List.mem_map.2 ⟨j, (hback j).2 hj, rfl⟩, rfl⟩
    · intro hx
      obtain ⟨q, hq, rfl⟩ := List.mem_map.1 hx
      obtain ⟨j, hj, rfl⟩ := List.mem_map.1 hq
      exact List.mem_map.2 ⟨_, List.mem_map.2 ⟨j, (hback j).1 hj, rfl⟩, rfl⟩
  have hF := last_free (by rw [← hCe]; exact uv) (by rw [← hCe, uw, hCl]) (fun r hr' => (cm r (by rw [hCe]; exact hr')).2) h1 h2
  rw [← hCe, ← hCl, hCl, Nat.add_comm, Nat.add_comm 1] at hF
  have hs := valid_small uv
  have iv := elim_inv (ups_mover (turnP (rowsF s (L.eraseIdx k ++ [i])) s.bs.length) (wid (turnP (rowsF s (L.eraseIdx k ++ [i])) s.bs.length))) hs.lens _ (Nat.le_refl _)
  rw [← elim_by, uw, hCl] at iv
  have ho := nvec_one iv (Nat.lt_succ_self _) hF.1 _ (Nat.le_refl _)
  have hX := fun v hv => (modes_val uv (v := v) hv).2
  have hnl : (nullP (turnP (rowsF s (L.eraseIdx k ++ [i])) s.bs.length)).1 = nulls (elim (turnP (rowsF s (L.eraseIdx k ++ [i])) s.bs.length) ((rowsF s (L.eraseIdx k)).length + 1)) ((rowsF s (L.eraseIdx k)).length + 1) (rowsF s (L.eraseIdx k)).length ++ [nvec (elim (turnP (rowsF s (L.eraseIdx k ++ [i])) s.bs.length) ((rowsF s (L.eraseIdx k)).length + 1)) ((rowsF s (L.eraseIdx k)).length + 1) (rowsF s (L.eraseIdx k)).length (elim (turnP (rowsF s (L.eraseIdx k ++ [i])) s.bs.length) ((rowsF s (L.eraseIdx k)).length + 1)).pivots.length] := by
    unfold nullP
    rw [if_pos uv]
    simp only [uw, hCl]
    simp only [nulls, hF.1]
    rfl
  have hvl := nvec_len (elim (turnP (rowsF s (L.eraseIdx k ++ [i])) s.bs.length) ((rowsF s (L.eraseIdx k)).length + 1)) ((rowsF s (L.eraseIdx k)).length + 1) (rowsF s (L.eraseIdx k)).length (elim (turnP (rowsF s (L.eraseIdx k ++ [i])) s.bs.length) ((rowsF s (L.eraseIdx k)).length + 1)).pivots.length
  generalize nvec (elim (turnP (rowsF s (L.eraseIdx k ++ [i])) s.bs.length) ((rowsF s (L.eraseIdx k)).length + 1)) ((rowsF s (L.eraseIdx k)).length + 1) (rowsF s (L.eraseIdx k)).length (elim (turnP (rowsF s (L.eraseIdx k ++ [i])) s.bs.length) ((rowsF s (L.eraseIdx k)).length + 1)).pivots.length = v at *
  generalize nulls (elim (turnP (rowsF s (L.eraseIdx k ++ [i])) s.bs.length) ((rowsF s (L.eraseIdx k)).length + 1)) ((rowsF s (L.eraseIdx k)).length + 1) (rowsF s (L.eraseIdx k)).length = Y at *
  have hw : witK s L k i = (witV s L k i v, 0) := by
    unfold witK
    rw [if_neg hr]
    unfold colsW
    rw [hnl, if_neg (by simp)]
    simp
  have hlast : v.getD (v.length - 1) (0, 0) = (1, 1) := by
    rw [hvl, Nat.add_sub_cancel, List.getD_eq_getElem?_getD, ho]
    rfl
  have hPl : (L.eraseIdx k ++ [i]).length = (L.eraseIdx k).length + 1 := by simp
  have hwp : witV s L k i v = putW v (L.eraseIdx k ++ [i]) s.rs.length (L.eraseIdx k ++ [i]).length := by
    unfold witV
    rw [hPl]
    simp only [putW]
    rw [putW_app _ _ _ _ _ (Nat.le_refl _)]
    have e1 : (L.eraseIdx k ++ [i]).getD (L.eraseIdx k).length 0 = i := by rw [List.getD_eq_getElem?_getD, List.getElem?_append_right (Nat.le_refl _), Nat.sub_self]; rfl
    have e2 : v.length - 1 = (L.eraseIdx k).length := by omega
    rw [e1, e2]
  obtain ⟨Z, D, hD, hK, hXv⟩ := hX v (by rw [hnl]; simp)
  refine ⟨_, hw, ?_, ?_, fun j hj hjL => ?_, ZP (L.eraseIdx k ++ [i]) Z (L.eraseIdx k ++ [i]).length, D, hD, fun j f hf => ?_, fun r hr' => ?_⟩
  · rw [hwp, putW_len]
  · unfold witV
    rw [hlast, List.getElem?_set_self (by rw [putW_len]; exact hil)]
  · rw [hwp]
    exact putW_free (fun h => hjL ((hback j).1 h)) hj _ (Nat.le_refl _)
  · rw [hwp] at hf
    exact putW_val hD hnd hXv (by omega) _ (Nat.le_refl _) j f hf
  · rw [ZP_sum (at_ r) _ Z s.rs.length _ (Nat.le_refl _) hP]
    obtain ⟨b, hb⟩ := List.mem_iff_getElem?.1 hr'
    have hbl := (List.getElem?_eq_some_iff.1 hb).1
    rw [ok.mat_len] at hbl
    have hk0 := hK (colP (rowsF s (L.eraseIdx k ++ [i])) b) (List.mem_map.2 ⟨b, by simpa using hbl, rfl⟩)
    rw [uw, rowsF_len] at hk0
    rw [← hk0]
    refine sumN_congr _ fun j hj => ?_
    rw [at_colP]
    obtain ⟨p, hp⟩ : ∃ y, (L.eraseIdx k ++ [i])[j]? = some y := ⟨_, List.getElem?_eq_getElem hj⟩
    have e1 : (L.eraseIdx k ++ [i]).getD j 0 = p := by rw [List.getD_eq_getElem?_getD, hp]; rfl
    have e2 : Lin.row (rowsF s (L.eraseIdx k ++ [i])) j = colP (matS s) p := by
      unfold Lin.row rowsF
      rw [List.getElem?_map, hp]
      exact trS_getD s (hP p (List.mem_of_getElem? hp))
    have e3 : Lin.row (matS s) b = r := by unfold Lin.row; rw [hb]; rfl
    rw [e1, e2, at_colP, e3]
/-! MobilityProves. -/
theorem redN_mem {s : Sy} (ok : OkS s) {L : List Nat} (hL : ∀ j ∈ L, j < s.rs.length) {j : Nat} {r : Rp} (hr : s.rs[j]? = some r) : (redN s L L.length).contains r.nm = true ↔ ∃ k, L[k]? = some j ∧ redB s L k = true := by
  rw [List.contains_iff_mem]
  unfold redN
  rw [List.mem_map]
  constructor
  · rintro ⟨k, hk, e⟩
    rw [List.mem_filter, List.mem_range] at hk
    obtain ⟨i, hi⟩ : ∃ y, L[k]? = some y := ⟨_, List.getElem?_eq_getElem hk.1⟩
    have hil := hL i (List.mem_of_getElem? hi)
    obtain ⟨q, hq⟩ : ∃ y, s.rs[i]? = some y := ⟨_, List.getElem?_eq_getElem hil⟩
    have e1 : s.rs.getD (L.getD k 0) ⟨ByteArray.empty, [], false⟩ = q := by
      rw [List.getD_eq_getElem?_getD (l := L), hi, Option.getD_some, List.getD_eq_getElem?_getD, hq]; rfl
    rw [e1] at e
    have := ok.rinj i j q r hq hr e
    subst this
    exact ⟨k, hi, hk.2⟩
  · rintro ⟨k, hi, hb⟩
    have hkl := (List.getElem?_eq_some_iff.1 hi).1
    refine ⟨k, List.mem_filter.2 ⟨List.mem_range.2 hkl, hb⟩, ?_⟩
    rw [List.getD_eq_getElem?_getD (l := L), hi, Option.getD_some, List.getD_eq_getElem?_getD, hr]; rfl
theorem findM_own {s : Sy} (hv : validS s = true) (ok : OkS s) {j : Nat} {r : Rp} (hr : s.rs[j]? = some r) : findM s r.nm = ((j : Int), 0) := by
  have h0 : (findM s r.nm).2 = 0 := by
    unfold findM
    rw [if_pos hv]
    have ha : (s.rs.any fun q : Rp => decide (q.nm = r.nm)) = true := List.any_eq_true.2 ⟨r, List.mem_of_getElem? hr, by simp⟩
    obtain ⟨h1, h2⟩ := idx_lt (fun q : Rp => decide (q.nm = r.nm)) s.rs 0
    obtain ⟨k, x, e1, _, _⟩ := h1 ha
    unfold findR
    rw [e1, if_neg (by omega)]
  obtain ⟨_, i, q, e, hq, hn⟩ := findM_ok h0
  rw [e, ok.rinj i j q r hq hr hn]
theorem fixA_nodup (s : Sy) : (fixA s).Nodup := List.nodup_range.filter _
theorem fixA_mem {s : Sy} {j : Nat} {r : Rp} (hr : s.rs[j]? = some r) : j ∈ fixA s ↔ r.hl = false := by
  have hj := (List.getElem?_eq_some_iff.1 hr).1
  unfold fixA
  rw [fixP_mem]
  unfold fixB
  rw [hr]
  have : ((j : Int) == -1) = false := by simp
  simp only [this, Bool.not_false, Bool.and_true, hj, true_and]
  cases r.hl <;> simp
theorem idxN_miss (x : Int) : ∀ (l : List Int) (n : Nat), x ∉ l → idxN x l n = -1
  | [], n, _ => rfl
  | y :: r, n, h => by
    simp only [idxN]
    rw [if_neg (fun e => h (by rw [e]; simp)), idxN_miss x r (n + 1) fun hm => h (List.mem_cons_of_mem _ hm)]
theorem nums_mem {L : List Nat} {i : Nat} : (i : Int) ∈ nums L ↔ i ∈ L := by
  unfold nums
  rw [List.mem_map]
  constructor
  · rintro ⟨k, hk, e⟩
    have : k = i := by omega
    subst this; exact hk
  · intro h; exact ⟨i, h, rfl⟩
theorem fixA_le {s : Sy} (ok : OkS s) : (fixA s).length ≤ 6 := by
  have hr6 := ok.r6
  have hfl := fixP_len s.rs (-1) s.rs.length
  unfold fixA
  omega
/-- What a witness is, rope by rope. -/
theorem wit_own {s : Sy} (hv : validS s = true) {j : Nat} {r : Rp} (hr : s.rs[j]? = some r) : (r.hl = true ∧ witP s r.nm = ([], 12)) ∨ ∃ k, (fixA s)[k]? = some j ∧ r.hl = false ∧ witP s r.nm = witK s (fixA s) k j := by
  have ok := validS_ok hv
  have hF := findM_own hv ok hr
  have e : witP s r.nm = if idxN (j : Int) (nums (fixA s)) 0 < 0 then ([], 12) else witK s (fixA s) (idxN (j : Int) (nums (fixA s)) 0).toNat j := by
    unfold witP
    rw [hF]
    simp
  rw [e]
  by_cases hm : j ∈ fixA s
  · right
    have hne : ¬ idxN (j : Int) (nums (fixA s)) 0 < 0 := by
      have := idxN_mem (j : Int) (nums (fixA s)) 0
      rw [List.contains_iff_mem.2 (nums_mem.2 hm)] at this
      have := of_decide_eq_true this
      omega
    obtain ⟨k, hk1, hk2⟩ := idxN_hit (j : Int) (nums (fixA s)) 0 hne
    rw [Nat.zero_add] at hk1
    rw [if_neg hne, hk1, Int.toNat_natCast]
    refine ⟨k, ?_, (fixA_mem hr).1 hm, rfl⟩
    unfold nums at hk2
    rw [List.getElem?_map] at hk2
    cases hq : (fixA s)[k]? with
    | none => rw [hq] at hk2; simp at hk2
    | some y => rw [hq] at hk2; simp at hk2; exact congrArg some (by omega)
  · left
    rw [idxN_miss _ _ _ (fun h => hm (nums_mem.1 h)), if_pos (by decide)]
    refine ⟨?_, rfl⟩
    cases hh : r.hl
    · exact absurd ((fixA_mem hr).2 hh) hm
    · rfl
theorem rkF_le {s : Sy} (ok : OkS s) {L M : List Nat} (hM : M.length ≤ 6) (hL : L.length ≤ 6) (hm : ∀ j ∈ M, j < s.rs.length) (h : ∀ j ∈ L, j ∈ M) : rkF s L ≤ rkF s M := by
  by_cases h0 : L = []
  · subst h0
    rw [rkF_nil]
    exact Nat.zero_le _
  · have h1 : M ≠ [] := fun e => by
      subst e
      cases L with
      | nil => exact h0 rfl
      | cons a l => exact absurd (h a (by simp)) (by simp)
    exact (rowsF_rank ok h0 hL fun j hj => hm j (h j hj)).le (rowsF_rank ok h1 hM hm) fun x hx => by
      obtain ⟨q, hq, rfl⟩ := List.mem_map.1 hx
      obtain ⟨j, hj, rfl⟩ := List.mem_map.1 hq
      exact List.mem_map.2 ⟨_, List.mem_map.2 ⟨j, h j hj, rfl⟩, rfl⟩
theorem proves_case {s : Sy} (hv : validS s = true) {j : Nat} {r : Rp} (hr : s.rs[j]? = some r) :
    (witP s r.nm = ([], 12) ∧ (redP s).1.contains r.nm = false) ∨ ((redP s).1.contains r.nm = true ∧ r.hl = false ∧ ∃ v, witP s r.nm = (v, 0) ∧ v.length = s.rs.length ∧ v[j]? = some (1, 1) ∧ (∀ (i : Nat) (q : Rp), s.rs[i]? = some q → q.hl = true → v[i]? = some (0, 1)) ∧ ∃ (Z : Nat → Int) (D : Int), D ≠ 0 ∧ (∀ (i : Nat) (f : Int × Int), v[i]? = some f → Val f (Z i) D) ∧ ∀ row ∈ matS s, sumN (fun i => at_ row i * Z i) s.rs.length = 0) := by
  have ok := validS_ok hv
  have eR : (redP s).1 = redN s (fixA s) (fixA s).length := by simp [redP, hv]
  have hL : ∀ i ∈ fixA s, i < s.rs.length := fun i hi => fixP_lt hi
  have hl6 := fixA_le ok
  have hM := redN_mem ok hL hr
  rw [eR]
  rcases wit_own hv hr with ⟨h1, h2⟩ | ⟨k, h1, h2, h3⟩
  · refine .inl ⟨h2, Bool.eq_false_iff.2 fun h => ?_⟩
    obtain ⟨k, hk, _⟩ := hM.1 h
    have := (fixA_mem hr).1 (List.mem_of_getElem? hk)
    rw [h1] at this
    cases this
  · have hkl := (List.getElem?_eq_some_iff.1 h1).1
    have hel : ((fixA s).eraseIdx k).length = (fixA s).length - 1 := List.length_eraseIdx_of_lt hkl
    have hle : rkF s ((fixA s).eraseIdx k) ≤ rkF s (fixA s) := rkF_le ok hl6 (by omega) hL fun i hi => List.mem_of_mem_eraseIdx hi
    by_cases hlt : rkF s ((fixA s).eraseIdx k) < rkF s (fixA s)
    · refine .inl ⟨by rw [h3]; unfold witK; rw [if_pos hlt], Bool.eq_false_iff.2 fun h => ?_⟩
      obtain ⟨k', hk', hb⟩ := hM.1 h
      have hk'l := (List.getElem?_eq_some_iff.1 hk').1
      have e := (List.getElem?_inj hk'l (fixA_nodup s)).1 (hk'.trans h1.symm)
      subst e
      unfold redB at hb
      have : rkF s ((fixA s).eraseIdx k') = rkF s (fixA s) := by simpa using hb
      omega
    · obtain ⟨v, w1, w2, w3, w4, w5⟩ := wit_val ok (fixA_nodup s) hL hl6 h1 hlt
      refine .inr ⟨hM.2 ⟨k, h1, ?_⟩, h2, v, by rw [h3, w1], w2, w3, fun i q hq hh => ?_, w5⟩
      · unfold redB
        simp only [beq_iff_eq]
        omega
      · refine w4 i (List.getElem?_eq_some_iff.1 hq).1 fun hm => ?_
        have := (fixA_mem hq).1 hm
        rw [hh] at this
        cases this
theorem redP_len {s : Sy} (hv : validS s = true) : (redP s).1.length ≤ 6 := by
  have := fixA_le (validS_ok hv)
  have h2 := redN_len s (fixA s) (fixA s).length
  have eR : (redP s).1 = redN s (fixA s) (fixA s).length := by simp [redP, hv]
  rw [eR]
  omega
set_option maxHeartbeats 8000000 in
theorem law_proves (s : Sy) : PRet Try.prog 5 [syD s] (bool true) := by
  refine PRet.intro 1 fun t => ACall.enter tab_ok Try.func5 rfl rfl Try.ntmps5 (by simp) ?_
  simp only [enterTM]
  have hL : PRet Try.prog 20 [syD s, .v (.string ⟨#[]⟩)] (bool (longM s ⟨#[]⟩)) := long16 s ⟨#[]⟩
  cases hlo : longM s ⟨#[]⟩
  rotate_left 1
  · rw [hlo] at hL
    ((refine gga2 awake16 hL ?_))
    ((repeat refine AW_seq ?_); (refine wta ?_); simp (disch := omega) only [retQ, resD, oneD, rsv, rs, rsL, rsL_eq_map, List.map_map, bb, bt, zDs, zD, eqCells, simprocAttr, Try.results5])
  rw [hlo] at hL
  have hs : smallS s = true := by
    unfold longM at hlo
    rw [Bool.or_eq_false_iff] at hlo
    simpa using hlo.1
  have hf := small_fits hs
  have hV := valid_ref s hf
  cases hv : validS s
  · rw [hv] at hV
    ((refine gga3 awake16 hL hV ?_))
    ((repeat refine AW_seq ?_); (refine wta ?_); simp (disch := omega) only [retQ, resD, oneD, rsv, rs, rsL, rsL_eq_map, List.map_map, bb, bt, zDs, zD, eqCells, simprocAttr, Try.results5])
  rw [hv] at hV
  have hM := matrix_prog s hf
  rw [hv] at hM
  simp only [if_true] at hM
  have hRd := redundant_prog s hf
  have hW := witness_prog s hf
  have ok := validS_ok hv
  have hdr := rpC_div s.rs
  have hr6 := ok.r6
  have hb6 := ok.b6
  have hrow := ok.rows
  have ml := ok.mat_len
  have mw := ok.mat_wid
  have hpc := fun (j : Nat) (r : Rp) (hr : s.rs[j]? = some r) => proves_case hv hr
  have hRl := redP_len hv
  have e0 : (redP s).2 = 0 := by simp [redP, hv]
  generalize redP s = Y at *
  obtain ⟨R, ye⟩ := Y
  simp only at *
  subst e0
  have o0 := of16 0
  have o1 := of16 1
  ((refine ggb5 hdr awake16 hL hV hM hRd ?_))
  ((repeat refine AW_seq ?_))
  refine AW_mid (fun x : Nat => ⟨[], [], x⟩) (fun _ => True) ?_ ?_
  · refine AW_block ?_
    refine AW_loop_w (fun x : Nat × Nat => ⟨[(1, .ptr 0 (t + 1) 0), (3, mat (matS s)), (5, strsD R), (43, rps s.rs), (44, int s.rs.length), (45, int x.1)], [some ⟨25, t + 1, [bks s.bs, rps s.rs]⟩], x.2⟩) (fun x => s.rs.length - x.1) (fun x => x.1 ≤ s.rs.length) (0, t + 1) (Nat.zero_le _) (by (simp (disch := omega) only [StLe, tmLe, hpLe_refl, hpLe, bl, bb, bt, zDs, zD, eqCells, simprocAttr])) ?_
    rintro ⟨j, tt⟩ hj
    simp only at hj
    by_cases hlt : j < s.rs.length
    · obtain ⟨r, hr⟩ : ∃ y, s.rs[j]? = some y := ⟨_, List.getElem?_eq_getElem hlt⟩
      have hra := rpC_read s.rs j r hr
      have hC := containsStrs R r.nm (by omega)
      have hWr := hW r.nm
      ((refine ggb0 (F := _∧_) ⟨@Int.ofNat_lt, hlt⟩ ?_))
      ((repeat refine AW_seq ?_))
      refine AW_block ?_
      ((refine wqb (F := _∧_∧_) ⟨hlt, hdr, hra⟩ ?_))
      ((refine AW.freeze (1) (by first | rfl | (simp only [setH, List.getElem?_cons_zero, List.getElem?_cons_succ, fz_bk, fz_rp, fzS_str, fzL_mat]; done)) ?_); simp (disch := omega) only [fzT, fz, fzL, fzL_ints, fzL_mat, fzH, fzB, eq_self, bb, bt, zDs, zD, eqCells, simprocAttr, fz_bk, fz_rp, fzS_str, fzL_mat])
      rcases hpc j r hr with ⟨c1, c2⟩ | ⟨c1, c2, v, c3, c4, c5, c6, Z, D, hD, hX, hK⟩
      · rw [c2] at hC
        rw [c1] at hWr
        ((refine gga2 hWr hC ?_))
        refine ⟨(j + 1, tt + 1), hlt, by show s.rs.length - (j + 1) < s.rs.length - j; omega, ?_⟩
        (simp (disch := omega) only [StLe, tmLe, hpLe_refl, hpLe, bl, bb, bt, zDs, zD, eqCells, simprocAttr])
      · rw [c1] at hC
        rw [c3] at hWr
        have hvd := frC_div v
        have hjv : j < v.length := by omega
        have hv5 := frC_read v j (1, 1) c5
        simp only at hv5
        have e4 : ((v.length : Int) != (s.rs.length : Int)) = false := by simp [c4]
        ((refine gga2 hWr hC ?_))
        ((repeat refine AW_seq ?_); (refine gdzb1 (F := _∧_∧_∧_∧_∧_) ⟨hvd, hdr, hjv, hv5, e4, c2⟩ o1 ?_))
        ((refine ggb0 hdr ?_))
        ((repeat refine AW_seq ?_))
        refine AW_mid (fun x : Nat => ⟨[(1, .ptr 0 (t + 1) 0), (3, mat (matS s)), (5, strsD R), (9, frs v), (43, rps s.rs), (44, int s.rs.length), (45, int j)], [some ⟨25, t + 1, [bks s.bs, rps s.rs]⟩], x⟩) (fun _ => True) ?_ ?_
        · refine AW_block ?_
          refine AW_loop_w (fun x : Nat × Nat => ⟨[(1, .ptr 0 (t + 1) 0), (3, mat (matS s)), (5, strsD R), (9, frs v), (43, rps s.rs), (44, int s.rs.length), (45, int j), (93, rps s.rs), (94, int s.rs.length), (95, int x.1)], [some ⟨25, t + 1, [bks s.bs, rps s.rs]⟩], x.2⟩) (fun x => s.rs.length - x.1) (fun x => x.1 ≤ s.rs.length) (0, tt + 1 + 1) (Nat.zero_le _) (by (simp (disch := omega) only [StLe, tmLe, hpLe_refl, hpLe, bl, bb, bt, zDs, zD, eqCells, simprocAttr])) ?_
          rintro ⟨i, t3⟩ hi
          simp only at hi
          by_cases hin : i < s.rs.length
          · obtain ⟨q, hq⟩ : ∃ y, s.rs[i]? = some y := ⟨_, List.getElem?_eq_getElem hin⟩
            have hqa := rpC_read s.rs i q hq
            have hiv : i < v.length := by omega
            ((refine ggb0 (F := _∧_) ⟨@Int.ofNat_lt, hin⟩ ?_))
            ((repeat refine AW_seq ?_))
            refine AW_block ?_
            cases hh : q.hl
            · ((refine ggb0 (F := _∧_∧_) ⟨hin, hdr, hqa⟩ ?_))
              ((repeat refine AW_seq ?_); (refine gdzb1 hh o0 ?_))
              ((refine gga0 ?_))
              refine ⟨(i + 1, t3 + 1 + 1), hin, by show s.rs.length - (i + 1) < s.rs.length - i; omega, ?_⟩
              (simp (disch := omega) only [StLe, tmLe, hpLe_refl, hpLe, bl, bb, bt, zDs, zD, eqCells, simprocAttr])
            · have hv0 := frC_read v i (0, 1) (c6 i q hq hh)
              simp only at hv0
              ((refine ggb0 (F := _∧_∧_) ⟨hin, hdr, hqa⟩ ?_))
              ((repeat refine AW_seq ?_); (refine gdzb1 (F := _∧_∧_∧_) ⟨hh, hvd, hiv, hv0⟩ o0 ?_))
              ((refine gga0 ?_))
              refine ⟨(i + 1, t3 + 1 + 1), hin, by show s.rs.length - (i + 1) < s.rs.length - i; omega, ?_⟩
              (simp (disch := omega) only [StLe, tmLe, hpLe_refl, hpLe, bl, bb, bt, zDs, zD, eqCells, simprocAttr])
          · have hie : i = s.rs.length := by omega
            subst hie
            ((refine wqb @Int.lt_irrefl ?_))
            ((refine wia ?_))
            ((refine wxa ?_))
            exact ⟨t3, trivial, by (simp (disch := omega) only [StLe, tmLe, hpLe_refl, hpLe, bl, bb, bt, zDs, zD, eqCells, simprocAttr])⟩
        rintro t4 -
        ((refine gga0 ?_))
        ((repeat refine AW_seq ?_))
        refine AW_block ?_
        refine AW_loop_w (fun x : Nat × Nat => ⟨[(1, .ptr 0 (t + 1) 0), (3, mat (matS s)), (5, strsD R), (9, frs v), (43, rps s.rs), (44, int s.rs.length), (45, int j), (111, mat (matS s)), (112, int (matS s).length), (113, int x.1)], [some ⟨25, t + 1, [bks s.bs, rps s.rs]⟩], x.2⟩) (fun x => (matS s).length - x.1) (fun x => x.1 ≤ (matS s).length) (0, t4) (Nat.zero_le _) (by (simp (disch := omega) only [StLe, tmLe, hpLe_refl, hpLe, bl, bb, bt, zDs, zD, eqCells, simprocAttr])) ?_
        rintro ⟨p, t5⟩ hp
        simp only at hp
        by_cases hpn : p < (matS s).length
        · obtain ⟨row, hrw⟩ : ∃ y, (matS s)[p]? = some y := ⟨_, List.getElem?_eq_getElem hpn⟩
          have hrm := List.mem_of_getElem? hrw
          obtain ⟨r1, r2⟩ := hrow row hrm
          have e9 : row.length = s.rs.length := by rw [r1, mw]
          have hPr := product16 row v hD hX r2 (by omega) (by omega)
          have hval := prK_val hD hX r2 row.length (Nat.le_refl _) (by omega)
          have hk0 := hK row hrm
          rw [← e9] at hk0
          rw [hk0] at hval
          have hzero : (prK row v row.length).2 = true → ((prK row v row.length).1.1 != 0) = false := fun h => by
            have := (hval h).e
            rw [Int.zero_mul] at this
            rcases Int.mul_eq_zero.1 this with h | h
            · simp [h]
            · exact absurd h hD
          generalize prK row v row.length = P at *
          cases hP : P.2
          · rw [hP] at hPr
            ((refine ggb0 (F := _∧_) ⟨@Int.ofNat_lt, hpn⟩ ?_))
            ((repeat refine AW_seq ?_))
            refine AW_block ?_
            ((refine ggb1 (F := _∧_) ⟨hpn, hrw⟩ hPr ?_))
            refine ⟨(p + 1, t5 + 1), hpn, by show (matS s).length - (p + 1) < (matS s).length - p; omega, ?_⟩
            (simp (disch := omega) only [StLe, tmLe, hpLe_refl, hpLe, bl, bb, bt, zDs, zD, eqCells, simprocAttr])
          · rw [hP] at hPr
            have e5 := hzero hP
            ((refine ggb0 (F := _∧_) ⟨@Int.ofNat_lt, hpn⟩ ?_))
            ((repeat refine AW_seq ?_))
            refine AW_block ?_
            ((refine ggb1 (F := _∧_∧_) ⟨hpn, hrw, e5⟩ hPr ?_))
            refine ⟨(p + 1, t5 + 1), hpn, by show (matS s).length - (p + 1) < (matS s).length - p; omega, ?_⟩
            (simp (disch := omega) only [StLe, tmLe, hpLe_refl, hpLe, bl, bb, bt, zDs, zD, eqCells, simprocAttr])
        · have hpe : p = (matS s).length := by omega
          subst hpe
          ((refine ggb0 @Int.lt_irrefl ?_))
          refine ⟨(j + 1, t5), hlt, by show s.rs.length - (j + 1) < s.rs.length - j; omega, ?_⟩
          (simp (disch := omega) only [StLe, tmLe, hpLe_refl, hpLe, bl, bb, bt, zDs, zD, eqCells, simprocAttr])
    · have hje : j = s.rs.length := by omega
      subst hje
      ((refine wqb @Int.lt_irrefl ?_))
      ((refine wia ?_))
      ((refine wxa ?_))
      exact ⟨tt, trivial, by (simp (disch := omega) only [StLe, tmLe, hpLe_refl, hpLe, bl, bb, bt, zDs, zD, eqCells, simprocAttr])⟩
  rintro tt -
  ((refine gga0 ?_))
  ((repeat refine AW_seq ?_); (refine wta ?_); simp (disch := omega) only [retQ, resD, oneD, rsv, rs, rsL, rsL_eq_map, List.map_map, bb, bt, zDs, zD, eqCells, simprocAttr, Try.results5])
end Go.Proofs.Ytjmmenfbcbagoaa.T
