import Derived.Test.YtjjpjgnoanfaoaaCPY
import Derived.Test.YtjjpjgnoanfaoaaVS
import Derived.Test.YtjjpjgnoanfaoaaSKM
set_option linter.all false
namespace Go.Proofs.Ytjjpjgnoanfaoaa.T
open Go Go.RowKit Lin
theorem gdza_SAD {P Q : Prop} (q : Q) (h : Q → P := by
  intro  hq
  (try with_reducible intro KR hKR)
  (repeat refine AW_seq ?_); (repeat refine AW_seq ?_); (refine AW_drawn_k tab_ok follows_mixed 0 fun KR hKR => ?_); simp only [List.replicate_succ, List.replicate_zero, List.append_nil, List.nil_append, List.cons_append, List.length_cons, List.length_nil, Nat.reduceAdd]; (repeat' ((first | refine awD_n rfl fun KK hKK => ?_ | refine awD_g rfl rfl fun KK hKK => ?_ | refine awD_gc rfl fun KK hKK => ?_ | refine awD_nc fun KK hKK => ?_); simp (disch := omega) only [bb, bt, zDs, zD, eqCells, simprocAttr, bne_self_eq_false, Int.reduceBNe, Int.reduceBEq, Bool.bne_false, Bool.bne_true, Bool.false_bne, Bool.true_bne]; refine hKK _ _ _ ?_; clear hKK KK)); (refine awD_nil ?_); simp only [List.reverse_cons, List.reverse_nil, List.nil_append, List.cons_append]; (refine hKR _ _ (by first | rfl | kernel_rfl) ?_); (try clear hKR KR); (repeat (with_reducible first | refine q1 ?_ | refine q2 ?_ | refine q3 ?_ | refine q4 ?_ | refine q5 ?_ | refine q6 ?_ | (refine q7 ?_ ?_; (focus (with_unfolding_all rfl)))))
  (first | exact hq | (revert hKR; revert KR; exact hq))) : P := h  q
set_option linter.unusedSimpArgs false

/-! StaticsAdds. -/
theorem few11N (s : Sy) : PRet Try.prog 32 [syD s, .sl 2 [] false] (bool (smallS s)) := by
  have h : PRet Try.prog 32 [syD s, .sl 2 [] false] (bool (smallS s && true)) := few11 s [] (by simp)
  rwa [Bool.and_true] at h
abbrev u16L (l : List Int) : D := .sl 1 (l.map fun n => .v (.int .u16 n)) false
def mreW (more : List Int) (i : Nat) : Int := more.getD i 0
def othS (s : Sy) (more : List Int) : Sy := ⟨s.bs.mapIdx fun i b => ⟨b.nm, mreW more i⟩, s.rs⟩
def botS (s : Sy) (more : List Int) : Sy := ⟨s.bs.mapIdx fun i b => ⟨b.nm, b.w + mreW more i⟩, s.rs⟩
theorem mre_le {more : List Int} (h : ∀ x ∈ more, 0 ≤ x ∧ x < 65536) (i : Nat) : 0 ≤ mreW more i ∧ mreW more i < 65536 := by
  unfold mreW
  rw [List.getD_eq_getElem?_getD]
  cases hi : more[i]? with
  | none => simp
  | some x => exact h x (List.mem_of_getElem? hi)
theorem oth_names (s : Sy) (more : List Int) : bNames (othS s more).bs = bNames s.bs ∧ bNames (botS s more).bs = bNames s.bs := by
  constructor
  all_goals
    refine List.ext_getElem? fun i => ?_
    simp only [bNames, othS, botS, List.getElem?_map, List.getElem?_mapIdx]
    cases s.bs[i]? <;> rfl
theorem oth_valid {s : Sy} (hv : validS s = true) {more : List Int} (h : ∀ x ∈ more, 0 ≤ x ∧ x < 65536) : validS (othS s more) = true := by
  refine validS_iff.2 ((validS_iff.1 hv).weights rfl (oth_names s more).1 fun b hb => ?_)
  obtain ⟨i, hi⟩ := List.mem_iff_getElem?.1 hb
  simp only [othS, List.getElem?_mapIdx] at hi
  cases hc : s.bs[i]? with
  | none => rw [hc] at hi; simp at hi
  | some c =>
    rw [hc] at hi
    simp only [Option.map_some, Option.some.injEq] at hi
    subst hi
    have := mre_le h i
    simp only
    omega
theorem bot_wts (s : Sy) (more : List Int) : wtsS (botS s more) = zipA (wtsS s) (wtsS (othS s more)) := by
  refine List.ext_getElem? fun i => ?_
  simp only [wtsS, botS, othS, zipA, List.getElem?_map, List.getElem?_mapIdx, List.getElem?_zipWith]
  cases s.bs[i]? <;> rfl
theorem oth_small {s : Sy} {more : List Int} (h : smallS s = true) : smallS (othS s more) = true := by
  unfold smallS at h ⊢
  simp only [Bool.and_eq_true, List.all_eq_true] at h ⊢
  refine ⟨⟨by simpa [othS] using h.1.1, fun b hb => ?_⟩, h.2⟩
  obtain ⟨i, hi⟩ := List.mem_iff_getElem?.1 hb
  simp only [othS, List.getElem?_mapIdx] at hi
  cases hc : s.bs[i]? with
  | none => rw [hc] at hi; simp at hi
  | some c =>
    rw [hc] at hi
    simp only [Option.map_some, Option.some.injEq] at hi
    subst hi
    exact h.1.2 c (List.mem_of_getElem? hc)
theorem bot_small {s : Sy} {more : List Int} (h : smallS s = true) : smallS (botS s more) = true := by
  unfold smallS at h ⊢
  simp only [Bool.and_eq_true, List.all_eq_true] at h ⊢
  refine ⟨⟨by simpa [botS] using h.1.1, fun b hb => ?_⟩, h.2⟩
  obtain ⟨i, hi⟩ := List.mem_iff_getElem?.1 hb
  simp only [botS, List.getElem?_mapIdx] at hi
  cases hc : s.bs[i]? with
  | none => rw [hc] at hi; simp at hi
  | some c =>
    rw [hc] at hi
    simp only [Option.map_some, Option.some.injEq] at hi
    subst hi
    exact h.1.2 c (List.mem_of_getElem? hc)
/-- What the law says of the tensions. -/
theorem adds_law {s : Sy} {more : List Int} (h : ∀ x ∈ more, 0 ≤ x ∧ x < 65536) (h0 : (tensP s).2 = 0) :
    (tensP (botS s more)).2 = 1 ∨ ((tensP (othS s more)).2 = 22 ∧ (tensP (botS s more)).2 = 22) ∨ ((tensP (othS s more)).2 = 0 ∧ (tensP (botS s more)).2 = 0 ∧ (tensP s).1.length = s.rs.length ∧ (tensP (othS s more)).1.length = s.rs.length ∧ (tensP (botS s more)).1.length = s.rs.length ∧
      ∀ (i : Nat) (x y z : Int × Int), (tensP s).1[i]? = some x → (tensP (othS s more)).1[i]? = some y → (tensP (botS s more)).1[i]? = some z → addP x y = (z, 0) ∨ (addP x y).2 = 5) := by
  obtain ⟨hv, hl⟩ := tensP_len h0
  have ok := validS_ok hv
  have ho := oth_valid hv h
  have oko := validS_ok ho
  have em1 : matS (othS s more) = matS s := matS_names rfl (oth_names s more).1
  have em2 : matS (botS s more) = matS s := matS_names rfl (oth_names s more).2
  by_cases hb : validS (botS s more) = true
  rotate_left 1
  · left
    unfold tensP
    rw [if_neg hb]
  have okb := validS_ok hb
  right
  have l1 := fun h => (tensP_len (s := othS s more) h).2
  have l2 := fun h => (tensP_len (s := botS s more) h).2
  have w1 := ok.wts_in
  have w2 := oko.wts_in
  have w3 := okb.wts_in
  have n1 := ok.len
  have n2 := oko.len
  have n3 := okb.len
  rw [bot_wts] at w3 n3
  rw [em1] at n2
  rw [em2] at n3
  unfold tensP at h0 hl l1 l2 ⊢
  rw [if_pos hv] at h0 hl ⊢
  rw [if_pos ho, em1] at l1 ⊢
  rw [if_pos hb, em2, bot_wts] at l2 ⊢
  have ml := ok.mat_len
  have wl := ok.wts_len
  rcases adds_err ok.mat_valid n1 (by omega) w1 w2 w3 h0 with ⟨e1, e2⟩ | ⟨e1, e2⟩
  · right
    exact ⟨e1, e2, hl, l1 e1, l2 e2, fun i x y z hx hy hz => adds_at ok.mat_valid n1 (by omega) w1 w2 w3 h0 e1 e2 i x y z hx hy hz⟩
  · left
    exact ⟨e1, e2⟩
set_option maxHeartbeats 8000000 in
theorem law_adds (s : Sy) (more : List Int) (hm : ∀ x ∈ more, 0 ≤ x ∧ x < 65536) : PRet Try.prog 6 [syD s, u16L more] (bool true) := by
  refine PRet.intro 1 fun t => ACall.enter tab_ok Try.func6 rfl rfl Try.ntmps6 (by simp) ?_
  simp only [enterTM]
  have hF := few11N s
  cases hs : smallS s
  · rw [hs] at hF
    ((refine gga2 awake11 hF ?_))
    ((repeat refine AW_seq ?_); (refine wta ?_); simp (disch := omega) only [retQ, resD, oneD, rsv, rs, rsL, rsL_eq_map, List.map_map, bb, bt, zDs, zD, eqCells, simprocAttr, Try.results6])
  rw [hs] at hF
  by_cases hml : more.length ≤ 10
  rotate_left 1
  · have hm1 : (10 : Int) < (more.length : Int) := by omega
    ((refine ggb2 hm1 awake11 hF ?_))
    ((repeat refine AW_seq ?_); (refine wta ?_); simp (disch := omega) only [retQ, resD, oneD, rsv, rs, rsL, rsL_eq_map, List.map_map, bb, bt, zDs, zD, eqCells, simprocAttr, Try.results6])
  have hm1 : ¬ (10 : Int) < (more.length : Int) := by omega
  have hf := small_fits hs
  have hT := tens_prog s hf
  by_cases h0 : (tensP s).2 = 0
  rotate_left 1
  · have e1 : ((tensP s).2 != 0) = true := by simpa using h0
    have e2 : (tensP s).1 = [] := (hold_none (l := []) h0).1
    have hT : PRet Try.prog 33 [syD s] (fse ([], (tensP s).2)) := by rw [← e2]; exact hT
    generalize (tensP s).2 = E at *
    ((refine ggb3 (F := _∧_) ⟨hm1, e1⟩ awake11 hF hT ?_))
    ((repeat refine AW_seq ?_); (refine wta ?_); simp (disch := omega) only [retQ, resD, oneD, rsv, rs, rsL, rsL_eq_map, List.map_map, bb, bt, zDs, zD, eqCells, simprocAttr, Try.results6])
    rfl
  obtain ⟨hv, htl⟩ := tensP_len h0
  have ok := validS_ok hv
  have hb6 := ok.b6
  have hr6 := ok.r6
  have hC := copyB s ok
  have hdb := bkC_div s.bs
  have hlb := bkC_len s.bs
  have hT1 : PRet Try.prog 33 [syD (othS s more)] (fse (tensP (othS s more))) := tens_prog _ (small_fits (oth_small hs))
  have hT2 : PRet Try.prog 33 [syD (botS s more)] (fse (tensP (botS s more))) := tens_prog _ (small_fits (bot_small hs))
  have hlaw := adds_law (s := s) hm h0
  have eA : ∀ f : Nat → Bk → Int, chW f s.bs s.bs.length = s.bs.mapIdx fun i b => ⟨b.nm, f i b⟩ := fun f => chW_end f s.bs
  have hcl := fun (f : Nat → Bk → Int) (k : Nat) => chW_len f s.bs k
  generalize tensP s = X at *
  obtain ⟨A, xe⟩ := X
  simp only at *
  subst h0
  ((refine ggb3 hm1 awake11 hF hT ?_))
  ((repeat refine AW_seq ?_); (refine AW_drawn_k tab_ok follows_mixed 4 fun KR hKR => ?_); simp only [List.replicate_succ, List.replicate_zero, List.append_nil, List.nil_append, List.cons_append, List.length_cons, List.length_nil, Nat.reduceAdd])
  ((refine wda ?_))
  ((first | refine awD_nc fun KK hKK => ?_ | refine awD_gc rfl fun KK hKK => ?_); simp (disch := omega) only [bb, bt, zDs, zD, eqCells, simprocAttr, goCDS, callDS_fn, argsZ, argsD, ufa, uf]; refine PGive.freshX (1) (hC) ?_ ?_; (focus (first | omega | (simp (disch := omega) only [List.length_cons, List.length_nil, List.length_append]; done) | (simp (disch := omega) only [List.length_cons, List.length_nil, List.length_append]; omega))); simp (disch := omega) only [bb, bt, zDs, zD, eqCells, simprocAttr, afterDS]; refine hKK _ _ _ ?_; clear hKK KK)
  ((refine wda ?_))
  ((first | refine awD_nc fun KK hKK => ?_ | refine awD_gc rfl fun KK hKK => ?_); simp (disch := omega) only [bb, bt, zDs, zD, eqCells, simprocAttr, goCDS, callDS_fn, argsZ, argsD, ufa, uf]; refine PGive.freshX (2) (hC) ?_ ?_; (focus (first | omega | (simp (disch := omega) only [List.length_cons, List.length_nil, List.length_append]; done) | (simp (disch := omega) only [List.length_cons, List.length_nil, List.length_append]; omega))); simp (disch := omega) only [bb, bt, zDs, zD, eqCells, simprocAttr, afterDS]; refine hKK _ _ _ ?_; clear hKK KK)
  ((refine wda ?_))
  ((refine awD_nil ?_); simp only [List.reverse_cons, List.reverse_nil, List.nil_append, List.cons_append]; (refine hKR _ _ (by first | rfl | kernel_rfl) ?_); (try clear hKR KR); (repeat (with_reducible first | refine q1 ?_ | refine q2 ?_ | refine q3 ?_ | refine q4 ?_ | refine q5 ?_ | refine q6 ?_ | (refine q7 ?_ ?_; (focus (with_unfolding_all rfl))))))
  ((refine ggb0 hdb ?_))
  have hcl := fun (f : Nat → Bk → Int) (k : Nat) => chW_len f s.bs k
  have hz : ∀ f : Nat → Bk → Int, chW f s.bs 0 = s.bs := fun _ => rfl
  have g1 : chW (fun i _ => mreW more i) s.bs s.bs.length = (othS s more).bs := chW_end _ s.bs
  have g2 : chW (fun i b => b.w + mreW more i) s.bs s.bs.length = (botS s more).bs := chW_end _ s.bs
  have k1 : ∀ i b, (fun (i : Nat) (_ : Bk) => mreW more i) i b = mreW more i := fun _ _ => rfl
  have k2 : ∀ i (b : Bk), (fun (i : Nat) (b : Bk) => b.w + mreW more i) i b = b.w + mreW more i := fun _ _ => rfl
  generalize (fun (i : Nat) (_ : Bk) => mreW more i) = f1 at g1 k1
  generalize (fun (i : Nat) (b : Bk) => b.w + mreW more i) = f2 at g2 k2
  ((repeat refine AW_seq ?_))
  refine AW_mid (fun x : Nat => ⟨[(5, frs A), (7, .ptr 3 (t + 1 + 1) 0), (8, .ptr 4 (t + 1 + 1) 0)], [none, some ⟨57, t + 1 + 1, bkC (chW f1 s.bs s.bs.length)⟩, some ⟨57, t + 1 + 1, bkC (chW f2 s.bs s.bs.length)⟩, some ⟨49, t + 1 + 1, [.own 2 1 (t + 1 + 1) 0 s.bs.length, rps s.rs]⟩, some ⟨49, t + 1 + 1, [.own 2 2 (t + 1 + 1) 0 s.bs.length, rps s.rs]⟩], x⟩) (fun _ => True) ?_ ?_
  · refine AW_block ?_
    refine AW_loop_w (fun x : Nat × Nat => ⟨[(1, u16L more), (5, frs A), (7, .ptr 3 (t + 1 + 1) 0), (8, .ptr 4 (t + 1 + 1) 0), (44, int s.bs.length), (45, int x.1)], [none, some ⟨57, t + 1 + 1, bkC (chW f1 s.bs x.1)⟩, some ⟨57, t + 1 + 1, bkC (chW f2 s.bs x.1)⟩, some ⟨49, t + 1 + 1, [.own 2 1 (t + 1 + 1) 0 s.bs.length, rps s.rs]⟩, some ⟨49, t + 1 + 1, [.own 2 2 (t + 1 + 1) 0 s.bs.length, rps s.rs]⟩], x.2⟩) (fun x => s.bs.length - x.1) (fun x => x.1 ≤ s.bs.length) (0, t + 1 + 1) (Nat.zero_le _) (by (simp (disch := omega) only [StLe, tmLe, hpLe_refl, hpLe, bl, bb, bt, zDs, zD, eqCells, simprocAttr, hz])) ?_
    rintro ⟨k, tt⟩ hk
    simp only at hk
    by_cases hlt : k < s.bs.length
    · obtain ⟨b, hb⟩ : ∃ y, s.bs[k]? = some y := ⟨_, List.getElem?_eq_getElem hlt⟩
      have bw := ok.wts b (List.mem_of_getElem? hb)
      have hC0 := chW_at (f := f1) hb
      have hD0 := chW_at (f := f2) hb
      have hs1 := chW_set (f := f1) hb
      have hs2 := chW_set (f := f2) hb
      rw [k1] at hs1
      rw [k2] at hs2
      have hl1 := bkC_len (chW f1 s.bs k)
      rw [hcl] at hl1
      have hl2 := bkC_len (chW f2 s.bs k)
      rw [hcl] at hl2
      have hrd := bkC_w hD0
      by_cases hkm : k < more.length
      · obtain ⟨x, hx⟩ : ∃ y, more[k]? = some y := ⟨_, List.getElem?_eq_getElem hkm⟩
        have hmx : (more.map fun n => D.v (.int .u16 n))[k]? = some (.v (.int .u16 x)) := by rw [List.getElem?_map, hx]; rfl
        have em : mreW more k = x := by unfold mreW; rw [List.getD_eq_getElem?_getD, hx]; rfl
        rw [em] at hs1 hs2
        have bx := hm x (List.mem_of_getElem? hx)
        have wx := wr64 x (by omega)
        have wy := wr64 (b.w + x) (by omega)
        have hw1 := bkC_wt hC0 x
        have hw2 := bkC_wt hD0 (b.w + x)
        ((refine ggb0 (F := _∧_) ⟨@Int.ofNat_lt, hlt⟩ ?_))
        ((repeat refine AW_seq ?_))
        refine AW_block ?_
        ((refine ggb0 (F := _∧_∧_∧_∧_∧_∧_∧_∧_∧_∧_) ⟨@Int.ofNat_lt, hlt, hkm, hmx, wx, wy, hl1, hl2, hrd, hw1, hw2⟩ ?_))
        refine ⟨(k + 1, tt), hlt, by show s.bs.length - (k + 1) < s.bs.length - k; omega, ?_⟩
        simp only [hs1, hs2]
        (simp (disch := omega) only [StLe, tmLe, hpLe_refl, hpLe, bl, bb, bt, zDs, zD, eqCells, simprocAttr])
      · have em : mreW more k = 0 := by unfold mreW; rw [List.getD_eq_getElem?_getD, List.getElem?_eq_none (by omega)]; rfl
        rw [em] at hs1 hs2
        rw [Int.add_zero] at hs2
        have wy := wr64 (b.w) (by omega)
        have hw1 := bkC_wt hC0 0
        have hw2 := bkC_wt hD0 b.w
        ((refine ggb0 (F := _∧_) ⟨@Int.ofNat_lt, hlt⟩ ?_))
        ((repeat refine AW_seq ?_))
        refine AW_block ?_
        ((refine ggb0 (F := _∧_∧_∧_∧_∧_∧_∧_∧_∧_) ⟨@Int.ofNat_lt, hlt, hkm, @Int.add_zero, wy, hl1, hl2, hrd, hw1, hw2⟩ ?_))
        refine ⟨(k + 1, tt), hlt, by show s.bs.length - (k + 1) < s.bs.length - k; omega, ?_⟩
        simp only [hs1, hs2]
        (simp (disch := omega) only [StLe, tmLe, hpLe_refl, hpLe, bl, bb, bt, zDs, zD, eqCells, simprocAttr])
    · have hke : k = s.bs.length := by omega
      subst hke
      ((refine wqb @Int.lt_irrefl ?_))
      ((refine wia ?_))
      ((refine wxa ?_))
      exact ⟨tt, trivial, by (simp (disch := omega) only [StLe, tmLe, hpLe_refl, hpLe, bl, bb, bt, zDs, zD, eqCells, simprocAttr])⟩
  rintro tt -
  rw [g1, g2]
  have n1 : (othS s more).bs.length = s.bs.length := by rw [← g1]; exact hcl _ _
  have n2 : (botS s more).bs.length = s.bs.length := by rw [← g2]; exact hcl _ _
  have lo := bkC_len (othS s more).bs
  have lb := bkC_len (botS s more).bs
  rw [n1] at lo
  rw [n2] at lb
  have fo : List.take (s.bs.length * 2) (bkC (othS s more).bs) = bkC (othS s more).bs := List.take_of_length_le (by omega)
  have fb : List.take (s.bs.length * 2) (bkC (botS s more).bs) = bkC (botS s more).bs := List.take_of_length_le (by omega)
  have ro : (othS s more).rs = s.rs := rfl
  have rb : (botS s more).rs = s.rs := rfl
  rw [syD, ro] at hT1
  rw [syD, rb] at hT2
  ((refine AW.freeze (1) (by first | rfl | (simp only [setH, List.getElem?_cons_zero, List.getElem?_cons_succ, fz_bk, fz_rp, fz_frS, fo, lo, Nat.le_refl]; done)) ?_); simp (disch := omega) only [fzT, fz, fzL, fzL_ints, fzL_mat, fzH, fzB, eq_self, bb, bt, zDs, zD, eqCells, simprocAttr, fz_bk, fz_rp, fz_frS, fo, lo, Nat.le_refl])
  ((refine AW.freeze (2) (by first | rfl | (simp only [setH, List.getElem?_cons_zero, List.getElem?_cons_succ, fz_bk, fz_rp, fz_frS, fb, lb, Nat.le_refl]; done)) ?_); simp (disch := omega) only [fzT, fz, fzL, fzL_ints, fzL_mat, fzH, fzB, eq_self, bb, bt, zDs, zD, eqCells, simprocAttr, fz_bk, fz_rp, fz_frS, fb, lb, Nat.le_refl])
  clear fo fb lo lb n1 n2 g1 g2 k1 k2 ro rb hz hcl
  generalize tensP (othS s more) = Y at *
  generalize tensP (botS s more) = Z at *
  generalize (othS s more).bs = bo at *
  generalize (botS s more).bs = bb' at *
  obtain ⟨B, ye⟩ := Y
  obtain ⟨C, ze⟩ := Z
  simp only at *
  ((refine gga2 hT1 hT2 ?_))
  rcases hlaw with rfl | ⟨rfl, rfl⟩ | ⟨rfl, rfl, la, lb, lc, hat⟩
  · ((refine gga0 ?_))
    ((repeat refine AW_seq ?_); (refine wta ?_); simp (disch := omega) only [retQ, resD, oneD, rsv, rs, rsL, rsL_eq_map, List.map_map, bb, bt, zDs, zD, eqCells, simprocAttr, Try.results6])
  · ((refine gga0 ?_))
    ((repeat refine AW_seq ?_); (refine wta ?_); simp (disch := omega) only [retQ, resD, oneD, rsv, rs, rsL, rsL_eq_map, List.map_map, bb, bt, zDs, zD, eqCells, simprocAttr, Try.results6])
  have d1 := frC_div A
  have d2 := frC_div B
  have d3 := frC_div C
  have c1 : ((A.length : Int) != (B.length : Int)) = false := by rw [la, lb]; simp
  have c2 : ((B.length : Int) != (C.length : Int)) = false := by rw [lb, lc]; simp
  ((refine ggb0 (F := _∧_∧_∧_∧_) ⟨d1, d2, d3, c1, c2⟩ ?_))
  ((repeat refine AW_seq ?_))
  refine AW_block ?_
  refine AW_loop_w (fun x : Nat × Nat => ⟨[(5, frs A), (11, frs B), (13, frs C), (116, int A.length), (117, int x.1)], [], x.2⟩) (fun x => A.length - x.1) (fun x => x.1 ≤ A.length) (0, tt) (Nat.zero_le _) (by (simp (disch := omega) only [StLe, tmLe, hpLe_refl, hpLe, bl, bb, bt, zDs, zD, eqCells, simprocAttr])) ?_
  rintro ⟨k, t2⟩ hk
  simp only at hk
  by_cases hlt : k < A.length
  · obtain ⟨x, hx⟩ : ∃ y, A[k]? = some y := ⟨_, List.getElem?_eq_getElem hlt⟩
    have hl2 : k < B.length := by omega
    have hl3 : k < C.length := by omega
    obtain ⟨y, hy⟩ : ∃ z, B[k]? = some z := ⟨_, List.getElem?_eq_getElem hl2⟩
    obtain ⟨z, hzz⟩ : ∃ y, C[k]? = some y := ⟨_, List.getElem?_eq_getElem hl3⟩
    have r1 := frC_read A k x hx
    have r2 := frC_read B k y hy
    have r3 := frC_read C k z hzz
    have hA := rAdd x y
    have hc := hat k x y z hx hy hzz
    generalize addP x y = M at *
    ((refine ggb0 (F := _∧_) ⟨@Int.ofNat_lt, hlt⟩ ?_))
    ((repeat refine AW_seq ?_))
    refine AW_block ?_
    ((refine gga0 ?_))
    ((repeat refine AW_seq ?_); (refine gdob1 (F := _∧_∧_∧_∧_∧_) ⟨d1, d2, hlt, hl2, r1, r2⟩ hA ?_))
    obtain ⟨⟨m1, m2⟩, me⟩ := M
    rcases hc with hc | hc
    · obtain ⟨rfl, rfl⟩ := Prod.mk.inj hc
      have v1 : (m1 == m1) = true := by simp
      have v2 : (m2 == m2) = true := by simp
      ((repeat refine AW_seq ?_); (refine gdzb (F := _∧_∧_∧_∧_) ⟨d3, hl3, r3, v1, v2⟩ ?_))
      ((refine gga0 ?_))
      refine ⟨(k + 1, t2 + 1 + 1), hlt, by show A.length - (k + 1) < A.length - k; omega, ?_⟩
      (simp (disch := omega) only [StLe, tmLe, hpLe_refl, hpLe, bl, bb, bt, zDs, zD, eqCells, simprocAttr])
    · simp only at hc
      subst hc
      ((repeat refine AW_seq ?_); (refine gdza_SAD ?_))
      ((refine gga0 ?_))
      refine ⟨(k + 1, t2 + 1 + 1), hlt, by show A.length - (k + 1) < A.length - k; omega, ?_⟩
      (simp (disch := omega) only [StLe, tmLe, hpLe_refl, hpLe, bl, bb, bt, zDs, zD, eqCells, simprocAttr])
  · have hke : k = A.length := by omega
    subst hke
    ((refine ggb0 @Int.lt_irrefl ?_))
    ((repeat refine AW_seq ?_); (refine wta ?_); simp (disch := omega) only [retQ, resD, oneD, rsv, rs, rsL, rsL_eq_map, List.map_map, bb, bt, zDs, zD, eqCells, simprocAttr, Try.results6])
end Go.Proofs.Ytjjpjgnoanfaoaa.T
