import Derived.Test.YtifmgjieplmbnaaMJ
set_option linter.all false
section
namespace Go.Proofs.Ytifmgjieplmbnaa.T
open Go Go.RowKit Lin
theorem gdoa2_MGI {C1 C2 P Q : Prop} (c1 : C1) (c2 : C2) (q : Q) (h : C1 → C2 → Q → P := by
  intro cc1 cc2 hq
  (try with_reducible intro KR hKR)
  (repeat refine AW_seq ?_); (repeat refine AW_seq ?_); (refine AW_drawn_k tab_ok follows_mixed 1 fun KR hKR => ?_); simp only [List.replicate_succ, List.replicate_zero, List.append_nil, List.nil_append, List.cons_append, List.length_cons, List.length_nil, Nat.reduceAdd]; (repeat' ((first | refine awD_n rfl fun KK hKK => ?_ | refine awD_g rfl rfl fun KK hKK => ?_ | refine awD_gc rfl fun KK hKK => ?_ | refine awD_nc fun KK hKK => ?_); simp (disch := omega) only [bb, bt, zDs, zD, eqCells, simprocAttr, bne_self_eq_false, Int.reduceBNe, Int.reduceBEq, Bool.bne_false, Bool.bne_true, Bool.false_bne, Bool.true_bne, goCDS, callDS_fn, argsZ, argsD, ufa, uf]; (try ((first | with_reducible refine PGive.ret (cc1) ?_ | with_reducible refine PGive.ret (cc2) ?_); simp (disch := omega) only [bb, bt, zDs, zD, eqCells, simprocAttr, afterDS, bne_self_eq_false, Int.reduceBNe, Int.reduceBEq, Bool.bne_false, Bool.bne_true, Bool.false_bne, Bool.true_bne])); refine hKK _ _ _ ?_; clear hKK KK)); (refine awD_nil ?_); simp only [List.reverse_cons, List.reverse_nil, List.nil_append, List.cons_append]; (refine hKR _ _ (by first | rfl | kernel_rfl) ?_); (try clear hKR KR); (repeat (with_reducible first | refine q1 ?_ | refine q2 ?_ | refine q3 ?_ | refine q4 ?_ | refine q5 ?_ | refine q6 ?_ | (refine q7 ?_ ?_; (focus (with_unfolding_all rfl)))))
  (first | exact hq | (revert hKR; revert KR; exact hq))) : P := h c1 c2 q
set_option linter.unusedSimpArgs false

/-! Chapter 12: what is right. -/
theorem givH_refL (s : Sy) (hf : Fits s) (h : List Int) : PRet Try.prog 98 [syD s, ints h] (int (givH s h)) := by
  by_cases hz : h.length = s.rs.length
  · exact givH_ref s hf h (by have := hf.nr; omega)
  refine PRet.intro 1 fun t => ACall.enter tab_ok Try.func98 rfl rfl Try.ntmps98 (by simp) ?_
  simp only [enterTM]
  have hdr := rpC_div s.rs
  have hV := valid_ref s hf
  cases hv : validS s
  · rw [hv] at hV
    have e : givH s h = 1 := by simp [givH, hv]
    ((refine gga1 hV ?_))
    ((repeat refine AW_seq ?_); (refine wta ?_); simp (disch := omega) only [retQ, resD, oneD, rsv, rs, rsL, rsL_eq_map, List.map_map, bb, bt, zDs, zD, eqCells, simprocAttr, Try.results98, e])
  rw [hv] at hV
  have en : ((h.length : Int) != (s.rs.length : Int)) = true := by simpa using fun e => hz (by omega)
  have e : givH s h = 3 := by simp [givH, hv, hz]
  ((refine ggb1 (F := _∧_) ⟨hdr, en⟩ hV ?_))
  ((repeat refine AW_seq ?_); (refine wta ?_); simp (disch := omega) only [retQ, resD, oneD, rsv, rs, rsL, rsL_eq_map, List.map_map, bb, bt, zDs, zD, eqCells, simprocAttr, Try.results98, e])
def rightP (s : Sy) (h : List Int) : Bool := smallS s && (givH s h == 0)
theorem right12 (s : Sy) (h : List Int) : PRet Try.prog 41 [syD s, ints h] (bool (rightP s h)) := by
  refine PRet.intro 1 fun t => ACall.enter tab_ok Try.func41 rfl rfl Try.ntmps41 (by simp) ?_
  simp only [enterTM]
  have hS := small_ref s
  cases hs : smallS s
  · rw [hs] at hS
    have e : rightP s h = false := by simp [rightP, hs]
    ((refine gga1 hS ?_))
    ((repeat refine AW_seq ?_); (refine wta ?_); simp (disch := omega) only [retQ, resD, oneD, rsv, rs, rsL, rsL_eq_map, List.map_map, bb, bt, zDs, zD, eqCells, simprocAttr, Try.results41, e])
  · rw [hs] at hS
    have hG := givH_refL s (small_fits hs) h
    have e : rightP s h = (givH s h == 0) := by simp [rightP, hs]
    ((refine gga2 hS hG ?_))
    ((repeat refine AW_seq ?_); (refine wta ?_); simp (disch := omega) only [retQ, resD, oneD, rsv, rs, rsL, rsL_eq_map, List.map_map, bb, bt, zDs, zD, eqCells, simprocAttr, Try.results41, e])
theorem rightP_ok {s : Sy} {h : List Int} (e : rightP s h = true) : smallS s = true ∧ givH s h = 0 := by
  unfold rightP at e
  simpa using e
theorem speedsP_right {s : Sy} {h : List Int} (hg : givH s h = 0) : ((speedsP s h).2 = 0 ∨ (speedsP s h).2 = 21 ∨ (speedsP s h).2 = 22) ∧ ((speedsP s h).2 ≠ 0 → (speedsP s h).1 = []) := by
  obtain ⟨hv, hz, hr⟩ := givH_zero hg
  have ok := validS_ok hv
  obtain ⟨tv, tw⟩ := ok.tr_valid
  have hl : h.length = (trS s).length := by rw [hz, ok.tr_len]
  have hw := rangedP_within hz hr
  unfold speedsP
  rw [if_pos hg]
  exact ⟨solve_cases tv hl hw, solve_nil tv hl hw⟩
theorem speedsP_val {s : Sy} {h : List Int} (h0 : (speedsP s h).2 = 0) : ∃ X D, D ≠ 0 ∧ SolQ (trS s) h X D ∧ (speedsP s h).1.length = s.bs.length ∧ ∀ (k : Nat) (f : Int × Int), (speedsP s h).1[k]? = some f → Val f (X k) D := by
  obtain ⟨hg, _⟩ := speedsP_full h0
  obtain ⟨hv, hz, hr⟩ := givH_zero hg
  have ok := validS_ok hv
  obtain ⟨tv, tw⟩ := ok.tr_valid
  unfold speedsP at h0 ⊢
  rw [if_pos hg] at h0 ⊢
  have := solve_val tv (by rw [hz, ok.tr_len]) (rangedP_within hz hr) h0
  rwa [tw] at this
/-! Virtual work (plain). -/
theorem virtual (F : Nat → Nat → Int) {nb nr : Nat} {w h X Y : Nat → Int} {D E : Int} (h1 : ∀ i, i < nb → sumN (fun k => F i k * Y k) nr = E * w i) (h2 : ∀ k, k < nr → sumN (fun i => F i k * X i) nb = D * h k) :
    sumN (fun i => w i * X i) nb * E = sumN (fun k => h k * Y k) nr * D := by
  have a : sumN (fun i => w i * X i) nb * E = sumN (fun i => sumN (fun k => F i k * Y k * X i) nr) nb := by
    rw [Int.mul_comm, ← sumN_mul]
    refine sumN_congr nb fun i hi => ?_
    rw [← Int.mul_assoc, ← h1 i hi, Int.mul_comm, ← sumN_mul]
    exact sumN_congr nr fun k _ => Int.mul_comm _ _
  have b : sumN (fun k => h k * Y k) nr * D = sumN (fun k => sumN (fun i => F i k * Y k * X i) nb) nr := by
    rw [Int.mul_comm, ← sumN_mul]
    refine sumN_congr nr fun k hk => ?_
    rw [← Int.mul_assoc, ← h2 k hk, Int.mul_comm, ← sumN_mul]
    exact sumN_congr nb fun i _ => by ac_rfl
  rw [a, b, sumN_swap (fun i k => F k i * Y i * X k)]
theorem at_wts {s : Sy} {i : Nat} {b : Bk} (h : s.bs[i]? = some b) : Lin.at_ (wtsS s) i = b.w := by simp [Lin.at_, wtsS, h]
theorem OkS.virtual {s : Sy} (ok : OkS s) {h : List Int} (hl : h.length = s.rs.length) {X Y : Nat → Int} {D E : Int} (h1 : SolQ (matS s) (wtsS s) Y E) (h2 : SolQ (trS s) h X D) :
    sumN (fun i => Lin.at_ (wtsS s) i * X i) s.bs.length * E = sumN (fun k => Lin.at_ h k * Y k) s.rs.length * D := by
  have ml := ok.mat_len
  have mw := ok.mat_wid
  have wl := ok.len
  obtain ⟨tv, tw⟩ := ok.tr_valid
  refine T.virtual (fun i k => Lin.at_ (Lin.row (matS s) i) k) (fun i hi => ?_) fun k hk => ?_
  · have hr : (matS s)[i]? = some (Lin.row (matS s) i) := by
      rw [Lin.row_get (by omega)]
      exact List.getElem?_eq_getElem (by omega)
    have hb : (wtsS s)[i]? = some (Lin.at_ (wtsS s) i) := by
      unfold Lin.at_
      rw [List.getElem?_eq_getElem (show i < (wtsS s).length by omega)]
      rfl
    have := h1 i _ _ hr hb
    rwa [mw] at this
  · have hr : (trS s)[k]? = some (colP (matS s) k) := by
      unfold trS turnP
      rw [List.getElem?_map, List.getElem?_range hk]
      rfl
    have hb : h[k]? = some (Lin.at_ h k) := by
      unfold Lin.at_
      rw [List.getElem?_eq_getElem (show k < h.length by omega)]
      rfl
    have := h2 k _ _ hr hb
    rw [tw] at this
    rw [← this]
    exact sumN_congr _ fun i _ => by rw [at_colP]
theorem work1 (n : Int) (a : Int × Int) : PRet Try.prog 42 [int n, frD a] (.tup [frD (mulP a (n, 1)).1, bool ((mulP a (n, 1)).2 == 0)]) := by
  refine PRet.intro 1 fun t => ACall.enter tab_ok Try.func42 rfl rfl Try.ntmps42 (by simp) ?_
  simp only [enterTM]
  have hO := of12 n
  have hM := rMul a (n, 1)
  generalize mulP a (n, 1) = y at *
  ((refine gga0 ?_))
  ((repeat refine AW_seq ?_); (refine gdoa2_MGI hO hM ?_))
  ((refine gga0 ?_))
  ((repeat refine AW_seq ?_); (refine wta ?_); simp (disch := omega) only [retQ, resD, oneD, rsv, rs, rsL, rsL_eq_map, List.map_map, bb, bt, zDs, zD, eqCells, simprocAttr, Try.results42])
/-- One product more. -/
theorem work_step {c f : Int × Int} {n D : Int} {F G : Nat → Int} {k : Nat} (hn : -1152921504606846976 ≤ n ∧ n ≤ 1152921504606846976) (hg : F k = n) (hc : Val c (sumN (fun i => F i * G i) k) D) (hf : Val f (G k) D) (h1 : (mulP f (n, 1)).2 = 0) (h2 : (addP c (mulP f (n, 1)).1).2 = 0) : Val (addP c (mulP f (n, 1)).1).1 (sumN (fun i => F i * G i) (k + 1)) D := by
  have h1n := Val.one hn
  rw [mulP_ok hf.v h1n.v] at h1 h2 ⊢
  have hm := hf.mul h1n h1
  generalize (mulR f (n, 1)).1 = y at *
  rw [addP_ok hc.v hm.v] at h2 ⊢
  refine (hc.add hm h2).to hf.n0 ?_
  simp only [sumN, hg]
  grind
end Go.Proofs.Ytifmgjieplmbnaa.T
end

section
namespace Go.Proofs.Ytifmgjieplmbnaa.T
open Go Go.RowKit Lin
set_option linter.unusedSimpArgs false

/-! Chapter 12: what Check says (plain). -/
theorem prodA_app {x : List (Int × Int)} : ∀ (m : List (List Int)) (acc : List (Int × Int)), (prodA x acc m).2 = (prodA x [] m).2 ∧ ((prodA x [] m).2 = 0 → (prodA x acc m).1 = acc ++ (prodA x [] m).1)
  | [], acc => by simp [prodA]
  | r :: m, acc => by
    simp only [prodA]
    split
    · obtain ⟨a1, a2⟩ := prodA_app (x := x) m (acc ++ [(dotF r x (0, 1)).1])
      obtain ⟨b1, b2⟩ := prodA_app (x := x) m ([] ++ [(dotF r x (0, 1)).1])
      refine ⟨by rw [a1, b1], fun h => ?_⟩
      rw [b1] at h
      rw [a2 h, b2 h]
      simp
    · rename_i h1
      exact ⟨rfl, fun h => absurd h h1⟩
theorem prodA_at {x : List (Int × Int)} : ∀ (m : List (List Int)), (prodA x [] m).2 = 0 → ∀ (i : Nat) (r : List Int), m[i]? = some r → (dotF r x (0, 1)).2 = 0 ∧ (prodA x [] m).1[i]? = some (dotF r x (0, 1)).1
  | [], _, i, r, hr => by simp at hr
  | r :: m, h0, i, r', hr => by
    simp only [prodA] at h0 ⊢
    split at h0
    rotate_left 1
    · rename_i h1; exact absurd h0 h1
    rename_i h1
    rw [if_pos h1]
    obtain ⟨a1, a2⟩ := prodA_app (x := x) m ([] ++ [(dotF r x (0, 1)).1])
    rw [a1] at h0
    rw [a2 h0]
    cases i with
    | zero =>
      simp only [List.getElem?_cons_zero, Option.some.injEq] at hr
      subst hr
      exact ⟨h1, by simp⟩
    | succ i =>
      have ih := prodA_at m h0 i r' (by simpa using hr)
      refine ⟨ih.1, ?_⟩
      simpa using ih.2
theorem prodA_err {x : List (Int × Int)} : ∀ (m : List (List Int)) (acc : List (Int × Int)), (∀ r ∈ m, (dotF r x (0, 1)).2 = 0 ∨ (dotF r x (0, 1)).2 = 5) → (prodA x acc m).2 = 0 ∨ (prodA x acc m).2 = 5
  | [], acc, _ => .inl rfl
  | r :: m, acc, h => by
    simp only [prodA]
    rcases h r (by simp) with e | e
    · rw [if_pos e]
      exact prodA_err m _ fun q hq => h q (List.mem_cons_of_mem _ hq)
    · rw [if_neg (by omega)]
      exact .inr e
theorem OkS.tr_rows {s : Sy} (ok : OkS s) : ∀ r ∈ trS s, r.length = s.bs.length ∧ ∀ x ∈ r, -1000 ≤ x ∧ x ≤ 1000 := fun r hr => by
  obtain ⟨tv, tw⟩ := ok.tr_valid
  obtain ⟨_, _, h3⟩ := validP_iff.1 tv
  refine ⟨by rw [(h3 r hr).1, tw], fun x hx => ?_⟩
  have := (h3 r hr).2 x hx
  omega
section
variable {s : Sy} {h : List Int} {v : List (Int × Int)} (hg : givH s h = 0) (ha : allV v = true) (hl : v.length = s.bs.length)
include hg ha hl
theorem chkM_is : chkM s h v = if (prodA v [] (trS s)).2 = 0 then (((prodA v [] (trS s)).1.zip h).all goP, 0) else (false, (prodA v [] (trS s)).2) := by
  obtain ⟨hv, hz, hr⟩ := givH_zero hg
  have ok := validS_ok hv
  obtain ⟨tv, tw⟩ := ok.tr_valid
  have ep : prodP (trS s) v = prodA v [] (trS s) := by unfold prodP; rw [if_pos ⟨tv, ha⟩, if_pos (by rw [tw]; exact hl)]
  unfold chkM
  rw [if_pos ⟨hv, ha⟩, if_pos ⟨hz, hl⟩, if_pos hr, ep]
theorem chkM_err : (chkM s h v).2 = 0 ∨ (chkM s h v).2 = 5 := by
  obtain ⟨hv, hz, hr⟩ := givH_zero hg
  have ok := validS_ok hv
  obtain ⟨Z, D, hD, hZ⟩ := dens v ha
  have := prodA_err (x := v) (trS s) [] fun r hr => by
    have := ok.tr_rows r hr
    exact (dot_val hD (by rw [this.1, hl]) this.2 hZ).imp (fun x => x.1) id
  rw [chkM_is hg ha hl]
  rcases this with e | e
  · rw [if_pos e]; exact .inl rfl
  · rw [if_neg (by omega)]; exact .inr e
theorem chkM_iff (h0 : (chkM s h v).2 = 0) {Z : Nat → Int} {D : Int} (hD : D ≠ 0) (hZ : ∀ (k : Nat) (f : Int × Int), v[k]? = some f → Val f (Z k) D) : (chkM s h v).1 = true ↔ SolQ (trS s) h Z D := by
  obtain ⟨hv, hz, hr⟩ := givH_zero hg
  have ok := validS_ok hv
  obtain ⟨tv, tw⟩ := ok.tr_valid
  have tl := ok.tr_len
  rw [chkM_is hg ha hl] at h0 ⊢
  by_cases hp : (prodA v [] (trS s)).2 = 0
  rotate_left 1
  · rw [if_neg hp] at h0
    exact absurd h0 hp
  rw [if_pos hp]
  have hat := prodA_at (x := v) (trS s) hp
  have hln := prodA_full v (trS s) [] hp
  simp only [List.length_nil, Nat.zero_add] at hln
  generalize (prodA v [] (trS s)).1 = Y at *
  have hdv : ∀ r ∈ trS s, _ := fun r hr => dot_val (r := r) hD (by rw [(ok.tr_rows r hr).1, hl]) (ok.tr_rows r hr).2 hZ
  have hdv : ∀ (i : Nat) (r : List Int), (trS s)[i]? = some r → Val (dotF r v (0, 1)).1 (sumN (fun k => Lin.at_ r k * Z k) (wid (trS s))) D := fun i r hi => by
    have hm := List.mem_of_getElem? hi
    have := ((hdv r hm).resolve_right (by rw [(hat i r hi).1]; decide)).2
    rwa [(ok.tr_rows r hm).1, ← tw] at this
  simp only
  rw [List.all_eq_true]
  constructor
  · intro hall i r b hi hb
    have hy := (hat i r hi).2
    have := hall _ (List.mem_of_getElem? (zip_atF hy hb))
    unfold goP at this
    simp only [Bool.and_eq_true, beq_iff_eq] at this
    have hval := hdv i r hi
    have e : (dotF r v (0, 1)).1 = (b, 1) := Prod.ext this.1 this.2
    rw [e] at hval
    have hb1 : Val (b, 1) b 1 := Val.self (x := (b, 1)) hval.v
    have := hval.same hb1
    rw [Int.mul_comm D]
    omega
  · intro hs x hx
    obtain ⟨k, hk⟩ := List.mem_iff_getElem?.1 hx
    obtain ⟨f, b⟩ := x
    rw [List.getElem?_zip_eq_some] at hk
    obtain ⟨h1, h2⟩ := hk
    simp only at h1 h2
    have hkl := (List.getElem?_eq_some_iff.1 h2).1
    obtain ⟨r, hr⟩ : ∃ r, (trS s)[k]? = some r := ⟨_, List.getElem?_eq_getElem (by omega)⟩
    have hy := (hat k r hr).2
    rw [h1, Option.some.injEq] at hy
    have hval := hdv k r hr
    rw [hs k r b hr h2, ← hy] at hval
    have := hval.int (n := b) (Int.mul_comm _ _)
    rw [this]
    simp [goP]
end
/-- Hauls multiplied. -/
theorem SolQ.mul {m : List (List Int)} {right : List Int} {Z : Nat → Int} {D n : Int} (h : SolQ m right Z D) : SolQ m (right.map (· * n)) (fun k => Z k * n) D := fun i r b hi hb => by
  rw [List.getElem?_map] at hb
  cases hq : right[i]? with
  | none => rw [hq] at hb; simp at hb
  | some q =>
    rw [hq] at hb
    simp only [Option.map_some, Option.some.injEq] at hb
    subst hb
    have := h i r q hi hq
    have e : sumN (fun k => Lin.at_ r k * (Z k * n)) (wid m) = n * sumN (fun k => Lin.at_ r k * Z k) (wid m) := by
      rw [← sumN_mul]
      exact sumN_congr _ fun k _ => by ac_rfl
    show sumN (fun k => Lin.at_ r k * (Z k * n)) (wid m) = D * (q * n)
    rw [e, this]
    ac_rfl
theorem givH_mul {s : Sy} {h : List Int} (hg : givH s h = 0) (n : Int) : givH s (h.map (· * n)) = 0 ∨ givH s (h.map (· * n)) = 2 := by
  obtain ⟨hv, hz, hr⟩ := givH_zero hg
  unfold givH
  rw [if_pos hv, if_pos (by simpa using hz)]
  split
  · exact .inl rfl
  · exact .inr rfl
/-- Multiplied hauls have multiplied speeds. -/
theorem speeds_mul {s : Sy} {h : List Int} (h0 : (speedsP s h).2 = 0) (n : Int) : (speedsP s (h.map (· * n))).2 = 2 ∨ ((speedsP s (h.map (· * n))).2 = 0 ∧ (speedsP s (h.map (· * n))).1.length = s.bs.length ∧
    ∀ (i : Nat) (f g : Int × Int), (speedsP s h).1[i]? = some f → (speedsP s (h.map (· * n))).1[i]? = some g → vfrac n 1 = true → (mulP f (n, 1)).2 = 0 → (mulP f (n, 1)).1 = g) := by
  obtain ⟨hg, _⟩ := speedsP_full h0
  obtain ⟨hv, hz, hr⟩ := givH_zero hg
  have ok := validS_ok hv
  obtain ⟨tv, tw⟩ := ok.tr_valid
  have tl := ok.tr_len
  obtain ⟨X, D, hD, hX, hl, hXv⟩ := speedsP_val h0
  rcases givH_mul hg n with hg2 | hg2
  · right
    obtain ⟨_, hz2, hr2⟩ := givH_zero hg2
    have hw1 := rangedP_within hz hr
    have hw2 := rangedP_within hz2 hr2
    have hs2 : (speedsP s (h.map (· * n))).2 = 0 := by
      unfold speedsP at h0 ⊢
      rw [if_pos hg] at h0
      rw [if_pos hg2]
      obtain ⟨_, hfull⟩ := (solve_ok tv (by omega) hw1).1 h0
      exact (solve_ok tv (by rw [hz2, tl]) hw2).2 ⟨⟨_, D, hD, hX.mul⟩, hfull⟩
    have hfull : ¬ rankP (trS s) (wid (trS s)) < wid (trS s) := by
      unfold speedsP at h0
      rw [if_pos hg] at h0
      exact ((solve_ok tv (by omega) hw1).1 h0).2
    obtain ⟨W, F, hF, hW, hl2, hWv⟩ := speedsP_val hs2
    refine ⟨hs2, hl2, fun i f g hf hgi hn hm => ?_⟩
    have hfv := hXv i f hf
    have hnv : Val (n, 1) n 1 := Val.self (x := (n, 1)) hn
    rw [mulP_ok hfv.v hnv.v] at hm ⊢
    refine (hfv.mul hnv hm).eq (hWv i g hgi) ?_
    have hi := (List.getElem?_eq_some_iff.1 hf).1
    have := sol_uniq tv (by rw [hz2, tl]) hw2 hfull hD hF (hX.mul (n := n)) hW i (by omega)
    rw [Int.mul_one]
    exact this
  · left
    unfold speedsP
    rw [if_neg (by omega)]
    exact hg2
/-- The speeds go with the hauls, and no others do. -/
theorem speeds_go {s : Sy} {h : List Int} (h0 : (speedsP s h).2 = 0) : (chkM s h (speedsP s h).1).2 = 5 ∨ chkM s h (speedsP s h).1 = (true, 0) := by
  obtain ⟨hg, hl⟩ := speedsP_full h0
  obtain ⟨X, D, hD, hX, _, hXv⟩ := speedsP_val h0
  have ha := allV_of hXv
  rcases chkM_err hg ha hl with e | e
  · exact .inr (Prod.ext ((chkM_iff hg ha hl e hD hXv).2 hX) e)
  · exact .inl e
theorem speeds_only {s : Sy} {h : List Int} (h0 : (speedsP s h).2 = 0) {i : Nat} {f : Int × Int} (hf : (speedsP s h).1[i]? = some f) (hx : (addP f (1, 1)).2 = 0) :
    (chkM s h ((speedsP s h).1.set i (addP f (1, 1)).1)).2 = 5 ∨ chkM s h ((speedsP s h).1.set i (addP f (1, 1)).1) = (false, 0) := by
  obtain ⟨hg, hl⟩ := speedsP_full h0
  obtain ⟨hv, hz, hr⟩ := givH_zero hg
  have ok := validS_ok hv
  obtain ⟨tv, tw⟩ := ok.tr_valid
  have tl := ok.tr_len
  obtain ⟨X, D, hD, hX, _, hXv⟩ := speedsP_val h0
  have hfv := hXv i f hf
  have h11 : Val (1, 1) 1 1 := .one (by omega)
  rw [addP_ok hfv.v h11.v] at *
  have hxv := (hfv.add h11 hx).to (r := X i + D) hD (by grind)
  generalize (addR f (1, 1)).1 = x at *
  have hil := (List.getElem?_eq_some_iff.1 hf).1
  have hZ2 : ∀ (k : Nat) (g : Int × Int), ((speedsP s h).1.set i x)[k]? = some g → Val g (if k = i then X i + D else X k) D := fun k g hg => by
    by_cases e : k = i
    · subst e
      rw [List.getElem?_set_self hil, Option.some.injEq] at hg
      subst hg
      rw [if_pos rfl]
      exact hxv
    · rw [List.getElem?_set_ne (Ne.symm e)] at hg
      rw [if_neg e]
      exact hXv k g hg
  have ha := allV_of hZ2
  have hl2 : ((speedsP s h).1.set i x).length = s.bs.length := by simpa using hl
  rcases chkM_err hg ha hl2 with e | e
  · refine .inr (Prod.ext ?_ e)
    have := chkM_iff hg ha hl2 e hD hZ2
    cases hc : (chkM s h ((speedsP s h).1.set i x)).1
    · rfl
    · exfalso
      have hsol := this.1 hc
      have hw := rangedP_within hz hr
      have hfull : ¬ rankP (trS s) (wid (trS s)) < wid (trS s) := by
        unfold speedsP at h0
        rw [if_pos hg] at h0
        exact ((solve_ok tv (by omega) hw).1 h0).2
      have hu := sol_uniq tv (by omega) hw hfull hD hD hsol hX i (by omega)
      simp only [if_true] at hu
      have := cancel hD hu
      omega
  · exact .inl e
end Go.Proofs.Ytifmgjieplmbnaa.T
end
