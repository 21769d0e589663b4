import Derived.Test.YtpcakodemleoiaaTCPY
import Derived.Test.YtpcakodemleoiaaTVS
import Derived.Test.YtpcakodemleoiaaTSKM
import Derived.Test.YtpcakodemleoiaaTVUH
import Derived.Test.YtpcakodemleoiaaWM
import Derived.Test.YtpcakodemleoiaaTJ
import Derived.Test.YtpcakodemleoiaaWA
import Derived.Test.YtpcakodemleoiaaWJK
import Derived.Test.YtpcakodemleoiaaSG
import Derived.Test.YtpcakodemleoiaaRows
import Derived.Lib.SmallJoins
import Derived.ProofKit
set_option linter.all false
namespace Go.Proofs.Ytpcakodemleoiaa.T
open Go Go.RowKit Lin
set_option linter.unusedSimpArgs false

/-! StaticsAdds. -/
theorem few11N (s : Sy) : PRet Try.prog 8 [syD s, .sl 2 [] false] (bool (smallS s)) := by
  have h : PRet Try.prog 8 [syD s, .sl 2 [] false] (bool (smallS s && true)) := few11 s [] (by simp)
  rwa [Bool.and_true] at h
abbrev u16L (l : List Int) : D := .sl 1 (l.map fun n => .v (.int .u16 n)) false
def mreW (more : List Int) (i : Nat) : Int := more.getD i 0
def othS (s : Sy) (more : List Int) : Sy := ⟨s.bs.mapIdx fun i b => ⟨b.nm, mreW more i⟩, s.rs⟩
def botS (s : Sy) (more : List Int) : Sy := ⟨s.bs.mapIdx fun i b => ⟨b.nm, b.w + mreW more i⟩, s.rs⟩
theorem mre_le {more : List Int} (h : ∀ x ∈ more, 0 ≤ x ∧ x < 65536) (i : Nat) : 0 ≤ mreW more i ∧ mreW more i < 65536 := by
  unfold mreW
  rw [List.getD_eq_getElem?_getD]
  cases hi : more[i]? with
  | none => simp
  | some x => exact h x (List.mem_of_getElem? hi)
theorem oth_names (s : Sy) (more : List Int) : bNames (othS s more).bs = bNames s.bs ∧ bNames (botS s more).bs = bNames s.bs := by
  constructor
  all_goals
    refine List.ext_getElem? fun i => ?_
    simp only [bNames, othS, botS, List.getElem?_map, List.getElem?_mapIdx]
    cases s.bs[i]? <;> rfl
theorem oth_valid {s : Sy} (hv : validS s = true) {more : List Int} (h : ∀ x ∈ more, 0 ≤ x ∧ x < 65536) : validS (othS s more) = true := by
  refine validS_iff.2 ((validS_iff.1 hv).weights rfl (oth_names s more).1 fun b hb => ?_)
  obtain ⟨i, hi⟩ := List.mem_iff_getElem?.1 hb
  simp only [othS, List.getElem?_mapIdx] at hi
  cases hc : s.bs[i]? with
  | none => rw [hc] at hi; simp at hi
  | some c =>
    rw [hc] at hi
    simp only [Option.map_some, Option.some.injEq] at hi
    subst hi
    have := mre_le h i
    simp only
    omega
theorem bot_wts (s : Sy) (more : List Int) : wtsS (botS s more) = zipA (wtsS s) (wtsS (othS s more)) := by
  refine List.ext_getElem? fun i => ?_
  simp only [wtsS, botS, othS, zipA, List.getElem?_map, List.getElem?_mapIdx, List.getElem?_zipWith]
  cases s.bs[i]? <;> rfl
theorem oth_small {s : Sy} {more : List Int} (h : smallS s = true) : smallS (othS s more) = true := by
  unfold smallS at h ⊢
  simp only [Bool.and_eq_true, List.all_eq_true] at h ⊢
  refine ⟨⟨by simpa [othS] using h.1.1, fun b hb => ?_⟩, h.2⟩
  obtain ⟨i, hi⟩ := List.mem_iff_getElem?.1 hb
  simp only [othS, List.getElem?_mapIdx] at hi
  cases hc : s.bs[i]? with
  | none => rw [hc] at hi; simp at hi
  | some c =>
    rw [hc] at hi
    simp only [Option.map_some, Option.some.injEq] at hi
    subst hi
    exact h.1.2 c (List.mem_of_getElem? hc)
theorem bot_small {s : Sy} {more : List Int} (h : smallS s = true) : smallS (botS s more) = true := by
  unfold smallS at h ⊢
  simp only [Bool.and_eq_true, List.all_eq_true] at h ⊢
  refine ⟨⟨by simpa [botS] using h.1.1, fun b hb => ?_⟩, h.2⟩
  obtain ⟨i, hi⟩ := List.mem_iff_getElem?.1 hb
  simp only [botS, List.getElem?_mapIdx] at hi
  cases hc : s.bs[i]? with
  | none => rw [hc] at hi; simp at hi
  | some c =>
    rw [hc] at hi
    simp only [Option.map_some, Option.some.injEq] at hi
    subst hi
    exact h.1.2 c (List.mem_of_getElem? hc)
/-- What the law says of the tensions. -/
theorem adds_law {s : Sy} {more : List Int} (h : ∀ x ∈ more, 0 ≤ x ∧ x < 65536) (h0 : (tensP s).2 = 0) :
    (tensP (botS s more)).2 = 1 ∨ ((tensP (othS s more)).2 = 22 ∧ (tensP (botS s more)).2 = 22) ∨ ((tensP (othS s more)).2 = 0 ∧ (tensP (botS s more)).2 = 0 ∧ (tensP s).1.length = s.rs.length ∧ (tensP (othS s more)).1.length = s.rs.length ∧ (tensP (botS s more)).1.length = s.rs.length ∧
      ∀ (i : Nat) (x y z : Int × Int), (tensP s).1[i]? = some x → (tensP (othS s more)).1[i]? = some y → (tensP (botS s more)).1[i]? = some z → addP x y = (z, 0) ∨ (addP x y).2 = 5) := by
  obtain ⟨hv, hl⟩ := tensP_len h0
  have ok := validS_ok hv
  have ho := oth_valid hv h
  have oko := validS_ok ho
  have em1 : matS (othS s more) = matS s := matS_names rfl (oth_names s more).1
  have em2 : matS (botS s more) = matS s := matS_names rfl (oth_names s more).2
  by_cases hb : validS (botS s more) = true
  rotate_left 1
  · left
    unfold tensP
    rw [if_neg hb]
  have okb := validS_ok hb
  right
  have l1 := fun h => (tensP_len (s := othS s more) h).2
  have l2 := fun h => (tensP_len (s := botS s more) h).2
  have w1 := ok.wts_in
  have w2 := oko.wts_in
  have w3 := okb.wts_in
  have n1 := ok.len
  have n2 := oko.len
  have n3 := okb.len
  rw [bot_wts] at w3 n3
  rw [em1] at n2
  rw [em2] at n3
  unfold tensP at h0 hl l1 l2 ⊢
  rw [if_pos hv] at h0 hl ⊢
  rw [if_pos ho, em1] at l1 ⊢
  rw [if_pos hb, em2, bot_wts] at l2 ⊢
  have ml := ok.mat_len
  have wl := ok.wts_len
  rcases adds_err ok.mat_valid n1 (by omega) w1 w2 w3 h0 with ⟨e1, e2⟩ | ⟨e1, e2⟩
  · right
    exact ⟨e1, e2, hl, l1 e1, l2 e2, fun i x y z hx hy hz => adds_at ok.mat_valid n1 (by omega) w1 w2 w3 h0 e1 e2 i x y z hx hy hz⟩
  · left
    exact ⟨e1, e2⟩
end Go.Proofs.Ytpcakodemleoiaa.T

namespace Go.Proofs.Ytpcakodemleoiaa.T
open Go Go.RowKit Lin
set_option linter.unusedSimpArgs false

/-! StaticsTurns. -/
theorem bkC_flat (l : List Bk) : bkC l = (l.map bk1).flatten := by simp [bkC, List.flatMap]
theorem hdC_flat (l : List Hd) : hdC l = (l.map hd1).flatten := by simp [hdC, List.flatMap]
theorem frC_flat (l : List (Int × Int)) : frC l = (l.map fun p => [int p.1, int p.2]).flatten := by simp [frC, List.flatMap]
theorem reverseBs {H : Hp} {t b g n : Nat} {l : List Bk} (hb : H[b]? = some (some ⟨35, g, bkC l⟩)) (hl : l.length = n) (hn : n ≤ 1000000) : ACall Try.prog 11 [.own 2 b g 0 n] H t (fun _ H' _ => H' = H.set b (some ⟨35, g, bkC l.reverse⟩)) := by
  subst hl
  rw [bkC_flat] at hb
  have h := reverseBk (t := t) hb (fun x hx => by
    obtain ⟨r, _, rfl⟩ := List.mem_map.1 hx
    exact ⟨_, _, rfl⟩) (by rw [List.length_map]; exact hn)
  rw [List.length_map, ← List.map_reverse, ← bkC_flat] at h
  exact h
theorem reverseHs {H : Hp} {t b g n : Nat} {l : List Hd} (hb : H[b]? = some (some ⟨46, g, hdC l⟩)) (hl : l.length = n) (hn : n ≤ 1000000) : ACall Try.prog 15 [.own 4 b g 0 n] H t (fun _ H' _ => H' = H.set b (some ⟨46, g, hdC l.reverse⟩)) := by
  subst hl
  rw [hdC_flat] at hb
  have h := reverseHd (t := t) hb (fun x hx => by
    obtain ⟨r, _, rfl⟩ := List.mem_map.1 hx
    exact ⟨_, _, _, _, rfl⟩) (by rw [List.length_map]; exact hn)
  rw [List.length_map, ← List.map_reverse, ← hdC_flat] at h
  exact h
theorem reverseFs {H : Hp} {t b g n : Nat} {l : List (Int × Int)} (hb : H[b]? = some (some ⟨42, g, frC l⟩)) (hl : l.length = n) (hn : n ≤ 1000000) : ACall Try.prog 13 [.own 2 b g 0 n] H t (fun _ H' _ => H' = H.set b (some ⟨42, g, frC l.reverse⟩)) := by
  subst hl
  rw [frC_flat] at hb
  have h := reverseFr (t := t) hb (fun x hx => by
    obtain ⟨r, _, rfl⟩ := List.mem_map.1 hx
    exact ⟨_, _, rfl⟩) (by rw [List.length_map]; exact hn)
  rw [List.length_map, ← List.map_reverse, ← frC_flat] at h
  exact h
theorem reverseRoS {H : Hp} {t b g n : Nat} {rs : List Rp} {qs : List (Nat × Nat)} (hb : H[b]? = some (some ⟨39, g, (roC rs qs).flatten⟩)) (hq : qs.length = rs.length) (hl : rs.length = n) (hn : n ≤ 1000000) : ACall Try.prog 12 [.own 3 b g 0 n] H t (fun _ H' _ => H' = H.set b (some ⟨39, g, (roC rs.reverse qs.reverse).flatten⟩)) := by
  subst hl
  have h := reverseRp (t := t) hb (fun x hx => by
    obtain ⟨j, hj⟩ := List.mem_iff_getElem?.1 hx
    unfold roC at hj
    rw [List.getElem?_zipWith] at hj
    cases h1 : rs[j]? <;> cases h2 : qs[j]? <;> rw [h1, h2] at hj <;> simp at hj
    subst hj
    exact ⟨_, _, _, _, _, rfl⟩) (by rw [roC_len hq]; exact hn)
  rw [roC_len hq] at h
  have e : (roC rs qs).reverse = roC rs.reverse qs.reverse := by unfold roC; exact List.reverse_zipWith hq.symm
  rw [e] at h
  exact h
theorem reverse_nilF {H : Hp} {t : Nat} {b : Bool} : ACall Try.prog 13 [.sl 2 [] b] H t (fun _ H' _ => H' = H) := by
  refine ACall.enter tab_ok Try.func13 rfl rfl Try.ntmps13 (by simp) ?_
  simp only [enterTM]
  ((refine gga0 ?_))
  refine AW_block ?_
  refine AW_loop_w (fun x : Nat => ⟨[(2, int 0), (3, int (-1))], H, x⟩) (fun _ => 0) (fun _ => True) t trivial (by (simp (disch := omega) only [StLe, tmLe, hpLe_refl, hpLe, bl, bb, bt, zDs, zD, eqCells, simprocAttr])) ?_
  rintro tt -
  ((refine gga0 ?_))
  (simp (disch := omega) only [retQ, resD, oneD, rsv, rs, rsL, rsL_eq_map, List.map_map, bb, bt, zDs, zD, eqCells, simprocAttr, Try.results13])
theorem roC_hl {rs : List Rp} {qs : List (Nat × Nat)} : ∀ {i : Nat} {r : Rp} {p : Nat × Nat}, rs[i]? = some r → qs[i]? = some p → ∀ h : Bool, (roC rs qs).flatten.set (i * 3 + 2) (bool h) = (roC (rs.set i ⟨r.nm, r.hs, h⟩) qs).flatten := by
  induction rs generalizing qs with
  | nil => intro i r p h; simp at h
  | cons x rs ih =>
    intro i r p hr hp h
    cases qs with
    | nil => simp at hp
    | cons q qs =>
      cases i with
      | zero =>
        simp only [List.getElem?_cons_zero, Option.some.injEq] at hr hp
        subst hr hp
        rfl
      | succ i =>
        have := ih (qs := qs) (i := i) (r := r) (p := p) (by simpa using hr) (by simpa using hp) h
        unfold roC at this ⊢
        rw [List.set_cons_succ, List.zipWith_cons_cons, List.zipWith_cons_cons, List.flatten_cons, List.flatten_cons]
        have e : (i + 1) * 3 + 2 = (ro1 x q).length + (i * 3 + 2) := by simp only [ro1, List.length_cons, List.length_nil]; omega
        rw [e, List.set_append_right _ _ (by omega), Nat.add_sub_cancel_left, this]
theorem roC_back {r : Rp} : ∀ {rs : List Rp} {j : Nat} {qs : List (Nat × Nat)}, roC (rs.set j (backR r)) qs = roC (rs.set j ⟨r.nm, r.hs, false⟩) qs
  | [], _, _ => rfl
  | _ :: _, _, [] => by simp [roC]
  | x :: rs, 0, q :: qs => by
    simp only [roC, List.set_cons_zero, List.zipWith_cons_cons, ro1, backR, List.length_reverse]
  | x :: rs, j + 1, q :: qs => by
    have ih := roC_back (r := r) (rs := rs) (j := j) (qs := qs)
    unfold roC at ih ⊢
    simp only [List.set_cons_succ, List.zipWith_cons_cons, ih]
theorem solve_X (m : List (List Int)) (right : List Int) (hm : m.length ≤ 1000000) (hl : ∀ r ∈ m, r.length ≤ 1000000) (hrl : right.length ≤ 1000000) (h0 : (solveP m right).2 = 0) : PFreshX Try.prog 36 [mat m, ints right] 42 2 (solveP m right).1.length (frC (solveP m right).1) (wrapD true [] [int 0]) :=
  PFreshX.intro (tup := true) (pre := []) (post := [int 0]) (plainL_frC _) rfl rfl fun t => (solve_gen m right hm hl hrl t).mono fun d H' _ h => by
    obtain ⟨b, g, e1, e2⟩ := h.own h0
    exact ⟨b, g, e1, e2⟩
theorem tens_X (s : Sy) (hf : Fits s) (h0 : (tensP s).2 = 0) : PFreshX Try.prog 9 [syD s] 42 2 (tensP s).1.length (frC (tensP s).1) (wrapD true [] [int 0]) := by
  refine PFreshX.intro (tup := true) (pre := []) (post := [int 0]) (plainL_frC _) rfl rfl fun t => ACall.enter tab_ok Try.func9 rfl rfl Try.ntmps9 (by simp) ?_
  simp only [enterTM]
  obtain ⟨hv, _⟩ := tensP_len h0
  have hM := matrix_prog s hf
  have hW := weights_prog s hf
  rw [hv] at hM hW
  simp only [if_true] at hM hW
  have ok := validS_ok hv
  obtain ⟨g1, g2, g3⟩ := ok.mat_fit
  have e : tensP s = solveP (matS s) (wtsS s) := by simp [tensP, hv]
  rw [e] at h0 ⊢
  have hS := solve_X (matS s) (wtsS s) g1 g2 g3 h0
  generalize solveP (matS s) (wtsS s) = X at *
  ((refine gga2 hM hW ?_))
  intro KR hKR
  ((first | refine awOps_nc fun KK hKK => ?_ | refine awOps_gc rfl fun KK hKK => ?_); simp (disch := omega) only [bb, bt, zDs, zD, eqCells, simprocAttr, goC, callO_fn, argsD, and_self]; refine ACall.of_freshX (hS) (by first | (simp only [List.map_cons, List.map_nil, List.append_nil, List.nil_append, List.cons_append, ufa, uf]; done) | rfl) ?_; simp (disch := omega) only [bb, bt, zDs, zD, eqCells, simprocAttr, afterC]; refine hKK _ ?_; clear hKK KK)
  ((refine wra ?_)); ((refine wea ?_); (try clear hKR KR))
  ((refine gga0 ?_))
  ((repeat refine AW_seq ?_); (refine wta ?_); simp (disch := omega) only [retQ, resD, oneD, bb, bt, zDs, zD, eqCells, simprocAttr, Try.results9])
  exact ⟨_, _, rfl, rfl⟩
theorem rv_get {α : Type} {l : List α} {i : Nat} {x : α} (h : l.reverse[i]? = some x) : i < l.length ∧ l[l.length - 1 - i]? = some x := by
  have h1 := (List.getElem?_eq_some_iff.1 h).1
  rw [List.length_reverse] at h1
  rw [List.getElem?_reverse h1] at h
  exact ⟨h1, h⟩
set_option maxRecDepth 100000 in
set_option maxHeartbeats 16000000 in
theorem law_turns (s : Sy) (k : Int) (hk : 0 ≤ k ∧ k < 256) : PRet Try.prog 3 [syD s, .v (.int .u8 k)] (bool true) := by
  refine PRet.intro 1 fun t => ACall.enter tab_ok Try.func3 rfl rfl Try.ntmps3 (by simp) ?_
  simp only [enterTM]
  have hF := few11N s
  cases hs : smallS s
  · rw [hs] at hF
    ((refine gga2 awake11 hF ?_))
    ((repeat refine AW_seq ?_); (refine wta ?_); simp (disch := omega) only [retQ, resD, oneD, rsv, rs, rsL, rsL_eq_map, List.map_map, bb, bt, zDs, zD, eqCells, simprocAttr, Try.results3])
  rw [hs] at hF
  have hf := small_fits hs
  have hT := tens_prog s hf
  have hnil : (tensP s).2 ≠ 0 → (tensP s).1 = [] := fun h => (hold_none (l := []) h).1
  cases hv : validS s
  · have e : tensP s = ([], 1) := by simp [tensP, hv]
    rw [e] at hT
    ((refine gga3 awake11 hF hT ?_))
    ((repeat refine AW_seq ?_); (refine wta ?_); simp (disch := omega) only [retQ, resD, oneD, rsv, rs, rsL, rsL_eq_map, List.map_map, bb, bt, zDs, zD, eqCells, simprocAttr, Try.results3])
    rfl
  have ok := validS_ok hv
  have hr1 := ok.r1
  have hr6 := ok.r6
  have hb6 := ok.b6
  have hdr := rpC_div s.rs
  have hTR := tens_rev hv
  have hTB := tens_back hv
  have hvr : validS (revS s) = true := validS_iff.2 (validS_iff.1 hv).rev
  have hfr : Fits (revS s) := ⟨by simpa [revS] using hf.nb, by simpa [revS] using hf.nr, fun b hb => hf.sb b (List.mem_reverse.1 hb), fun r hr => hf.sr r (List.mem_reverse.1 hr)⟩
  have hfb : ∀ i, Fits (backS s i) := fun i => by
    unfold backS
    cases hi : s.rs[i]? with
    | none => exact hf
    | some r =>
      refine ⟨hf.nb, by simpa using hf.nr, hf.sb, fun q hq => ?_⟩
      rcases List.mem_or_eq_of_mem_set hq with h | h
      · exact hf.sr q h
      · subst h
        have := hf.sr r (List.mem_of_getElem? hi)
        exact ⟨this.1, by simpa [backR] using this.2⟩
  have hn1 : (tensP s).2 ≠ 1 := by
    have e : tensP s = solveP (matS s) (wtsS s) := by simp [tensP, hv]
    rw [e]
    rcases solve_cases ok.mat_valid ok.len ok.wts_in with h | h | h <;> omega
  have hXr : (tensP s).2 = 0 → PFreshX Try.prog 9 [syD (revS s)] 42 2 (tensP s).1.length (frC (tensP s).1.reverse) (wrapD true [] [int 0]) := fun h => by
    have := tens_X (revS s) hfr (by rw [hTR]; exact h)
    rw [hTR, List.length_reverse] at this
    exact this
  have hXn : (tensP s).2 ≠ 0 → PRet Try.prog 9 [syD (revS s)] (fse ([], (tensP s).2)) := fun h => by
    have := tens_prog (revS s) hfr
    rw [hTR, hnil h] at this
    exact this
  have hXb : ∀ i, PRet Try.prog 9 [syD (backS s i)] (fse (tensP s)) := fun i => by
    have := tens_prog (backS s i) (hfb i)
    rwa [hTB] at this
  have hA1000 := tensP_le s
  clear hTR hTB
  generalize tensP s = X at *
  obtain ⟨A, e⟩ := X
  simp only at *
  have hE := equalFr A A (by omega) (by omega)
  rw [beq_self_eq_true] at hE
  have e1 : (e == 1) = false := by simpa using hn1
  have c0 : ((s.rs.length : Int) == 0) = false := by rw [beq_eq_false_iff_ne]; omega
  ((refine ggb3 (F := _∧_) ⟨e1, hdr⟩ awake11 hF hT ?_))
  ((refine wib c0 ?_))
  ((refine wsa ?_))
  ((repeat refine AW_seq ?_))
  refine AW.less ⟨[(1, .v (.int .u8 k)), (2, .ptr 0 (t + 1) 0), (5, frs A), (6, int e)], [some ⟨25, t + 1, [bks s.bs, rps s.rs]⟩], t + 1⟩ (by (simp (disch := omega) only [StLe, tmLe, hpLe_refl, hpLe, bl, bb, bt, zDs, zD, eqCells, simprocAttr])) ?_
  refine AW.reserve 1 ?_
  simp only [List.replicate_succ, List.replicate_zero, List.cons_append, List.nil_append]
  ((repeat refine AW_seq ?_); (refine AW_region_k tab_ok fun KR hKR => ?_))
  ((refine wra ?_))
  ((try with_reducible intro KR hKR); (first | refine awOps_nc fun KK hKK => ?_ | refine awOps_gc rfl fun KK hKK => ?_); simp (disch := omega) only [bb, bt, zDs, zD, eqCells, simprocAttr, goC, callO_fn, argsD, and_self])
  refine copyH ok rfl fun g2 gr qs R B0 B1 B3 t1 hcb ht1 => ?_
  simp only [List.length_cons, List.length_nil, List.cons_append, List.nil_append, Nat.zero_add, Nat.reduceAdd]
  (simp (disch := omega) only [bb, bt, zDs, zD, eqCells, simprocAttr, afterC]; refine hKK _ ?_; clear hKK KK)
  refine awOps_at 1 rfl rfl (by decide) fun KK hKK => ?_
  (simp (disch := omega) only [bb, bt, zDs, zD, eqCells, simprocAttr])
  refine hKK _ ?_; clear hKK KK
  ((refine wra ?_))
  ((refine wea ?_); (try clear hKR KR))
  ((refine gga0 ?_))
  ((try with_reducible intro KR hKR); (first | refine awOps_nc fun KK hKK => ?_ | refine awOps_gc rfl fun KK hKK => ?_); simp (disch := omega) only [bb, bt, zDs, zD, eqCells, simprocAttr, goC, callO_fn, argsD, and_self])
  refine (reverseBs (l := s.bs) rfl rfl (by omega)).mono fun d2 H2 t2 h => ?_
  subst h
  (simp (disch := omega) only [bb, bt, zDs, zD, eqCells, simprocAttr, afterC, List.set_cons_succ, List.set_cons_zero]; refine hKK _ ?_; clear hKK KK)
  ((refine wra ?_)); ((refine wea ?_); (try clear hKR KR))
  ((refine gga0 ?_))
  ((try with_reducible intro KR hKR); (first | refine awOps_nc fun KK hKK => ?_ | refine awOps_gc rfl fun KK hKK => ?_); simp (disch := omega) only [bb, bt, zDs, zD, eqCells, simprocAttr, goC, callO_fn, argsD, and_self])
  refine (reverseRoS (rs := s.rs) (qs := qs) rfl hcb.lq rfl (by omega)).mono fun d3 H3 t3 h => ?_
  subst h
  (simp (disch := omega) only [bb, bt, zDs, zD, eqCells, simprocAttr, afterC, List.set_cons_succ, List.set_cons_zero]; refine hKK _ ?_; clear hKK KK)
  ((refine wra ?_)); ((refine wea ?_); (try clear hKR KR))
  have hlay : LayR 2 (some B0 :: some B1 :: some ⟨35, g2, bkC s.bs.reverse⟩ :: some B3 :: some ⟨39, gr, (roC s.rs.reverse qs.reverse).flatten⟩ :: R.map some) s.rs.reverse qs.reverse := ⟨by simpa using hcb.lq, fun j x q hx hq => by
    obtain ⟨j1, j2⟩ := rv_get hx
    obtain ⟨j3, j4⟩ := rv_get hq
    rw [hcb.lq] at j4
    obtain ⟨a1, a2⟩ := hcb.at_ _ x q j2 j4
    simp only [List.length_cons, List.length_nil] at a1
    refine ⟨by omega, ?_⟩
    rw [show q.1 - 2 = (2 * (s.rs.length - 1 - j) + 1) + 1 + 1 + 1 + 1 + 1 by omega]
    simp only [List.getElem?_cons_succ, List.getElem?_map, a2, Option.map_some]⟩
  have z1 := zv_blocks (k := 2) (m := 2) (H2 := some B0 :: some B1 :: some ⟨35, g2, bkC s.bs.reverse⟩ :: some B3 :: some ⟨39, gr, (roC s.rs.reverse qs.reverse).flatten⟩ :: R.map some) (b := 4) (g := g2) (bs := s.bs.reverse) (by decide) rfl
  have z2 := zv_ropes (k := 1) (b := 6) (g := gr) hlay (by decide) rfl
  rw [List.length_reverse] at z1 z2
  refine AW.less ⟨[(1, .v (.int .u8 k)), (2, .ptr 0 (t + 1) 0), (5, frs A), (6, int e), (7, .ptr 1 (t1 + 1) 0)], some ⟨25, t + 1, [bks s.bs, rps s.rs]⟩ :: some ⟨25, t1 + 1, [.own 2 4 g2 0 s.bs.length, .own 3 6 gr 0 s.rs.length]⟩ :: some B0 :: some B1 :: some ⟨35, g2, bkC s.bs.reverse⟩ :: some B3 :: some ⟨39, gr, (roC s.rs.reverse qs.reverse).flatten⟩ :: R.map some, t3⟩ (by (simp (disch := omega) only [StLe, tmLe, hpLe_refl, hpLe, bl, bb, bt, zDs, zD, eqCells, simprocAttr])) ?_
  refine AW.tail 3 [some ⟨25, t + 1, [bks s.bs, rps s.rs]⟩, some ⟨25, t1 + 1, [.own 2 4 g2 0 s.bs.length, .own 3 6 gr 0 s.rs.length]⟩] (some B0 :: some B1 :: some ⟨35, g2, bkC s.bs.reverse⟩ :: some B3 :: some ⟨39, gr, (roC s.rs.reverse qs.reverse).flatten⟩ :: R.map some) rfl ?_
  have zb : ∀ (H : Hp) (l : List Bk), zv 2 H 3 (bks l) = bks l := fun H l => zv_plain 2 H 3 (plain_bk l)
  have zr : ∀ (H : Hp) (l : List Rp), zv 2 H 3 (rps l) = rps l := fun H l => zv_plain 2 H 3 (plain_rp l)
  have zp0 : ∀ H : Hp, zv 2 H 3 (.ptr 0 (t + 1) 0) = .ptr 0 (t + 1) 0 := fun H => by simp [zv, zz]
  have zp1 : ∀ H : Hp, zv 2 H 3 (.ptr 1 (t1 + 1) 0) = .ptr 1 (t1 + 1) 0 := fun H => by simp [zv, zz]
  simp only [zT, zH, List.map_cons, List.map_nil, Option.map_some, List.length_nil, List.length_cons, Nat.zero_add, Nat.reduceAdd, z1, z2, zb, zr, zp0, zp1, zv_v, zv_frs]
  have erv : ([bks s.bs.reverse, rps s.rs.reverse] : List D) = [bks (revS s).bs, rps (revS s).rs] := rfl
  rw [erv]
  clear hlay z1 z2 hcb erv zb zr zp0 zp1
  by_cases h0 : e = 0
  focus
    have hXo := hXr h0
    have hez := h0
    have hal := frC_len A
    have hfin : List.take (A.length * 2) (frC A) = frC A := List.take_of_length_le (by omega)
    ((refine gga0 ?_))
    intro KR hKR
    ((first | refine awOps_nc fun KK hKK => ?_ | refine awOps_gc rfl fun KK hKK => ?_); simp (disch := omega) only [bb, bt, zDs, zD, eqCells, simprocAttr, goC, callO_fn, argsD, and_self]; refine ACall.of_freshX (hXo) (by first | (simp only [List.map_cons, List.map_nil, List.append_nil, List.nil_append, List.cons_append, ufa, uf]; done) | rfl) ?_; simp (disch := omega) only [bb, bt, zDs, zD, eqCells, simprocAttr, afterC]; refine hKK _ ?_; clear hKK KK)
    ((refine wra ?_)); ((refine wea ?_); (try clear hKR KR))
    ((refine gga0 ?_))
    ((try with_reducible intro KR hKR); (first | refine awOps_nc fun KK hKK => ?_ | refine awOps_gc rfl fun KK hKK => ?_); simp (disch := omega) only [bb, bt, zDs, zD, eqCells, simprocAttr, goC, callO_fn, argsD, and_self])
    refine (reverseFs (l := A.reverse) rfl (by simp) (by omega)).mono fun d4 H4 t4 h => ?_
    rw [List.reverse_reverse] at h
    subst h
    (simp (disch := omega) only [bb, bt, zDs, zD, eqCells, simprocAttr, afterC, List.set_cons_succ, List.set_cons_zero]; refine hKK _ ?_; clear hKK KK)
    ((refine wra ?_)); ((refine wea ?_); (try clear hKR KR))
    ((refine AW.freeze (2) (by first | rfl | (simp only [setH, List.getElem?_cons_zero, List.getElem?_cons_succ, fz_bk, fz_rp, fz_frS, hfin, hal, Nat.le_refl]; done)) ?_); simp (disch := omega) only [fzT, fz, fzL, fzL_ints, fzL_mat, fzH, fzB, eq_self, bb, bt, zDs, zD, eqCells, simprocAttr, fz_bk, fz_rp, fz_frS, hfin, hal, Nat.le_refl])
    have e0f : (e != 0) = false := by rw [hez]; rfl
    ((refine ggb1 e0f hE ?_))
  rotate_left 1
  focus
    have hXn := hXn h0
    have hA := hnil h0
    have hRv : ∀ (H : Hp) (t : Nat), ACall Try.prog 13 [frs A] H t (fun _ H' _ => H' = H) := by rw [hA]; exact fun H t => reverse_nilF
    refine AW.reserve 1 ?_
    simp only [List.replicate_succ, List.replicate_zero, List.cons_append, List.nil_append]
    have hXn2 : PRet Try.prog 9 [syD (revS s)] (fse (A, e)) := by rw [hA]; exact hXn
    ((refine gga1 hXn2 ?_))
    ((try with_reducible intro KR hKR); (first | refine awOps_nc fun KK hKK => ?_ | refine awOps_gc rfl fun KK hKK => ?_); simp (disch := omega) only [bb, bt, zDs, zD, eqCells, simprocAttr, goC, callO_fn, argsD, and_self])
    refine (hRv _ _).mono fun d4 H4 t4 h => ?_
    subst h
    (simp (disch := omega) only [bb, bt, zDs, zD, eqCells, simprocAttr, afterC]; refine hKK _ ?_; clear hKK KK)
    ((refine wra ?_)); ((refine wea ?_); (try clear hKR KR))
    ((refine gga1 hE ?_))
  all_goals
    ((try with_reducible intro KR hKR); (first | refine awOps_nc fun KK hKK => ?_ | refine awOps_gc rfl fun KK hKK => ?_); simp (disch := omega) only [bb, bt, zDs, zD, eqCells, simprocAttr, goC, callO_fn, argsD, and_self])
    refine copyH ok rfl fun g3 gs ps S C0 C1 C3 t5 hcb2 ht5 => ?_
    simp only [List.length_cons, List.length_nil, List.cons_append, List.nil_append, Nat.zero_add, Nat.reduceAdd]
    (simp (disch := omega) only [bb, bt, zDs, zD, eqCells, simprocAttr, afterC]; refine hKK _ ?_; clear hKK KK)
    refine awOps_at 2 rfl rfl (by decide) fun KK hKK => ?_
    (simp (disch := omega) only [bb, bt, zDs, zD, eqCells, simprocAttr])
    refine hKK _ ?_; clear hKK KK
    ((refine wra ?_))
    ((refine wea ?_); (try clear hKR KR))
    obtain ⟨ni, rfl⟩ : ∃ n : Nat, k = (n : Int) := ⟨k.toNat, by omega⟩
    have ek : Int.tmod (ni : Int) (s.rs.length : Int) = ((ni % s.rs.length : Nat) : Int) := rfl
    have hjl : ni % s.rs.length < s.rs.length := Nat.mod_lt _ (by omega)
    have hl0 : ¬ (s.rs.length : Int) = 0 := by omega
    have wk := wr64 (ni : Int) (by omega)
    generalize ni % s.rs.length = j at *
    obtain ⟨r, hr⟩ : ∃ y, s.rs[j]? = some y := ⟨_, List.getElem?_eq_getElem hjl⟩
    obtain ⟨p, hp⟩ : ∃ y, ps[j]? = some y := ⟨_, List.getElem?_eq_getElem (by rw [hcb2.lq]; exact hjl)⟩
    have ho2 := (ok.holds r (List.mem_of_getElem? hr)).2.1
    have hrc := roC_cells hcb2.lq
    have hrcl : (roC s.rs ps).flatten.length / 3 = s.rs.length := by omega
    have hst := roC_hl hr hp false
    have hc1 := roC_hs (rs := s.rs.set j ⟨r.nm, r.hs, false⟩) (qs := ps) (i := j) (r := ⟨r.nm, r.hs, false⟩) (p := p) (by rw [List.getElem?_set_self hjl]) hp
    have hrc2 := roC_cells (rs := s.rs.set j ⟨r.nm, r.hs, false⟩) (ps := ps) (by rw [List.length_set]; exact hcb2.lq)
    rw [List.length_set] at hrc2
    have hrcl2 : (roC (s.rs.set j ⟨r.nm, r.hs, false⟩) ps).flatten.length / 3 = s.rs.length := by omega
    have hc2 := take_one hc1
    obtain ⟨p9, pR⟩ := hcb2.at_ j r p hr hp
    simp only [List.length_cons, List.length_nil] at p9
    obtain ⟨p1, p2⟩ := p
    simp only at p9 pR hc1 hc2
    have hget : ∀ X0 X1 X2 X3 X4 X5 X6 X7 : Option Blk, (X0 :: X1 :: X2 :: X3 :: X4 :: X5 :: X6 :: X7 :: S.map some)[p1]? = some (some ⟨46, p2, hdC r.hs⟩) := fun X0 X1 X2 X3 X4 X5 X6 X7 => by
      rw [show p1 = (2 * j + 1) + 1 + 1 + 1 + 1 + 1 + 1 + 1 + 1 by omega]
      simp only [List.getElem?_cons_succ, List.getElem?_map, pR, Option.map_some]
    have hset : ∀ (X0 X1 X2 X3 X4 X5 X6 X7 : Option Blk) (Y : Blk), (X0 :: X1 :: X2 :: X3 :: X4 :: X5 :: X6 :: X7 :: S.map some).set p1 (some Y) = X0 :: X1 :: X2 :: X3 :: X4 :: X5 :: X6 :: X7 :: (S.set (2 * j + 1) Y).map some := fun X0 X1 X2 X3 X4 X5 X6 X7 Y => by
      rw [show p1 = (2 * j + 1) + 1 + 1 + 1 + 1 + 1 + 1 + 1 + 1 by omega]
      simp only [List.set_cons_succ, List.map_set]
    have ebk : backS s j = ⟨s.bs, s.rs.set j (backR r)⟩ := by unfold backS; rw [hr]
    have hXj := hXb j
    rw [ebk] at hXj
    ((refine ggb0 (F := _∧_∧_∧_∧_∧_∧_∧_∧_∧_) ⟨ek, hl0, wk, hjl, hrcl, hst, hrc, hrcl2, hc1, hc2⟩ ?_))
    ((try with_reducible intro KR hKR); (first | refine awOps_nc fun KK hKK => ?_ | refine awOps_gc rfl fun KK hKK => ?_); simp (disch := omega) only [bb, bt, zDs, zD, eqCells, simprocAttr, goC, callO_fn, argsD, and_self])
    refine (reverseHs (l := r.hs) (hget _ _ _ _ _ _ _ _) rfl (by omega)).mono fun d6 H6 t6 h => ?_
    rw [hset] at h
    subst h
    (simp (disch := omega) only [bb, bt, zDs, zD, eqCells, simprocAttr, afterC]; refine hKK _ ?_; clear hKK KK)
    ((refine wra ?_)); ((refine wea ?_); (try clear hKR KR))
    have hlay : LayR 3 (some C0 :: some C1 :: some ⟨35, g3, bkC s.bs⟩ :: some C3 :: some ⟨39, gs, (roC (s.rs.set j ⟨r.nm, r.hs, false⟩) ps).flatten⟩ :: (S.set (2 * j + 1) ⟨46, p2, hdC r.hs.reverse⟩).map some) (s.rs.set j (backR r)) ps := ⟨by rw [List.length_set]; exact hcb2.lq, fun i x q hx hq => by
      by_cases eij : j = i
      · subst eij
        rw [List.getElem?_set_self hjl, Option.some.injEq] at hx
        subst hx
        rw [hp, Option.some.injEq] at hq
        subst hq
        refine ⟨by show 3 ≤ p1; omega, ?_⟩
        rw [show p1 - 3 = (2 * j + 1) + 1 + 1 + 1 + 1 + 1 by omega]
        simp only [List.getElem?_cons_succ, List.getElem?_map]
        rw [List.getElem?_set_self (by have := hcb2.lr; omega)]
        rfl
      · rw [List.getElem?_set_ne eij] at hx
        obtain ⟨a1, a2⟩ := hcb2.at_ i x q hx hq
        simp only [List.length_cons, List.length_nil] at a1
        refine ⟨by omega, ?_⟩
        rw [show q.1 - 3 = (2 * i + 1) + 1 + 1 + 1 + 1 + 1 by omega]
        simp only [List.getElem?_cons_succ, List.getElem?_map]
        rw [List.getElem?_set_ne (by omega), a2]
        rfl⟩
    have erc : (roC (s.rs.set j (backR r)) ps).flatten = (roC (s.rs.set j ⟨r.nm, r.hs, false⟩) ps).flatten := by rw [roC_back]
    have z1 := zv_blocks (k := 2) (m := 3) (H2 := some C0 :: some C1 :: some ⟨35, g3, bkC s.bs⟩ :: some C3 :: some ⟨39, gs, (roC (s.rs.set j ⟨r.nm, r.hs, false⟩) ps).flatten⟩ :: (S.set (2 * j + 1) ⟨46, p2, hdC r.hs.reverse⟩).map some) (b := 5) (g := g3) (bs := s.bs) (by decide) rfl
    have z2 := zv_ropes (k := 1) (b := 7) (g := gs) hlay (by decide) (by rw [erc]; rfl)
    rw [List.length_set] at z2
    refine AW.less ⟨[(5, frs A), (6, int e), (10, .ptr 2 (t5 + 1) 0)], none :: none :: some ⟨25, t5 + 1, [.own 2 5 g3 0 s.bs.length, .own 3 7 gs 0 s.rs.length]⟩ :: some C0 :: some C1 :: some ⟨35, g3, bkC s.bs⟩ :: some C3 :: some ⟨39, gs, (roC (s.rs.set j ⟨r.nm, r.hs, false⟩) ps).flatten⟩ :: (S.set (2 * j + 1) ⟨46, p2, hdC r.hs.reverse⟩).map some, t6⟩ (by (simp (disch := omega) only [StLe, tmLe, hpLe_refl, hpLe, bl, bb, bt, zDs, zD, eqCells, simprocAttr])) ?_
    refine AW.tail 3 [none, none, some ⟨25, t5 + 1, [.own 2 5 g3 0 s.bs.length, .own 3 7 gs 0 s.rs.length]⟩] (some C0 :: some C1 :: some ⟨35, g3, bkC s.bs⟩ :: some C3 :: some ⟨39, gs, (roC (s.rs.set j ⟨r.nm, r.hs, false⟩) ps).flatten⟩ :: (S.set (2 * j + 1) ⟨46, p2, hdC r.hs.reverse⟩).map some) rfl ?_
    have zp2 : ∀ H : Hp, zv 3 H 3 (.ptr 2 (t5 + 1) 0) = .ptr 2 (t5 + 1) 0 := fun H => by simp [zv, zz]
    simp only [zT, zH, List.map_cons, List.map_nil, Option.map_some, Option.map_none, List.length_nil, List.length_cons, Nat.zero_add, Nat.reduceAdd, z1, z2, zp2, zv_v, zv_frs]
    ((refine gga2 hXj hE ?_))
    ((repeat refine AW_seq ?_); (refine wta ?_); simp (disch := omega) only [retQ, resD, oneD, rsv, rs, rsL, rsL_eq_map, List.map_map, bb, bt, zDs, zD, eqCells, simprocAttr, Try.results3])
end Go.Proofs.Ytpcakodemleoiaa.T

/- What the arguments of chapter 4's laws stand for. -/
section
namespace Go.Proofs.Ytpcakodemleoiaa.T
open Go Go.RowKit Go.ChangeShapes

theorem slice_one {P : Program} {w : World} {r : Reach} {base : Nat} {t e : TypeId} {v : Value} (ht : P.underlying t = some (.slice e)) (h : Value.okWide P w r base t v) : v.cells = #[v] := by
  simp only [Value.okWide, ht, Cell.okWide] at h
  cases v <;> simp_all [Value.cells, Cell.ok]
theorem ints_of : ∀ {rows : List (List D)}, (∀ r ∈ rows, (∃ n, r = [int n] ∧ (Lit.int .i64 n).wf = true) ∧ r.length = 1) → ∃ l : List Int, rows.flatten = l.map int ∧ ∀ x ∈ l, (Lit.int .i64 x).wf = true
  | [], _ => ⟨[], rfl, by simp⟩
  | r :: rows, h => by
    obtain ⟨⟨n, rfl, hw⟩, _⟩ := h r (by simp)
    obtain ⟨l, e, hl⟩ := ints_of fun x hx => h x (List.mem_cons_of_mem _ hx)
    exact ⟨n :: l, by simp [e], fun x hx => by
      rcases List.mem_cons.1 hx with rfl | hx
      · exact hw
      · exact hl x hx⟩
theorem rows_of : ∀ {rows : List (List D)}, (∀ r ∈ rows, (∃ l : List Int, r = [ints l] ∧ ∀ x ∈ l, (Lit.int .i64 x).wf = true) ∧ r.length = 1) → ∃ m : List (List Int), rows.flatten = m.map ints ∧ ∀ l ∈ m, ∀ x ∈ l, (Lit.int .i64 x).wf = true
  | [], _ => ⟨[], rfl, by simp⟩
  | r :: rows, h => by
    obtain ⟨⟨n, rfl, hw⟩, _⟩ := h r (by simp)
    obtain ⟨l, e, hl⟩ := rows_of fun x hx => h x (List.mem_cons_of_mem _ hx)
    exact ⟨n :: l, by simp [e], fun x hx => by
      rcases List.mem_cons.1 hx with rfl | hx
      · exact hw
      · exact hl x hx⟩

theorem u8_of {x : Int} (h : (Lit.int .u8 x).wf = true) : 0 ≤ x ∧ x < 256 := by
  rw [Lit.wf, Bool.and_eq_true] at h
  have h1 := of_decide_eq_true h.1
  have h2 := of_decide_eq_true h.2
  have e1 : IntKind.u8.min = 0 := rfl
  have e2 : IntKind.u8.max = 255 := rfl
  rw [e1] at h1
  rw [e2] at h2
  exact ⟨h1, by omega⟩
theorem cellsInt : Try.prog.cellsOf 3 = 1 := by kernel_rfl
theorem cellsInts : Try.prog.cellsOf 66 = 1 := by kernel_rfl
section
variable {H : Type} {enc : TypeId × Value → H} {W : World}
theorem opn_ints : Opn enc Try.prog W 66 fun ds => ∃ l : List Int, ds = [ints l] ∧ ∀ x ∈ l, (Lit.int .i64 x).wf = true :=
  (Opn.slice Try.underlying66 cellsInt (by decide) (Opn.int Try.underlying3)).mono fun ds ⟨rows, e, h, _⟩ => by
    obtain ⟨l, e2, hl⟩ := ints_of h
    exact ⟨l, by rw [e, e2], hl⟩
theorem opn_mat : Opn enc Try.prog W 63 fun ds => ∃ m : List (List Int), ds = [mat m] ∧ ∀ l ∈ m, ∀ x ∈ l, (Lit.int .i64 x).wf = true :=
  (Opn.slice Try.underlying63 cellsInts (by decide) opn_ints).mono fun ds ⟨rows, e, h, _⟩ => by
    obtain ⟨l, e2, hl⟩ := rows_of h
    exact ⟨l, by rw [e, e2], hl⟩
end
end Go.Proofs.Ytpcakodemleoiaa.T
end

/- Arguments that are lists of fractions. -/
section
namespace Go.Proofs.Ytpcakodemleoiaa.T
open Go Go.RowKit Go.ChangeShapes

theorem fracs_of : ∀ {rows : List (List D)}, (∀ r ∈ rows, (∃ a b, r = [int a, int b]) ∧ r.length = 2) → ∃ l : List (Int × Int), rows.flatten = frC l
  | [], _ => ⟨[], rfl⟩
  | r :: rows, h => by
    obtain ⟨⟨a, b, rfl⟩, _⟩ := h r (by simp)
    obtain ⟨l, e⟩ := fracs_of fun x hx => h x (List.mem_cons_of_mem _ hx)
    exact ⟨(a, b) :: l, by simp [e, frC]⟩
theorem cellsFrac : Try.prog.cellsOf 42 = 2 := by kernel_rfl
section
variable {H : Type} {enc : TypeId × Value → H} {W : World}
theorem opn_frac : Opn enc Try.prog W 42 fun ds => ∃ a b, ds = [int a, int b] :=
  (Opn.struct Try.underlying42 ⟨_, _, rfl, rfl, Opn.int Try.underlying3, _, _, rfl, by simp only [cellsInt], Opn.int Try.underlying3, rfl⟩ (by kernel_rfl)).mono fun ds h => by
    obtain ⟨d1, r1, rfl, ⟨a, rfl, _⟩, d2, r2, rfl, ⟨b, rfl, _⟩, rfl⟩ := h
    exact ⟨a, b, rfl⟩
theorem opn_fracs : Opn enc Try.prog W 28 fun ds => ∃ l : List (Int × Int), ds = [frs l] ∧ True :=
  (Opn.slice Try.underlying28 cellsFrac (by decide) opn_frac).mono fun ds ⟨rows, e, h, _⟩ => by
    obtain ⟨l, e2⟩ := fracs_of h
    exact ⟨l, by rw [e, e2], trivial⟩
end
end Go.Proofs.Ytpcakodemleoiaa.T
end

/- Arguments that are systems. -/
section
namespace Go.Proofs.Ytpcakodemleoiaa.T
open Go Go.RowKit Go.ChangeShapes

theorem flats_of {α : Type} {f : α → List D} {n : Nat} : ∀ {rows : List (List D)}, (∀ r ∈ rows, (∃ x, r = f x) ∧ r.length = n) → ∃ l : List α, rows.flatten = l.flatMap f
  | [], _ => ⟨[], rfl⟩
  | r :: rows, h => by
    obtain ⟨⟨x, rfl⟩, _⟩ := h r (by simp)
    obtain ⟨l, e⟩ := flats_of fun x hx => h x (List.mem_cons_of_mem _ hx)
    exact ⟨x :: l, by simp [e]⟩
theorem cellsHold : Try.prog.cellsOf 46 = 4 := by kernel_rfl
theorem cellsRope : Try.prog.cellsOf 39 = 3 := by kernel_rfl
theorem cellsBlock : Try.prog.cellsOf 35 = 2 := by kernel_rfl
theorem agg_of {P : Program} {w : World} {r : Reach} {base : Nat} {t : TypeId} {fs : Array Field} {v : Value} (ht : P.underlying t = some (.struct fs)) (h : Value.okWide P w r base t v) : ∃ cs, v = .agg cs := by
  simp only [Value.okWide, ht] at h
  obtain ⟨cs, e, _⟩ := h
  exact ⟨cs, e⟩
section
variable {H : Type} {enc : TypeId × Value → H} {W : World}
theorem opn_hold : Opn enc Try.prog W 46 fun ds => ∃ h : Hd, ds = hd1 h :=
  (Opn.struct Try.underlying46 ⟨_, _, rfl, (by kernel_rfl), Opn.str Try.underlying9, _, _, rfl, (by kernel_rfl), Opn.int Try.underlying3, _, _, rfl, (by kernel_rfl), opn_frac, rfl⟩ (by kernel_rfl)).mono fun ds h => by
    obtain ⟨d1, r1, rfl, ⟨s, rfl, _⟩, d2, r2, rfl, ⟨p, rfl, _⟩, d3, r3, rfl, ⟨a, b, rfl⟩, rfl⟩ := h
    exact ⟨⟨s, p, a, b⟩, rfl⟩
theorem opn_holds : Opn enc Try.prog W 37 fun ds => ∃ l : List Hd, ds = [hds l] :=
  (Opn.slice Try.underlying37 cellsHold (by decide) opn_hold).mono fun ds ⟨rows, e, h, _⟩ => by
    obtain ⟨l, e2⟩ := flats_of h
    exact ⟨l, by rw [e, e2]; rfl⟩
theorem opn_rope : Opn enc Try.prog W 39 fun ds => ∃ r : Rp, ds = rp1 r :=
  (Opn.struct Try.underlying39 ⟨_, _, rfl, (by kernel_rfl), Opn.str Try.underlying9, _, _, rfl, (by kernel_rfl), opn_holds, _, _, rfl, (by kernel_rfl), Opn.bool Try.underlying4, rfl⟩ (by kernel_rfl)).mono fun ds h => by
    obtain ⟨d1, r1, rfl, ⟨s, rfl, _⟩, d2, r2, rfl, ⟨l, rfl⟩, d3, r3, rfl, ⟨b, rfl⟩, rfl⟩ := h
    exact ⟨⟨s, l, b⟩, rfl⟩
theorem opn_ropes : Opn enc Try.prog W 23 fun ds => ∃ l : List Rp, ds = [rps l] :=
  (Opn.slice Try.underlying23 cellsRope (by decide) opn_rope).mono fun ds ⟨rows, e, h, _⟩ => by
    obtain ⟨l, e2⟩ := flats_of h
    exact ⟨l, by rw [e, e2]; rfl⟩
theorem opn_block : Opn enc Try.prog W 35 fun ds => ∃ b : Bk, ds = bk1 b :=
  (Opn.struct Try.underlying35 ⟨_, _, rfl, (by kernel_rfl), Opn.str Try.underlying9, _, _, rfl, (by kernel_rfl), Opn.int Try.underlying3, rfl⟩ (by kernel_rfl)).mono fun ds h => by
    obtain ⟨d1, r1, rfl, ⟨s, rfl, _⟩, d2, r2, rfl, ⟨p, rfl, _⟩, rfl⟩ := h
    exact ⟨⟨s, p⟩, rfl⟩
theorem opn_blocks : Opn enc Try.prog W 22 fun ds => ∃ l : List Bk, ds = [bks l] :=
  (Opn.slice Try.underlying22 cellsBlock (by decide) opn_block).mono fun ds ⟨rows, e, h, _⟩ => by
    obtain ⟨l, e2⟩ := flats_of h
    exact ⟨l, by rw [e, e2]; rfl⟩
theorem opn_sys : Opn enc Try.prog W 25 fun ds => ∃ s : Sy, ds = [bks s.bs, rps s.rs] :=
  (Opn.struct Try.underlying25 ⟨_, _, rfl, (by kernel_rfl), opn_blocks, _, _, rfl, (by kernel_rfl), opn_ropes, rfl⟩ (by kernel_rfl)).mono fun ds h => by
    obtain ⟨d1, r1, rfl, ⟨a, rfl⟩, d2, r2, rfl, ⟨b, rfl⟩, rfl⟩ := h
    exact ⟨⟨a, b⟩, rfl⟩
theorem arg_sys {v : Value} {base : Nat} {r : Reach} {d : DataW H} {p : List MemPlace} (h : DataW.Trod enc Try.prog W 0 (fun _ => true) true 25 v d p) (hv : Value.okWide Try.prog W r base 25 v) : ∃ s : Sy, Rep (memOf W) [] (syD s) v := by
  obtain ⟨cs, rfl⟩ : ∃ cs, v = .agg cs := by
    simp only [Value.okWide, Try.underlying25] at hv
    obtain ⟨cs, e, _⟩ := hv
    exact ⟨cs, e⟩
  obtain ⟨ds, hr, s, rfl⟩ := arg_agg opn_sys h
  exact ⟨s, hr⟩
theorem cellsSys : Try.prog.cellsOf 25 = 2 := by kernel_rfl
theorem arg_rope {v : Value} {base : Nat} {r : Reach} {d : DataW H} {p : List MemPlace} (h : DataW.Trod enc Try.prog W 0 (fun _ => true) true 39 v d p) (hv : Value.okWide Try.prog W r base 39 v) : ∃ s : Rp, Rep (memOf W) [] (.agg (rp1 s)) v := by
  obtain ⟨cs, rfl⟩ : ∃ cs, v = .agg cs := by
    simp only [Value.okWide, Try.underlying39] at hv
    obtain ⟨cs, e, _⟩ := hv
    exact ⟨cs, e⟩
  obtain ⟨ds, hr, s, rfl⟩ := arg_agg opn_rope h
  exact ⟨s, hr⟩
theorem arg_frac {v : Value} {base : Nat} {r : Reach} {d : DataW H} {p : List MemPlace} (h : DataW.Trod enc Try.prog W 0 (fun _ => true) true 42 v d p) (hv : Value.okWide Try.prog W r base 42 v) : ∃ s : Int × Int, Rep (memOf W) [] (frD s) v := by
  obtain ⟨cs, rfl⟩ : ∃ cs, v = .agg cs := by
    simp only [Value.okWide, Try.underlying42] at hv
    obtain ⟨cs, e, _⟩ := hv
    exact ⟨cs, e⟩
  obtain ⟨ds, hr, a, b, rfl⟩ := arg_agg opn_frac h
  exact ⟨(a, b), hr⟩
abbrev u16s (l : List Int) : D := .sl 1 (l.map fun n => .v (.int .u16 n)) false
theorem u16_of {x : Int} (h : (Lit.int .u16 x).wf = true) : 0 ≤ x ∧ x < 65536 := by
  rw [Lit.wf, Bool.and_eq_true] at h
  have h1 := of_decide_eq_true h.1
  have h2 := of_decide_eq_true h.2
  have e1 : IntKind.u16.min = 0 := rfl
  have e2 : IntKind.u16.max = 65535 := rfl
  rw [e1] at h1
  rw [e2] at h2
  exact ⟨h1, by omega⟩
theorem u16_rows : ∀ {rows : List (List D)}, (∀ r ∈ rows, (∃ n, r = [.v (.int .u16 n)] ∧ (Lit.int .u16 n).wf = true) ∧ r.length = 1) → ∃ l : List Int, rows.flatten = l.map (fun n => .v (.int .u16 n)) ∧ ∀ x ∈ l, (Lit.int .u16 x).wf = true
  | [], _ => ⟨[], rfl, by simp⟩
  | r :: rows, h => by
    obtain ⟨⟨n, rfl, hw⟩, _⟩ := h r (by simp)
    obtain ⟨l, e, hl⟩ := u16_rows fun x hx => h x (List.mem_cons_of_mem _ hx)
    exact ⟨n :: l, by simp [e], fun x hx => by
      rcases List.mem_cons.1 hx with rfl | hx
      · exact hw
      · exact hl x hx⟩
theorem cellsU16 : Try.prog.cellsOf 48 = 1 := by kernel_rfl
theorem u64_of {x : Int} (h : (Lit.int .u64 x).wf = true) : 0 ≤ x ∧ x ≤ 18446744073709551615 := by
  rw [Lit.wf, Bool.and_eq_true] at h
  have h1 := of_decide_eq_true h.1
  have h2 := of_decide_eq_true h.2
  have e1 : IntKind.u64.min = 0 := rfl
  have e2 : IntKind.u64.max = 18446744073709551615 := rfl
  rw [e1] at h1
  rw [e2] at h2
  exact ⟨h1, h2⟩
end
end Go.Proofs.Ytpcakodemleoiaa.T
end

/- The signs of the head's word (printed by mkmake.py): the kernel need not take a long string apart. -/
namespace Go.Proofs.Ytpcakodemleoiaa.T
open Go Go.RowKit Go.Joins
def wordSigns0 : List Char := [104,97,114,110,101,115,115,32,49,99,102,48,49,100,102,56,52,53,100,49,50,48,53,102,100,50,101,50,48,97,52,100,51,49,97,50,51,56,97,97,57,55,56,50,52,50,52,57,56,55,101,51,53,54,48,53,51,57,98,52,48,55,98,48].map Char.ofNat
def wordSigns1 : List Char := [100,53,52,50,51,54,48,99,32,99,117,116,32,97,116,32,108,111,102,116,98,108,111,99,107,47,108,111,102,116,98,108,111,99,107,108,97,119,49,49,46,83,116,97,116,105,99,115,84,117,114,110,115,32,108,111,102,116,98,108,111,99,107,47].map Char.ofNat
def wordSigns2 : List Char := [108,111,102,116,98,108,111,99,107,108,97,119,49,51,46,65,100,118,97,110,116,97,103,101,79,119,110,32,108,111,102,116,98,108,111,99,107,47,108,111,102,116,98,108,111,99,107,108,97,119,49,52,46,76,111,115,115,101,115,84,119,105,99,101].map Char.ofNat
def wordSigns3 : List Char := [32,108,111,102,116,98,108,111,99,107,47,108,111,102,116,98,108,111,99,107,108,97,119,49,52,46,76,111,115,115,101,115,65,108,111,110,103].map Char.ofNat
def wordSigns : List Char := wordSigns0 ++ wordSigns1 ++ wordSigns2 ++ wordSigns3
theorem word_is : Try.prog.initOrder.toList = wordSigns := by
  have h : Try.prog.initOrder = String.ofList wordSigns := by kernel_rfl
  rw [h, String.toList_ofList]
theorem word_cut : behindMainWord (wordsSigns wordSigns) = "cut".toList :: (behindMainWord (wordsSigns wordSigns)).tail := by kernel_rfl
theorem make_of (P : Program) (l : List Char) (h : P.initOrder.toList = l) (r : List (List Char)) (hr : behindMainWord (wordsSigns l) = "cut".toList :: r) : P.make = some .cut := by
  unfold Program.make
  rw [h, hr]
  rfl
theorem enter_of (P : Program) (l : List Char) (h : P.initOrder.toList = l) (r : List (List Char)) (hr : behindMainWord (wordsSigns l) = "cut".toList :: r) (h1 : P.laysLater = false) (h2 : P.bearsReflect = false) (h3 : P.doorFits [] = true) (hs : stripLifts liftWords ("cut".toList :: r) = ([], "cut".toList :: r)) : P.mayEnter = true := by
  unfold Program.mayEnter
  rw [h, hr]
  simp only [hs, h1, h2, h3]
  rfl
theorem word_make : Try.prog.make = some .cut := make_of _ wordSigns word_is _ word_cut
theorem word_enter : Try.prog.mayEnter = true := enter_of _ wordSigns word_is _ word_cut (by kernel_rfl) (by kernel_rfl) (by kernel_rfl) (by kernel_rfl)
theorem word_lifts : Try.prog.liftsFinal = false := by
  unfold Program.liftsFinal Program.headLifts
  rw [word_is]
  kernel_rfl
theorem word_enterP : Try.pinned.checked.prog.mayEnter = true := word_enter
theorem word_liftsP : Try.pinned.checked.prog.liftsFinal = false := word_lifts
theorem word_makeP : Try.pinned.checked.prog.make = some .cut := word_make
end Go.Proofs.Ytpcakodemleoiaa.T

