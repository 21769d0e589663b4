import Derived.Test.YtjjpjgnoanfaoaaGreatTB
import Derived.Test.YtjjpjgnoanfaoaaGreatSG
import Derived.Test.YtjjpjgnoanfaoaaGreatPVSAVR
import Derived.Test.YtjjpjgnoanfaoaaGreatLSJ
import Derived.Test.YtjjpjgnoanfaoaaGreatWRJ
import Derived.Test.YtjjpjgnoanfaoaaGreatPSKM
import Derived.Test.YtjjpjgnoanfaoaaGreatPMGI
set_option linter.all false
namespace Go.Proofs.YtjjpjgnoanfaoaaGreat.T
open Go Go.RowKit
set_option linter.unusedSimpArgs false

/-! A call whose result holds a slice of a block of its own among plain values. -/
theorem RepL_split {F : Mem} {G : Ghost} {d : D} {b : List D} : ∀ {a : List D} {us : List Value}, RepL F G (a ++ d :: b) us → ∃ ua u ub, us = ua ++ u :: ub ∧ RepL F G a ua ∧ Rep F G d u ∧ RepL F G b ub
  | [], us, h => by
    simp only [List.nil_append, RepL] at h
    obtain ⟨u, us', e, h1, h2⟩ := h
    exact ⟨[], u, us', e, by simp [RepL], h1, h2⟩
  | x :: a, us, h => by
    simp only [List.cons_append, RepL] at h
    obtain ⟨u, us', rfl, h1, h2⟩ := h
    obtain ⟨ua, v, ub, rfl, k1, k2, k3⟩ := RepL_split h2
    exact ⟨u :: ua, v, ub, rfl, by simp only [RepL]; exact ⟨u, ua, rfl, h1, k1⟩, k2, k3⟩
theorem RepL_join {F : Mem} {G : Ghost} {d : D} {b : List D} {u : Value} {ub : List Value} (h2 : Rep F G d u) (h3 : RepL F G b ub) : ∀ {a : List D} {ua : List Value}, RepL F G a ua → RepL F G (a ++ d :: b) (ua ++ u :: ub)
  | [], ua, h => by
    simp only [RepL] at h
    subst h
    simp only [List.nil_append, RepL]
    exact ⟨u, ub, rfl, h2, h3⟩
  | x :: a, ua, h => by
    simp only [RepL] at h
    obtain ⟨v, us', rfl, h1, h4⟩ := h
    simp only [List.cons_append, RepL]
    exact ⟨v, _, rfl, h1, RepL_join h2 h3 h4⟩
def wrapD (tup : Bool) (pre post : List D) (o : D) : D := if tup = true then .tup (pre ++ o :: post) else .agg (pre ++ o :: post)
theorem wrap_split {F : Mem} {G : Ghost} {tup : Bool} {pre post : List D} {o : D} {u : Value} (h1 : plainL pre = true) (h2 : plainL post = true) (h : Rep F G (wrapD tup pre post o) u) : ∃ v, Rep F G o v ∧ ∀ G' o', Rep F G' o' v → Rep F G' (wrapD tup pre post o') u := by
  unfold wrapD at h ⊢
  cases tup
  · simp only [Bool.false_eq_true, if_false, Rep] at h ⊢
    obtain ⟨vs, rfl, hL⟩ := h
    obtain ⟨ua, v, ub, rfl, k1, k2, k3⟩ := RepL_split hL
    exact ⟨v, k2, fun G' o' ho => ⟨_, rfl, RepL_join ho (plain_repL _ _ h2 k3) (plain_repL _ _ h1 k1)⟩⟩
  · simp only [if_true, Rep] at h ⊢
    obtain ⟨vs, rfl, hL⟩ := h
    obtain ⟨ua, v, ub, rfl, k1, k2, k3⟩ := RepL_split hL
    exact ⟨v, k2, fun G' o' ho => ⟨_, rfl, RepL_join ho (plain_repL _ _ h2 k3) (plain_repL _ _ h1 k1)⟩⟩
section
variable {P : Program}
theorem PFreshX.intro {f : FuncId} {ds : List D} {ty : TypeId} {sz n : Nat} {cells : List D} {tup : Bool} {pre post : List D} (hc : plainL cells = true) (h1 : plainL pre = true) (h2 : plainL post = true)
    (h : ∀ t, ACall P f ds [] t fun d H' _ => ∃ b g, d = wrapD tup pre post (.own sz b g 0 n) ∧ H'[b]? = some (some ⟨ty, g, cells⟩)) : PFreshX P f ds ty sz n cells (wrapD tup pre post) := by
  refine fun F G w us hF hL => ?_
  obtain ⟨t, ht⟩ := top_of G
  have R : Rel w F G [] t w := ⟨Below.refl _ _, hF, Nat.zero_le _, ht, fun i bl h => by simp at h, fun i j bi bj p q r s t u _ h => by simp at h⟩
  refine (h t w F G w us R hL).mono fun e w' hx => ?_
  obtain ⟨F', G', u, d', H', t', rfl, onw, R', hd, b, g, rfl, hb⟩ := hx
  obtain ⟨v, hv, hw⟩ := wrap_split h1 h2 hd
  obtain ⟨p, hp, hg, hl⟩ := R'.own b _ hb
  refine ⟨F', u, v, p, rfl, onw.mem, fun b o hb => onw.old b o hb, R'.mem, R'.below, ⟨rfl, ?_⟩, ?_, hw⟩
  · cases hr : p.r with
    | none => rw [hr] at hl; exact hl
    | some rs =>
      obtain ⟨r, s⟩ := rs
      rw [hr] at hl
      obtain ⟨k1, k2, hl⟩ := hl
      refine ⟨k1, k2, ?_⟩
      cases hpm : p.m with
      | false =>
        rw [hpm] at hl
        obtain ⟨vs, junk, k3, k4, k5⟩ := hl
        exact ⟨vs, junk, k3, k4, plain_repL _ _ hc k5⟩
      | true => rw [hpm] at hl; exact hl
  · simp only [Rep] at hv ⊢
    obtain ⟨k1, p', hp', k2, k3⟩ := hv
    rw [hp] at hp'; cases hp'
    exact ⟨k1, p, rfl, Nat.le_refl _, fun _ => k3 hg⟩
theorem ACall.of_freshX {f : FuncId} {ds ds' : List D} {ty : TypeId} {sz n : Nat} {cells : List D} {wf : D → D} {H : Hp} {t : Nat} {K : D → Hp → Nat → Prop} (h : PFreshX P f ds' ty sz n cells wf) (hd : ds.map ufa = ds') (hk : K (wf (.own sz H.length (t + 1) 0 n)) (setH H H.length ⟨ty, t + 1, cells⟩) (t + 1)) : ACall P f ds H t K := by
  refine fun w0 F G w us R hL => ?_
  subst hd
  have hL' : RepL F G (ds.map ufa) us := RepL_map (fun d u _ hd => hd.ufa) hL
  have go : ∀ G1, Ghost.le G.length G G1 → G.length ≤ G1.length → Rel w0 F G1 H t w → H.length < G1.length → Runs P f us.toArray w fun e w' => ∃ F' G' u d H' t', e = .returned u ∧ Onw w0 F G F' G' ∧ Rel w0 F' G' H' t' w' ∧ Rep F' G' d u ∧ K d H' t' := fun G1 g1 g2 R1 hlt => by
    obtain ⟨p0, hp0⟩ : ∃ p, G1[H.length]? = some p := ⟨_, List.getElem?_eq_getElem hlt⟩
    have htop := R1.top _ _ hp0
    refine (h F G w us R.mem hL').mono fun e w' hx => ?_
    obtain ⟨F', u, v, p, rfl, h1, h2, h3, h4, h5, h6, h7⟩ := hx
    obtain ⟨k1, k2⟩ := R1.fresh (t' := t + 1) (sp := t + 1) (Nat.le_succ t) (Nat.le_refl _) (Nat.le_refl _) hp0 (by omega) h1 h2 h3 h4 h5 h6
    exact ⟨F', _, u, _, _, _, rfl, ⟨h1, fun b o hb => h2 b o (by have := R.below.size; omega), g1.trans ((Ghost.le_set hp0 (.inr (by simp only; omega)) _).less g2), by simpa using g2⟩, k1, h7 _ _ k2, hk⟩
  rcases Nat.lt_or_ge H.length G.length with hlt | hge
  · exact go G (.refl _ _) (Nat.le_refl _) R hlt
  · have heq : H.length = G.length := Nat.le_antisymm R.len hge
    exact go (G ++ [⟨none, 0, false⟩]) (fun i p hi hp => ⟨p, by rw [List.getElem?_append_left hi]; exact hp, .refl p⟩) (by simp) R.extend (by simp; omega)
end
end Go.Proofs.YtjjpjgnoanfaoaaGreat.T

namespace Go.Proofs.YtjjpjgnoanfaoaaGreat.T
open Go Go.RowKit Lin
set_option linter.unusedSimpArgs false

/-! Copies of a system whose blocks, or ropes, are the caller's own. -/
theorem cellsC_bk (l : List Bk) : (bkC l).all isCell = true := by
  induction l with
  | nil => rfl
  | cons x r ih => simp only [bkC, List.flatMap_cons, List.all_append, Bool.and_eq_true] at ih ⊢; exact ⟨rfl, ih⟩
theorem cellsC_hd (l : List Hd) : (hdC l).all isCell = true := by
  induction l with
  | nil => rfl
  | cons x r ih => simp only [hdC, List.flatMap_cons, List.all_append, Bool.and_eq_true] at ih ⊢; exact ⟨rfl, ih⟩
set_option maxHeartbeats 4000000 in
theorem copyB (s : Sy) (ok : OkS s) : PFreshX Tryz.prog 60 [syD s] 78 2 s.bs.length (bkC s.bs) (fun o => .agg [o, rps s.rs]) := by
  refine PFreshX.intro (tup := false) (pre := []) (post := [rps s.rs]) (plain_bk _) rfl (by simp only [plainL, plainD, plain_rp, Bool.and_self]) fun t => ACall.enter tab_ok Tryz.func60 rfl rfl Tryz.ntmps60 (by simp) ?_
  simp only [enterTM]
  have hdr := rpC_div s.rs
  have hdb := bkC_div s.bs
  have hlb := bkC_len s.bs
  have b1 := ok.b1
  have b6 := ok.b6
  have r6 := ok.r6
  have hcb := cellsC_bk s.bs
  have hnb : (bkC s.bs = []) = False := by
    simp only [eq_iff_iff, iff_false]
    intro e
    rw [e] at hlb
    simp at hlb
    omega
  ((refine wqa ?_))
  ((refine wqb (F := _∧_∧_) ⟨hcb, hnb, hdb⟩ ?_))
  have hfb : List.take (s.bs.length * 2) (bkC s.bs) = bkC s.bs := List.take_of_length_le (by omega)
  
  ((refine wqa ?_))
  refine AW.begin_cell 3 1 3 72 rfl rfl (by decide) ?_
  simp only [List.set_cons_succ, List.set_cons_zero, List.length_cons, List.length_nil, List.cons_append, List.nil_append, Nat.zero_add, Nat.reduceAdd]
  have hz1 : rpC [] = [] := rfl
  refine AW_mid (fun x : Nat × Nat => ⟨[(2, .ptr 1 (t + 1 + 1) 0), (3, .ptr 3 (t + 1 + 1 + 1 + 1) 0)], [none, some ⟨25, t + 1 + 1, [.sl 2 [] true, .sl 3 [] true]⟩, some ⟨78, t + 1 + 1 + 1, bkC s.bs⟩, some ⟨25, t + 1 + 1 + 1 + 1, [.own 2 2 (t + 1 + 1 + 1) 0 s.bs.length, .own 3 4 x.1 0 s.rs.length]⟩, some ⟨72, x.1, rpC s.rs⟩], x.2⟩) (fun _ => True) ?_ ?_
  · refine AW_block ?_
    refine AW_loop_w (fun x : Nat × Nat × Nat => ⟨[(1, .ptr 0 (t + 1) 0), (2, .ptr 1 (t + 1 + 1) 0), (3, .ptr 3 (t + 1 + 1 + 1 + 1) 0), (4, int x.1)], [some ⟨25, t + 1, [bks s.bs, rps s.rs]⟩, some ⟨25, t + 1 + 1, [.sl 2 [] true, .sl 3 [] true]⟩, some ⟨78, t + 1 + 1 + 1, bkC s.bs⟩, some ⟨25, t + 1 + 1 + 1 + 1, [.own 2 2 (t + 1 + 1 + 1) 0 s.bs.length, .own 3 4 x.2.1 0 x.1]⟩, some ⟨72, x.2.1, rpC (s.rs.take x.1)⟩], x.2.2⟩) (fun x => s.rs.length - x.1) (fun x => x.1 ≤ s.rs.length) (0, t + 1 + 1 + 1 + 1 + 1, t + 1 + 1 + 1 + 1 + 1) (Nat.zero_le _) (by (simp (disch := omega) only [StLe, tmLe, hpLe_refl, hpLe, bl, bb, bt, zDs, zD, eqCells, simprocAttr, List.take_zero, hz1])) ?_
    rintro ⟨k, g, tt⟩ hk
    simp only at hk
    by_cases hlt : k < s.rs.length
    · obtain ⟨r, hr⟩ : ∃ y, s.rs[k]? = some y := ⟨_, List.getElem?_eq_getElem hlt⟩
      have hra := rpC_read s.rs k r hr
      obtain ⟨ho1, ho2, _⟩ := ok.holds r (List.mem_of_getElem? hr)
      have hch := cellsC_hd r.hs
      have hlh := hdC_len r.hs
      have hdh := hdC_div r.hs
      have hnh : (hdC r.hs = []) = False := by
        simp only [eq_iff_iff, iff_false]
        intro e
        rw [e] at hlh
        simp at hlh
        omega
      have htk : s.rs.take (k + 1) = s.rs.take k ++ [r] := by rw [List.take_add_one, hr]; rfl
      have htl : (s.rs.take k).length = k := by simp; omega
      have hel := rpC_len (s.rs.take k)
      rw [htl] at hel
      have happ := rpC_app (s.rs.take k) r
      generalize s.rs.take k = E at *
      ((refine ggb0 (F := _∧_∧_) ⟨@Int.ofNat_lt, hlt, hdr⟩ ?_))
      ((repeat refine AW_seq ?_))
      refine AW_block ?_
      ((refine wqb (F := _∧_∧_) ⟨hlt, hdr, hra⟩ ?_))
      ((refine wqb (F := _∧_∧_) ⟨hch, hnh, hdh⟩ ?_))
      have hfh : List.take (r.hs.length * 4) (hdC r.hs) = hdC r.hs := List.take_of_length_le (by omega)
      ((refine AW.freeze (6) (by first | rfl | (simp only [setH, List.getElem?_cons_zero, List.getElem?_cons_succ, fz_bk, fz_rp, fz_hd, hfh, hlh, Nat.le_refl]; done)) ?_); simp (disch := omega) only [fzT, fz, fzL, fzL_ints, fzL_mat, fzH, fzB, eq_self, bb, bt, zDs, zD, eqCells, simprocAttr, fz_bk, fz_rp, fz_hd, hfh, hlh, Nat.le_refl])
      ((refine ggb0 hel ?_))
      refine ⟨(k + 1, tt + 1 + 1 + 1, tt + 1 + 1 + 1), hlt, by show s.rs.length - (k + 1) < s.rs.length - k; omega, ?_⟩
      simp only [htk, happ]
      (simp (disch := omega) only [StLe, tmLe, hpLe_refl, hpLe, bl, bb, bt, zDs, zD, eqCells, simprocAttr])
    · have hke : k = s.rs.length := by omega
      subst hke
      rw [List.take_length]
      ((refine wqb (F := _∧_) ⟨@Int.lt_irrefl, hdr⟩ ?_))
      ((refine wia ?_))
      ((refine wxa ?_))
      exact ⟨(g, tt), trivial, by (simp (disch := omega) only [StLe, tmLe, hpLe_refl, hpLe, bl, bb, bt, zDs, zD, eqCells, simprocAttr])⟩
  rintro ⟨g, tt⟩ -
  have hel := rpC_len s.rs
  have hfin : List.take (s.rs.length * 3) (rpC s.rs) = rpC s.rs := List.take_of_length_le (by omega)
  ((refine AW.freeze (4) (by first | rfl | (simp only [setH, List.getElem?_cons_zero, List.getElem?_cons_succ, fz_bk, fz_rp, hfin, hel, Nat.le_refl]; done)) ?_); simp (disch := omega) only [fzT, fz, fzL, fzL_ints, fzL_mat, fzH, fzB, eq_self, bb, bt, zDs, zD, eqCells, simprocAttr, fz_bk, fz_rp, hfin, hel, Nat.le_refl])
  ((refine gga0 ?_))
  ((repeat refine AW_seq ?_); (refine wta ?_); simp (disch := omega) only [retQ, resD, oneD, bb, bt, zDs, zD, eqCells, simprocAttr, Tryz.results60])
  exact ⟨2, t + 1 + 1 + 1, rfl, rfl⟩
/-! Weights changed one after the other. -/
def chW (f : Nat → Bk → Int) (l : List Bk) : Nat → List Bk
  | 0 => l
  | k + 1 => match l[k]? with
    | some b => (chW f l k).set k ⟨b.nm, f k b⟩
    | none => chW f l k
theorem chW_len (f : Nat → Bk → Int) (l : List Bk) : ∀ k, (chW f l k).length = l.length
  | 0 => rfl
  | k + 1 => by
    simp only [chW]
    split
    · rw [List.length_set, chW_len f l k]
    · exact chW_len f l k
theorem chW_get (f : Nat → Bk → Int) (l : List Bk) : ∀ (k i : Nat) (b : Bk), l[i]? = some b → (chW f l k)[i]? = some (if i < k then ⟨b.nm, f i b⟩ else b)
  | 0, i, b, h => by rw [if_neg (by omega)]; exact h
  | k + 1, i, b, h => by
    have ih := chW_get f l k i b h
    have hi := (List.getElem?_eq_some_iff.1 h).1
    simp only [chW]
    by_cases e : k = i
    · subst e
      rw [h]
      simp only
      rw [List.getElem?_set_self (by rw [chW_len]; exact hi), if_pos (by omega)]
    · have : (match l[k]? with | some b => (chW f l k).set k ⟨b.nm, f k b⟩ | none => chW f l k)[i]? = (chW f l k)[i]? := by
        split
        · rw [List.getElem?_set_ne e]
        · rfl
      rw [this, ih]
      by_cases e2 : i < k
      · rw [if_pos e2, if_pos (by omega)]
      · rw [if_neg e2, if_neg (by omega)]
theorem chW_set {f : Nat → Bk → Int} {l : List Bk} {k : Nat} {b : Bk} (h : l[k]? = some b) : chW f l (k + 1) = (chW f l k).set k ⟨b.nm, f k b⟩ := by simp only [chW, h]
theorem chW_at {f : Nat → Bk → Int} {l : List Bk} {k : Nat} {b : Bk} (h : l[k]? = some b) : (chW f l k)[k]? = some b := by
  rw [chW_get f l k k b h, if_neg (by omega)]
theorem chW_end (f : Nat → Bk → Int) (l : List Bk) : chW f l l.length = l.mapIdx fun i b => ⟨b.nm, f i b⟩ := by
  refine List.ext_getElem? fun i => ?_
  rw [List.getElem?_mapIdx]
  cases h : l[i]? with
  | none => rw [List.getElem?_eq_none (by rw [chW_len]; exact List.getElem?_eq_none_iff.1 h)]; rfl
  | some b => rw [chW_get f l _ i b h, if_pos (List.getElem?_eq_some_iff.1 h).1]; rfl
theorem bkC_wt {l : List Bk} {i : Nat} {b : Bk} (h : l[i]? = some b) (w : Int) : (bkC l).set (i * 2 + 1) (int w) = bkC (l.set i ⟨b.nm, w⟩) := by
  have h1 := bkC_set l i ⟨b.nm, w⟩ (List.getElem?_eq_some_iff.1 h).1
  have hl := bkC_len l
  have hi := (List.getElem?_eq_some_iff.1 h).1
  have h2 := bkC_read l i b h
  rw [← h1]
  have e : bkC l = (bkC l).take (i * 2) ++ ([str b.nm, int b.w] ++ (bkC l).drop (i * 2 + 2)) := by
    have : [str b.nm, int b.w] = ((bkC l).drop (i * 2)).take 2 := h2.symm
    rw [this, ← List.drop_drop, List.take_append_drop, List.take_append_drop]
  have hlt : ((bkC l).take (i * 2)).length = i * 2 := by simp; omega
  conv => lhs; rw [e]
  rw [List.set_append_right _ _ (by omega), hlt, show i * 2 + 1 - i * 2 = 1 by omega]
  simp
theorem bkC_nm {l : List Bk} {i : Nat} {b : Bk} (h : l[i]? = some b) : (bkC l)[i * 2]? = some (str b.nm) := bkC_name l i b h
theorem bkC_w {l : List Bk} {i : Nat} {b : Bk} (h : l[i]? = some b) : (bkC l)[i * 2 + 1]? = some (int b.w) := bkC_cell l i b h 1 (by decide)
end Go.Proofs.YtjjpjgnoanfaoaaGreat.T

namespace Go.Proofs.YtjjpjgnoanfaoaaGreat.T
open Go Go.RowKit Lin
theorem gdta4_AC {C1 C2 C3 C4 P Q : Prop} (c1 : C1) (c2 : C2) (c3 : C3) (c4 : C4) (q : Q) (h : C1 → C2 → C3 → C4 → Q → P := by
  intro cc1 cc2 cc3 cc4 hq
  (try with_reducible intro KR hKR)
  (repeat refine AW_seq ?_); (repeat refine AW_seq ?_); (refine AW_drawn_k tab_ok follows_mixed 2 fun KR hKR => ?_); simp only [List.replicate_succ, List.replicate_zero, List.append_nil, List.nil_append, List.cons_append, List.length_cons, List.length_nil, Nat.reduceAdd]; (repeat' ((first | refine awD_n rfl fun KK hKK => ?_ | refine awD_g rfl rfl fun KK hKK => ?_ | refine awD_gc rfl fun KK hKK => ?_ | refine awD_nc fun KK hKK => ?_); simp (disch := omega) only [bb, bt, zDs, zD, eqCells, simprocAttr, bne_self_eq_false, Int.reduceBNe, Int.reduceBEq, Bool.bne_false, Bool.bne_true, Bool.false_bne, Bool.true_bne, goCDS, callDS_fn, argsZ, argsD, ufa, uf]; (try ((first | with_reducible refine PGive.ret (cc1) ?_ | with_reducible refine PGive.ret (cc2) ?_ | with_reducible refine PGive.ret (cc3) ?_ | with_reducible refine PGive.ret (cc4) ?_); simp (disch := omega) only [bb, bt, zDs, zD, eqCells, simprocAttr, afterDS, bne_self_eq_false, Int.reduceBNe, Int.reduceBEq, Bool.bne_false, Bool.bne_true, Bool.false_bne, Bool.true_bne])); refine hKK _ _ _ ?_; clear hKK KK)); (refine awD_nil ?_); simp only [List.reverse_cons, List.reverse_nil, List.nil_append, List.cons_append]; (refine hKR _ _ (by first | rfl | kernel_rfl) ?_); (try clear hKR KR); (repeat (with_reducible first | refine q1 ?_ | refine q2 ?_ | refine q3 ?_ | refine q4 ?_ | refine q5 ?_ | refine q6 ?_ | (refine q7 ?_ ?_; (focus (with_unfolding_all rfl)))))
  (first | exact hq | (revert hKR; revert KR; exact hq))) : P := h c1 c2 c3 c4 q
set_option linter.unusedSimpArgs false

/-! Comparisons of fractions. -/
theorem cmp_signs {n u D V : Int} (hD : 0 < D) (hV : 0 < V) : ((n < 0 ∧ ¬ u < 0) → cmpV (n, D) (u, V) = -1) ∧ ((¬ n < 0 ∧ u < 0) → cmpV (n, D) (u, V) = 1) := by
  constructor
  · rintro ⟨h1, h2⟩
    have a := Int.mul_neg_of_neg_of_pos h1 hV
    have b := Int.mul_nonneg (show 0 ≤ u by omega) (show 0 ≤ D by omega)
    unfold cmpV
    rw [if_pos (by simp only; omega)]
  · rintro ⟨h1, h2⟩
    have a := Int.mul_neg_of_neg_of_pos h2 hD
    have b := Int.mul_nonneg (show 0 ≤ n by omega) (show 0 ≤ V by omega)
    unfold cmpV
    rw [if_neg (by simp only; omega), if_pos (by simp only; omega)]
theorem cmp_pos {n u : Int} {D V : Nat} (h1 : ¬ n < 0) (h2 : ¬ u < 0) : cmpV (n, (D : Int)) (u, (V : Int)) = if n.natAbs * V < u.natAbs * D then -1 else if u.natAbs * D < n.natAbs * V then 1 else 0 := by
  have e1 : n * (V : Int) = ((n.natAbs * V : Nat) : Int) := by rw [Int.natCast_mul, Int.natAbs_of_nonneg (by omega)]
  have e2 : u * (D : Int) = ((u.natAbs * D : Nat) : Int) := by rw [Int.natCast_mul, Int.natAbs_of_nonneg (by omega)]
  unfold cmpV
  simp only [e1, e2, Int.ofNat_lt]
theorem cmp_neg {n u : Int} {D V : Nat} (h1 : n < 0) (h2 : u < 0) : cmpV (n, (D : Int)) (u, (V : Int)) = if u.natAbs * D < n.natAbs * V then -1 else if n.natAbs * V < u.natAbs * D then 1 else 0 := by
  have e1 : n * (V : Int) = -((n.natAbs * V : Nat) : Int) := by
    rw [Int.natCast_mul, ← Int.neg_mul]
    congr 1
    omega
  have e2 : u * (D : Int) = -((u.natAbs * D : Nat) : Int) := by
    rw [Int.natCast_mul, ← Int.neg_mul]
    congr 1
    omega
  unfold cmpV
  simp only [e1, e2]
  generalize u.natAbs * D = A
  generalize n.natAbs * V = B
  by_cases h : A < B
  · rw [if_pos h, if_pos (by omega)]
  · rw [if_neg h, if_neg (by omega)]
    by_cases h' : B < A
    · rw [if_pos h', if_pos (by omega)]
    · rw [if_neg h', if_neg (by omega)]
set_option maxHeartbeats 2000000 in
theorem rCmp (a b : Int × Int) : PRet Tryz.prog 111 [frD a, frD b] (.tup [int (cmpP a b).1, int (cmpP a b).2]) := by
  obtain ⟨n, d⟩ := a
  obtain ⟨u, v⟩ := b
  have va := rValid n d
  have vb := rValid u v
  refine PRet.intro 2 fun t => ACall.enter tab_ok Tryz.func111 rfl rfl Tryz.ntmps111 (by simp) ?_
  simp only [enterTM]
  cases ha : vfrac n d
  · rw [ha] at va
    have e : cmpP (n, d) (u, v) = (0, 1) := by unfold cmpP; rw [if_neg (by simp [ha])]
    ((refine gga1 va ?_))
    ((repeat refine AW_seq ?_); (refine wta ?_); simp (disch := omega) only [retQ, resD, oneD, rsv, rs, rsL, rsL_eq_map, List.map_map, bb, bt, zDs, zD, eqCells, simprocAttr, Tryz.results111, e])
  rw [ha] at va
  cases hb : vfrac u v
  · rw [hb] at vb
    have e : cmpP (n, d) (u, v) = (0, 1) := by unfold cmpP; rw [if_neg (by simp [hb])]
    ((refine gga2 va vb ?_))
    ((repeat refine AW_seq ?_); (refine wta ?_); simp (disch := omega) only [retQ, resD, oneD, rsv, rs, rsL, rsL_eq_map, List.map_map, bb, bt, zDs, zD, eqCells, simprocAttr, Tryz.results111, e])
  rw [hb] at vb
  rw [cmpP_ok ha hb]
  obtain ⟨a1, a2, a3, a4, a5⟩ := fr_bounds ha
  obtain ⟨b1, b2, b3, b4, b5⟩ := fr_bounds hb
  obtain ⟨D, rfl⟩ : ∃ D : Nat, d = (D : Int) := ⟨d.toNat, by omega⟩
  obtain ⟨V, rfl⟩ : ∃ V : Nat, v = (V : Int) := ⟨v.toNat, by omega⟩
  obtain ⟨g1, g2⟩ := cmp_signs (n := n) (u := u) (D := (D : Int)) (V := (V : Int)) (by omega) (by omega)
  have hpos := fun h1 h2 => cmp_pos (n := n) (u := u) (D := D) (V := V) h1 h2
  have hneg := fun h1 h2 => cmp_neg (n := n) (u := u) (D := D) (V := V) h1 h2
  have s1 := rSize n (by omega)
  have s2 := rSize u (by omega)
  have p1 := wideProduct n.natAbs V (by omega) (by omega)
  have p2 := wideProduct u.natAbs D (by omega) (by omega)
  have c1 : n.natAbs * V ≤ 1152921504606846976 * 1152921504606846976 := Nat.mul_le_mul (by omega) (by omega)
  have c2 : u.natAbs * D ≤ 1152921504606846976 * 1152921504606846976 := Nat.mul_le_mul (by omega) (by omega)
  have l1 := wideLess (n.natAbs * V) (u.natAbs * D) (by omega) (by omega)
  have l2 := wideLess (u.natAbs * D) (n.natAbs * V) (by omega) (by omega)
  generalize cmpV (n, (D : Int)) (u, (V : Int)) = c at *
  generalize n.natAbs * V = x at *
  generalize u.natAbs * D = y at *
  ((refine gga2 va vb ?_))
  ((repeat refine AW_seq ?_); (refine gdta4_AC s1 s2 p1 p2 ?_))
  ((repeat refine AW_seq ?_))
  refine AW_block ?_
  by_cases hn : n < 0
  · by_cases hu : u < 0
    · rw [hneg hn hu]
      ((refine ggb0 (F := _∧_) ⟨hn, hu⟩ ?_))
      ((repeat refine AW_seq ?_))
      refine AW_block ?_
      by_cases hyx : y < x
      · rw [decide_eq_true hyx] at l2
        ((refine ggb2 (F := _∧_) ⟨hn, hu⟩ l1 l2 ?_))
        ((repeat refine AW_seq ?_); (refine wta ?_); simp (disch := omega) only [retQ, resD, oneD, rsv, rs, rsL, rsL_eq_map, List.map_map, bb, bt, zDs, zD, eqCells, simprocAttr, Tryz.results111, hyx])
      · rw [decide_eq_false hyx] at l2
        by_cases hxy : x < y
        · rw [decide_eq_true hxy] at l1
          ((refine ggb2 (F := _∧_) ⟨hn, hu⟩ l1 l2 ?_))
          ((repeat refine AW_seq ?_); (refine wta ?_); simp (disch := omega) only [retQ, resD, oneD, rsv, rs, rsL, rsL_eq_map, List.map_map, bb, bt, zDs, zD, eqCells, simprocAttr, Tryz.results111, hyx, hxy])
        · rw [decide_eq_false hxy] at l1
          ((refine ggb2 (F := _∧_) ⟨hn, hu⟩ l1 l2 ?_))
          ((repeat refine AW_seq ?_); (refine wta ?_); simp (disch := omega) only [retQ, resD, oneD, rsv, rs, rsL, rsL_eq_map, List.map_map, bb, bt, zDs, zD, eqCells, simprocAttr, Tryz.results111, hyx, hxy])
    · rw [g1 ⟨hn, hu⟩]
      ((refine ggb0 (F := _∧_) ⟨hn, hu⟩ ?_))
      ((repeat refine AW_seq ?_); (refine wta ?_); simp (disch := omega) only [retQ, resD, oneD, rsv, rs, rsL, rsL_eq_map, List.map_map, bb, bt, zDs, zD, eqCells, simprocAttr, Tryz.results111])
  · by_cases hu : u < 0
    · rw [g2 ⟨hn, hu⟩]
      ((refine ggb0 (F := _∧_) ⟨hn, hu⟩ ?_))
      ((repeat refine AW_seq ?_); (refine wta ?_); simp (disch := omega) only [retQ, resD, oneD, rsv, rs, rsL, rsL_eq_map, List.map_map, bb, bt, zDs, zD, eqCells, simprocAttr, Tryz.results111])
    · rw [hpos hn hu]
      ((refine ggb0 (F := _∧_) ⟨hn, hu⟩ ?_))
      ((repeat refine AW_seq ?_))
      refine AW_block ?_
      by_cases hxy : x < y
      · rw [decide_eq_true hxy] at l1
        ((refine ggb2 (F := _∧_) ⟨hn, hu⟩ l1 l2 ?_))
        ((repeat refine AW_seq ?_); (refine wta ?_); simp (disch := omega) only [retQ, resD, oneD, rsv, rs, rsL, rsL_eq_map, List.map_map, bb, bt, zDs, zD, eqCells, simprocAttr, Tryz.results111, hxy])
      · rw [decide_eq_false hxy] at l1
        by_cases hyx : y < x
        · rw [decide_eq_true hyx] at l2
          ((refine ggb2 (F := _∧_) ⟨hn, hu⟩ l1 l2 ?_))
          ((repeat refine AW_seq ?_); (refine wta ?_); simp (disch := omega) only [retQ, resD, oneD, rsv, rs, rsL, rsL_eq_map, List.map_map, bb, bt, zDs, zD, eqCells, simprocAttr, Tryz.results111, hxy, hyx])
        · rw [decide_eq_false hyx] at l2
          ((refine ggb2 (F := _∧_) ⟨hn, hu⟩ l1 l2 ?_))
          ((repeat refine AW_seq ?_); (refine wta ?_); simp (disch := omega) only [retQ, resD, oneD, rsv, rs, rsL, rsL_eq_map, List.map_map, bb, bt, zDs, zD, eqCells, simprocAttr, Tryz.results111, hxy, hyx])
end Go.Proofs.YtjjpjgnoanfaoaaGreat.T

namespace Go.Proofs.YtjjpjgnoanfaoaaGreat.T
open Go Go.RowKit Lin
theorem gdza_AWK {P Q : Prop} (q : Q) (h : Q → P := by
  intro  hq
  (try with_reducible intro KR hKR)
  (repeat refine AW_seq ?_); (repeat refine AW_seq ?_); (refine AW_drawn_k tab_ok follows_mixed 0 fun KR hKR => ?_); simp only [List.replicate_succ, List.replicate_zero, List.append_nil, List.nil_append, List.cons_append, List.length_cons, List.length_nil, Nat.reduceAdd]; (repeat' ((first | refine awD_n rfl fun KK hKK => ?_ | refine awD_g rfl rfl fun KK hKK => ?_ | refine awD_gc rfl fun KK hKK => ?_ | refine awD_nc fun KK hKK => ?_); simp (disch := omega) only [bb, bt, zDs, zD, eqCells, simprocAttr, bne_self_eq_false, Int.reduceBNe, Int.reduceBEq, Bool.bne_false, Bool.bne_true, Bool.false_bne, Bool.true_bne]; refine hKK _ _ _ ?_; clear hKK KK)); (refine awD_nil ?_); simp only [List.reverse_cons, List.reverse_nil, List.nil_append, List.cons_append]; (refine hKR _ _ (by first | rfl | kernel_rfl) ?_); (try clear hKR KR); (repeat (with_reducible first | refine q1 ?_ | refine q2 ?_ | refine q3 ?_ | refine q4 ?_ | refine q5 ?_ | refine q6 ?_ | (refine q7 ?_ ?_; (focus (with_unfolding_all rfl)))))
  (first | exact hq | (revert hKR; revert KR; exact hq))) : P := h  q
set_option linter.unusedSimpArgs false

/-! Chapter 13: the program. -/
theorem whole13 (n : Int) : PRet Tryz.prog 97 [int n] (frD (n, 1)) := by
  refine PRet.intro 1 fun t => ACall.enter tab_ok Tryz.func97 rfl rfl Tryz.ntmps97 (by simp) ?_
  simp only [enterTM]
  ((refine gga0 ?_))
  ((repeat refine AW_seq ?_); (refine wta ?_); simp (disch := omega) only [retQ, resD, oneD, rsv, rs, rsL, rsL_eq_map, List.map_map, bb, bt, zDs, zD, eqCells, simprocAttr, Tryz.results97])
set_option maxHeartbeats 1000000 in
theorem cloneB_ (x : Bk) (r : List Bk) (hl : r.length ≤ 1000) : PFresh Tryz.prog 132 [bks (x :: r)] 78 2 (r.length + 1) (bkC (x :: r)) := by
  refine PFresh.intro (plain_bk _) fun t => ACall.enter tab_ok Tryz.func132 rfl rfl Tryz.ntmps132 (by simp) ?_
  simp only [enterTM]
  have f2 : bkC (x :: r) = str x.nm :: int x.w :: bkC r := rfl
  have hcl := cellsC_bk r
  have hld := bkC_div (x :: r)
  have hll := bkC_len (x :: r)
  have f1 : bks (x :: r) = .sl 2 (str x.nm :: int x.w :: bkC r) false := rfl
  rw [f2] at hld hll
  rw [f1, f2]
  simp only [List.length_cons] at hll hld
  ((refine wqa ?_))
  ((refine wqa ?_))
  ((refine wia ?_))
  ((refine wsa ?_))
  ((repeat refine AW_seq ?_); (refine AW_region_k tab_ok fun KR hKR => ?_); (repeat ((first | refine awOps_n rfl fun KK hKK => ?_ | refine awOps_g rfl rfl fun KK hKK => ?_ | refine awOps_gc rfl fun KK hKK => ?_); simp (disch := omega) only [bb, bt, zDs, zD, eqCells, simprocAttr, isSlice, hcl, hld]; refine hKK _ ?_; clear hKK KK)); (refine awOps_nil ?_); (refine hKR _ ?_); (try clear hKR KR); (repeat (with_reducible first | refine q1 ?_ | refine q2 ?_ | refine q3 ?_ | refine q4 ?_ | refine q5 ?_ | refine q6 ?_ | (refine q7 ?_ ?_; (focus (with_unfolding_all rfl))))))
  ((repeat refine AW_seq ?_); (refine wta ?_); simp (disch := omega) only [retQ, resD, oneD, rsv, rs, rsL, rsL_eq_map, List.map_map, bb, bt, zDs, zD, eqCells, simprocAttr, Tryz.results132])
  exact .inr ⟨0, t + 1, rfl, rfl⟩
theorem cloneBs (l : List Bk) (h0 : 1 ≤ l.length) (hl : l.length ≤ 1000) : PFresh Tryz.prog 132 [bks l] 78 2 l.length (bkC l) := by
  cases l with
  | nil => simp at h0
  | cons x r => exact cloneB_ x r (by simp at hl; omega)
theorem unitS_chW (s : Sy) (nm : ByteArray) : chW (fun _ b => if b.nm = nm then 1 else 0) s.bs s.bs.length = (unitS s nm).bs := by
  rw [chW_end]
  refine List.ext_getElem? fun i => ?_
  simp only [unitS, List.getElem?_mapIdx, List.getElem?_map]
  rfl
theorem any_nextU {α : Type} (p : α → Bool) {l : List α} {k : Nat} {x : α} (h : l[k]? = some x) : (l.take (k + 1)).any p = ((l.take k).any p || p x) := by
  rw [List.take_add_one, h, Option.toList_some, List.any_append]
  simp
theorem bkC_one {l : List Bk} {i : Nat} {b : Bk} (h : l[i]? = some b) : ((bkC l).drop (i * 2)).take 1 = [str b.nm] := by
  have := bkC_nm h
  obtain ⟨h1, h2⟩ := List.getElem?_eq_some_iff.1 this
  rw [List.drop_eq_getElem_cons h1, h2]
  rfl
def unitE (s : Sy) (nm : ByteArray) : Sy × Int := if validS s = true then (if findB s.bs nm < 0 then (⟨[], []⟩, 9) else (unitS s nm, 0)) else (⟨[], []⟩, 1)
set_option maxHeartbeats 4000000 in
theorem unit13 (s : Sy) (hf : Fits s) (nm : ByteArray) : PRet Tryz.prog 103 [syD s, str nm] (.tup [syD (unitE s nm).1, int (unitE s nm).2]) := by
  refine PRet.intro 1 fun t => ACall.enter tab_ok Tryz.func103 rfl rfl Tryz.ntmps103 (by simp) ?_
  simp only [enterTM]
  have hV := valid_prog s hf
  cases hv : validS s
  · rw [hv] at hV
    have e : unitE s nm = (⟨[], []⟩, 1) := by simp [unitE, hv]
    ((refine gga1 hV ?_))
    ((repeat refine AW_seq ?_); (refine wta ?_); simp (disch := omega) only [retQ, resD, oneD, rsv, rs, rsL, rsL_eq_map, List.map_map, bb, bt, zDs, zD, eqCells, simprocAttr, Tryz.results103, e])
    rfl
  rw [hv] at hV
  have ok := validS_ok hv
  have hb1 := ok.b1
  have hb6 := ok.b6
  have hC := cloneBs s.bs ok.b1 (by omega)
  have hdb := bkC_div s.bs
  have hlb := bkC_len s.bs
  ((refine gga1 hV ?_))
  intro KR hKR
  ((first | refine awOps_nc fun KK hKK => ?_ | refine awOps_gc rfl fun KK hKK => ?_); simp (disch := omega) only [bb, bt, zDs, zD, eqCells, simprocAttr, goC, callO_fn, argsD, and_self]; refine ACall.of_fresh (hC) (by first | (simp only [List.map_cons, List.map_nil, List.append_nil, List.nil_append, List.cons_append, ufa, uf]; done) | rfl) ?_; simp (disch := omega) only [bb, bt, zDs, zD, eqCells, simprocAttr, afterC]; refine hKK _ ?_; clear hKK KK)
  ((refine wra ?_)); ((refine wea ?_); (try clear hKR KR))
  ((refine ggb0 hdb ?_))
  have hcl := fun (f : Nat → Bk → Int) (k : Nat) => chW_len f s.bs k
  have hun := unitS_chW s nm
  generalize hfe : (fun (_ : Nat) (b : Bk) => if b.nm = nm then (1 : Int) else 0) = f at hun
  ((repeat refine AW_seq ?_))
  refine AW_mid (fun x : Nat => ⟨[(4, .ptr 1 (t + 1 + 1) 0), (6, .ptr 2 (t + 1 + 1 + 1) 0), (7, bool (s.bs.any fun b => decide (b.nm = nm)))], [none, some ⟨25, t + 1 + 1, [.sl 2 [] true, .sl 3 [] true]⟩, some ⟨25, t + 1 + 1 + 1, [.own 2 3 (t + 1 + 1 + 1 + 1) 0 s.bs.length, rps s.rs]⟩, some ⟨78, t + 1 + 1 + 1 + 1, bkC (chW f s.bs s.bs.length)⟩], x⟩) (fun _ => True) ?_ ?_
  · refine AW_block ?_
    refine AW_loop_w (fun x : Nat × Nat => ⟨[(1, str nm), (4, .ptr 1 (t + 1 + 1) 0), (6, .ptr 2 (t + 1 + 1 + 1) 0), (7, bool ((s.bs.take x.1).any fun b => decide (b.nm = nm))), (21, int s.bs.length), (22, int x.1)], [none, some ⟨25, t + 1 + 1, [.sl 2 [] true, .sl 3 [] true]⟩, some ⟨25, t + 1 + 1 + 1, [.own 2 3 (t + 1 + 1 + 1 + 1) 0 s.bs.length, rps s.rs]⟩, some ⟨78, t + 1 + 1 + 1 + 1, bkC (chW f s.bs x.1)⟩], x.2⟩) (fun x => s.bs.length - x.1) (fun x => x.1 ≤ s.bs.length) (0, t + 1 + 1 + 1 + 1) (Nat.zero_le _) (by (simp (disch := omega) only [StLe, tmLe, hpLe_refl, hpLe, bl, bb, bt, zDs, zD, eqCells, simprocAttr, List.take_zero, List.any_nil, chW])) ?_
    rintro ⟨k, tt⟩ hk
    simp only at hk
    by_cases hlt : k < s.bs.length
    · obtain ⟨b, hb⟩ : ∃ y, s.bs[k]? = some y := ⟨_, List.getElem?_eq_getElem hlt⟩
      have hC0 := chW_at (f := f) hb
      have hst := chW_set (f := f) hb
      have hsa := any_nextU (fun b => decide (b.nm = nm)) hb
      have hlc := bkC_len (chW f s.bs k)
      rw [hcl] at hlc
      have hw1 := bkC_wt hC0 0
      have hD0 : ((chW f s.bs k).set k ⟨b.nm, 0⟩)[k]? = some ⟨b.nm, 0⟩ := List.getElem?_set_self (by rw [hcl]; exact hlt)
      have hnm := bkC_nm hD0
      have hn1 := bkC_one hD0
      have hw2 := bkC_wt hD0 1
      rw [List.set_set] at hw2
      have hld := bkC_len ((chW f s.bs k).set k ⟨b.nm, 0⟩)
      rw [List.length_set, hcl] at hld
      cases he : decide (b.nm = nm)
      · have hf0 : f k b = 0 := by rw [← hfe]; exact if_neg (by simpa using he)
        rw [hf0] at hst
        rw [he, Bool.or_false] at hsa
        ((refine ggb0 (F := _∧_) ⟨@Int.ofNat_lt, hlt⟩ ?_))
        ((repeat refine AW_seq ?_))
        refine AW_block ?_
        ((refine ggb0 (F := _∧_∧_∧_∧_∧_∧_) ⟨hlt, hlc, hw1, hnm, hn1, hld, he⟩ ?_))
        refine ⟨(k + 1, tt), hlt, by show s.bs.length - (k + 1) < s.bs.length - k; omega, ?_⟩
        simp only [hst, hsa]
        (simp (disch := omega) only [StLe, tmLe, hpLe_refl, hpLe, bl, bb, bt, zDs, zD, eqCells, simprocAttr])
      · have hf1 : f k b = 1 := by rw [← hfe]; exact if_pos (by simpa using he)
        rw [hf1] at hst
        rw [he, Bool.or_true] at hsa
        ((refine ggb0 (F := _∧_) ⟨@Int.ofNat_lt, hlt⟩ ?_))
        ((repeat refine AW_seq ?_))
        refine AW_block ?_
        ((refine ggb0 (F := _∧_∧_∧_∧_∧_∧_∧_) ⟨hlt, hlc, hw1, hnm, hn1, hld, he, hw2⟩ ?_))
        refine ⟨(k + 1, tt), hlt, by show s.bs.length - (k + 1) < s.bs.length - k; omega, ?_⟩
        simp only [hst, hsa]
        (simp (disch := omega) only [StLe, tmLe, hpLe_refl, hpLe, bl, bb, bt, zDs, zD, eqCells, simprocAttr])
    · have hke : k = s.bs.length := by omega
      subst hke
      rw [List.take_length]
      ((refine wqb @Int.lt_irrefl ?_))
      ((refine wia ?_))
      ((refine wxa ?_))
      exact ⟨tt, trivial, by (simp (disch := omega) only [StLe, tmLe, hpLe_refl, hpLe, bl, bb, bt, zDs, zD, eqCells, simprocAttr])⟩
  rintro tt -
  rw [hun]
  obtain ⟨x1, x2⟩ := idx_lt (fun b : Bk => decide (b.nm = nm)) s.bs 0
  cases ha : s.bs.any (fun b => decide (b.nm = nm))
  · have hfb : findB s.bs nm < 0 := by unfold findB; rw [x2 ha]; omega
    have e : unitE s nm = (⟨[], []⟩, 9) := by simp [unitE, hv, hfb]
    ((refine gga0 ?_))
    ((repeat refine AW_seq ?_); (refine wta ?_); simp (disch := omega) only [retQ, resD, oneD, rsv, rs, rsL, rsL_eq_map, List.map_map, bb, bt, zDs, zD, eqCells, simprocAttr, Tryz.results103, e])
    rfl
  · have hfb : ¬ findB s.bs nm < 0 := by
      obtain ⟨k, x, hk, _⟩ := x1 ha
      unfold findB
      rw [hk]
      omega
    have e : unitE s nm = (unitS s nm, 0) := by simp [unitE, hv, hfb]
    have hul := unit_len s nm
    have hlu := bkC_len (unitS s nm).bs
    rw [hul] at hlu
    have hfin : List.take (s.bs.length * 2) (bkC (unitS s nm).bs) = bkC (unitS s nm).bs := List.take_of_length_le (by omega)
    have er : (unitS s nm).rs = s.rs := rfl
    rw [e]
    ((refine AW.freeze (3) (by first | rfl | (simp only [setH, List.getElem?_cons_zero, List.getElem?_cons_succ, fz_bk, fz_rp, hfin, hlu, Nat.le_refl]; done)) ?_); simp (disch := omega) only [fzT, fz, fzL, fzL_ints, fzL_mat, fzH, fzB, eq_self, bb, bt, zDs, zD, eqCells, simprocAttr, fz_bk, fz_rp, hfin, hlu, Nat.le_refl])
    ((refine gga0 ?_))
    ((repeat refine AW_seq ?_); (refine wta ?_); simp (disch := omega) only [retQ, resD, oneD, bb, bt, zDs, zD, eqCells, simprocAttr, Tryz.results103])
    rw [← er]
    exact rsv_tidy _ _ (by simp only [tidyD, tidyL, tidy_bk, tidy_rp, Bool.not_false, Bool.and_self])
theorem over13 (n : Int) (s : Sy) (hf : Fits s) : PRet Tryz.prog 104 [int n, syD s] (fe (overN n s)) := by
  refine PRet.intro 1 fun t => ACall.enter tab_ok Tryz.func104 rfl rfl Tryz.ntmps104 (by simp) ?_
  simp only [enterTM]
  have hH := haul_prog s hf
  have hW := whole13 n
  have hD := rDiv (n, 1) (haulP s).1
  unfold overN
  generalize haulP s = X at *
  cases hx : (X.2 == 0)
  · have e1 : (X.2 != 0) = true := by simpa using hx
    rw [if_neg (by simpa using hx)]
    ((refine ggb1 e1 hH ?_))
    ((repeat refine AW_seq ?_); (refine wta ?_); simp (disch := omega) only [retQ, resD, oneD, rsv, rs, rsL, rsL_eq_map, List.map_map, bb, bt, zDs, zD, eqCells, simprocAttr, Tryz.results104])
  · have e1 : (X.2 != 0) = false := by simpa using hx
    rw [if_pos (by simpa using hx)]
    generalize divP (n, 1) X.1 = Y at *
    ((refine ggb1 e1 hH ?_))
    ((repeat refine AW_seq ?_); (refine gdza2 hW hD ?_))
    ((repeat refine AW_seq ?_); (refine wta ?_); simp (disch := omega) only [retQ, resD, oneD, rsv, rs, rsL, rsL_eq_map, List.map_map, bb, bt, zDs, zD, eqCells, simprocAttr, Tryz.results104])
theorem unit_fits {s : Sy} (hf : Fits s) (nm : ByteArray) : Fits (unitE s nm).1 := by
  unfold unitE
  split
  · split
    · exact small_fits rfl
    · exact ⟨by rw [unit_len]; exact hf.nb, hf.nr, fun b hb => by
        obtain ⟨c, hc, rfl⟩ := List.mem_map.1 hb
        exact hf.sb c hc, hf.sr⟩
  · exact small_fits rfl
theorem forces13 (s : Sy) (hf : Fits s) (nm : ByteArray) : PRet Tryz.prog 33 [syD s, str nm] (fe (forP s nm)) := by
  refine PRet.intro 1 fun t => ACall.enter tab_ok Tryz.func33 rfl rfl Tryz.ntmps33 (by simp) ?_
  simp only [enterTM]
  have hU := unit13 s hf nm
  have hO := over13 1 _ (unit_fits hf nm)
  have e : forP s nm = if (unitE s nm).2 = 0 then overN 1 (unitE s nm).1 else ((0, 0), (unitE s nm).2) := by
    unfold forP unitE
    split
    · split
      · rfl
      · rfl
    · rfl
  rw [e]
  generalize unitE s nm = X at *
  cases hx : (X.2 == 0)
  · have e1 : (X.2 != 0) = true := by simpa using hx
    rw [if_neg (by simpa using hx)]
    ((refine ggb1 e1 hU ?_))
    ((repeat refine AW_seq ?_); (refine wta ?_); simp (disch := omega) only [retQ, resD, oneD, rsv, rs, rsL, rsL_eq_map, List.map_map, bb, bt, zDs, zD, eqCells, simprocAttr, Tryz.results33])
  · have e1 : (X.2 != 0) = false := by simpa using hx
    rw [if_pos (by simpa using hx)]
    generalize overN 1 X.1 = Y at *
    ((refine ggb2 e1 hU hO ?_))
    ((repeat refine AW_seq ?_); (refine wta ?_); simp (disch := omega) only [retQ, resD, oneD, rsv, rs, rsL, rsL_eq_map, List.map_map, bb, bt, zDs, zD, eqCells, simprocAttr, Tryz.results33])
theorem travels13 (s : Sy) (hf : Fits s) (nm : ByteArray) : PRet Tryz.prog 34 [syD s, str nm] (fe (travP s nm)) := by
  refine PRet.intro 1 fun t => ACall.enter tab_ok Tryz.func34 rfl rfl Tryz.ntmps34 (by simp) ?_
  simp only [enterTM]
  have hT := travel_prog s hf nm
  generalize travP s nm = X at *
  ((refine gga1 hT ?_))
  ((repeat refine AW_seq ?_); (refine wta ?_); simp (disch := omega) only [retQ, resD, oneD, rsv, rs, rsL, rsL_eq_map, List.map_map, bb, bt, zDs, zD, eqCells, simprocAttr, Tryz.results34])
theorem work13_1 (r : Rp) : PRet Tryz.prog 96 [.agg (rp1 r)] (bool r.hl) := by
  refine PRet.intro 1 fun t => ACall.enter tab_ok Tryz.func96 rfl rfl Tryz.ntmps96 (by simp) ?_
  simp only [enterTM]
  ((refine gga0 ?_))
  ((repeat refine AW_seq ?_); (refine wta ?_); simp (disch := omega) only [retQ, resD, oneD, rsv, rs, rsL, rsL_eq_map, List.map_map, bb, bt, zDs, zD, eqCells, simprocAttr, Tryz.results96])
set_option maxRecDepth 100000 in
set_option maxHeartbeats 8000000 in
theorem work13 (s : Sy) (hf : Fits s) (h : List Int) (hl : h.length ≤ 1000000) : PRet Tryz.prog 31 [syD s, ints h] (.tup [frD (workP s h).1, frD (workP s h).2.1, int (workP s h).2.2]) := by
  refine PRet.intro 1 fun t => ACall.enter tab_ok Tryz.func31 rfl rfl Tryz.ntmps31 (by simp) ?_
  simp only [enterTM]
  have hS := speeds_prog s hf h hl
  have hH := haul_prog s hf
  unfold workP
  by_cases h1 : (speedsP s h).2 = 0
  rotate_left 1
  · have e1 : ((speedsP s h).2 != 0) = true := by simpa using h1
    rw [if_neg h1]
    generalize speedsP s h = X at *
    ((refine ggb1 e1 hS ?_))
    ((repeat refine AW_seq ?_); (refine wta ?_); simp (disch := omega) only [retQ, resD, oneD, rsv, rs, rsL, rsL_eq_map, List.map_map, bb, bt, zDs, zD, eqCells, simprocAttr, Tryz.results31])
  have e1 : ((speedsP s h).2 != 0) = false := by simpa using h1
  rw [if_pos h1]
  by_cases h2 : (haulP s).2 = 0
  rotate_left 1
  · have e2 : ((haulP s).2 != 0) = true := by simpa using h2
    rw [if_neg h2]
    generalize speedsP s h = X at *
    generalize haulP s = Y at *
    ((refine ggb2 (F := _∧_) ⟨e1, e2⟩ hS hH ?_))
    ((repeat refine AW_seq ?_); (refine wta ?_); simp (disch := omega) only [retQ, resD, oneD, rsv, rs, rsL, rsL_eq_map, List.map_map, bb, bt, zDs, zD, eqCells, simprocAttr, Tryz.results31])
  have e2 : ((haulP s).2 != 0) = false := by simpa using h2
  rw [if_pos h2]
  obtain ⟨hv, htz, i, r, ei, hr, hh, _, Z, D, hD, hZ, hVt⟩ := haulP_val h2
  have ok := validS_ok hv
  obtain ⟨X', E, hE, hX, hvl, hV⟩ := speedsP_val h1
  obtain ⟨hg, _⟩ := speedsP_full h1
  obtain ⟨_, hhl, hp⟩ := givH_zero hg
  have hil := (List.getElem?_eq_some_iff.1 hr).1
  have hih : i < h.length := by omega
  obtain ⟨n, hn⟩ : ∃ y, h[i]? = some y := ⟨_, List.getElem?_eq_getElem hih⟩
  have eh : h.getD (hix s).toNat 0 = n := by rw [ei, Int.toNat_natCast, List.getD_eq_getElem?_getD, hn]; rfl
  rw [eh]
  have hI := indexFuncRp s.rs 96 [] (fun r => r.hl) hf.nr (fun x _ => work13_1 x)
  have eI : idx (fun r : Rp => r.hl) s.rs 0 = hix s := rfl
  rw [eI, ei] at hI
  have hW := whole13 n
  have hM := rMul (haulP s).1 (n, 1)
  have hav : allV (speedsP s h).1 = true := allV_of hV
  have hw0 := whole13 0
  have hdb := bkC_div s.bs
  have hb6 := ok.b6
  clear hZ hX hV hVt htz hg hp
  generalize speedsP s h = V at *
  generalize haulP s = T at *
  obtain ⟨v, ve⟩ := V
  obtain ⟨tf, te⟩ := T
  simp only at *
  subst h1
  subst h2
  generalize mulP tf (n, 1) = M at *
  ((refine gga3 hS hH hI ?_))
  ((repeat refine AW_seq ?_); (refine gdob2 (F := _∧_) ⟨hih, hn⟩ hW hM ?_))
  by_cases hm : M.2 = 0
  rotate_left 1
  · have e3 : (M.2 != 0) = true := by simpa using hm
    rw [if_neg hm]
    ((refine ggb0 e3 ?_))
    ((repeat refine AW_seq ?_); (refine wta ?_); simp (disch := omega) only [retQ, resD, oneD, rsv, rs, rsL, rsL_eq_map, List.map_map, bb, bt, zDs, zD, eqCells, simprocAttr, Tryz.results31])
  have e3 : (M.2 != 0) = false := by simpa using hm
  rw [if_pos hm]
  ((refine ggb1 (F := _∧_) ⟨e3, hdb⟩ hw0 ?_))
  have hvd := frC_div v
  generalize hdd : dotF (wtsS s) v (0, 1) = R at *
  ((repeat refine AW_seq ?_))
  refine AW_mid (fun x : Nat => ⟨[(4, .ptr 1 (t + 1 + 1) 0), (5, .ptr 2 (t + 1 + 1 + 1) 0), (11, .ptr 4 (t + 1 + 1 + 1 + 1 + 1) 0), (12, .ptr 5 (t + 1 + 1 + 1 + 1 + 1 + 1) 0)], [none, some ⟨43, t + 1 + 1, [int 0, int 0]⟩, some ⟨43, t + 1 + 1 + 1, [int 0, int 0]⟩, none, some ⟨43, t + 1 + 1 + 1 + 1 + 1, [int M.1.1, int M.1.2]⟩, some ⟨43, t + 1 + 1 + 1 + 1 + 1 + 1, [int R.1.1, int R.1.2]⟩], x⟩) (fun _ => R.2 = 0) ?_ ?_
  · refine AW_block ?_
    refine AW_loop_w (fun x : (Int × Int) × Nat × Nat => ⟨[(4, .ptr 1 (t + 1 + 1) 0), (5, .ptr 2 (t + 1 + 1 + 1) 0), (7, frs v), (11, .ptr 4 (t + 1 + 1 + 1 + 1 + 1) 0), (12, .ptr 5 (t + 1 + 1 + 1 + 1 + 1 + 1) 0), (58, bks s.bs), (59, int s.bs.length), (60, int x.2.1)], [none, some ⟨43, t + 1 + 1, [int 0, int 0]⟩, some ⟨43, t + 1 + 1 + 1, [int 0, int 0]⟩, none, some ⟨43, t + 1 + 1 + 1 + 1 + 1, [int M.1.1, int M.1.2]⟩, some ⟨43, t + 1 + 1 + 1 + 1 + 1 + 1, [int x.1.1, int x.1.2]⟩], x.2.2⟩) (fun x => s.bs.length - x.2.1) (fun x => x.2.1 ≤ s.bs.length ∧ dotF ((wtsS s).drop x.2.1) (v.drop x.2.1) x.1 = R) ((0, 1), 0, t + 1 + 1 + 1 + 1 + 1 + 1) ⟨Nat.zero_le _, hdd⟩ (by (simp (disch := omega) only [StLe, tmLe, hpLe_refl, hpLe, bl, bb, bt, zDs, zD, eqCells, simprocAttr])) ?_
    rintro ⟨c, k, tt⟩ ⟨hk, hd⟩
    simp only at hk hd
    by_cases hlt : k < s.bs.length
    · obtain ⟨b, hb⟩ : ∃ y, s.bs[k]? = some y := ⟨_, List.getElem?_eq_getElem hlt⟩
      obtain ⟨f, hfk⟩ : ∃ y, v[k]? = some y := ⟨_, List.getElem?_eq_getElem (by omega)⟩
      have hwk : (wtsS s)[k]? = some b.w := by simp [wtsS, hb]
      have hra := bkC_read s.bs k b hb
      have hrf := frC_read v k f hfk
      have hkv : k < v.length := by omega
      rw [dotF_plus hwk hfk] at hd
      have hW2 := whole13 b.w
      have hM2 := rMul (b.w, 1) f
      unfold plusP at hd
      generalize mulP (b.w, 1) f = Y at *
      ((refine ggb0 (F := _∧_) ⟨@Int.ofNat_lt, hlt⟩ ?_))
      ((repeat refine AW_seq ?_))
      refine AW_block ?_
      ((refine ggb0 (F := _∧_∧_) ⟨hlt, hdb, hra⟩ ?_))
      ((repeat refine AW_seq ?_); (refine gdob2 (F := _∧_∧_) ⟨hkv, hvd, hrf⟩ hW2 hM2 ?_))
      by_cases hy : Y.2 = 0
      rotate_left 1
      · have e4 : (Y.2 == 0) = false := by simpa using hy
        have e5 : (Y.2 != 0) = true := by simpa using hy
        rw [if_neg hy, if_neg hy] at hd
        subst hd
        rw [if_neg hy]
        ((refine ggb0 (F := _∧_) ⟨e4, e5⟩ ?_))
        ((repeat refine AW_seq ?_); (refine wta ?_); simp (disch := omega) only [retQ, resD, oneD, rsv, rs, rsL, rsL_eq_map, List.map_map, bb, bt, zDs, zD, eqCells, simprocAttr, Tryz.results31])
      have e4 : (Y.2 == 0) = true := by simpa using hy
      rw [if_pos hy] at hd
      have hA := rAdd c Y.1
      generalize addP c Y.1 = Q at *
      by_cases hq : Q.2 = 0
      rotate_left 1
      · have e5 : (Q.2 != 0) = true := by simpa using hq
        rw [if_neg hq] at hd
        subst hd
        rw [if_neg hq]
        ((refine ggb1 (F := _∧_) ⟨e4, e5⟩ hA ?_))
        ((repeat refine AW_seq ?_); (refine wta ?_); simp (disch := omega) only [retQ, resD, oneD, rsv, rs, rsL, rsL_eq_map, List.map_map, bb, bt, zDs, zD, eqCells, simprocAttr, Tryz.results31])
      have e5 : (Q.2 != 0) = false := by simpa using hq
      rw [if_pos hq] at hd
      ((refine ggb1 (F := _∧_) ⟨e4, e5⟩ hA ?_))
      refine ⟨(Q.1, k + 1, tt + 1 + 1), ⟨hlt, hd⟩, by show s.bs.length - (k + 1) < s.bs.length - k; omega, ?_⟩
      (simp (disch := omega) only [StLe, tmLe, hpLe_refl, hpLe, bl, bb, bt, zDs, zD, eqCells, simprocAttr])
    · have hke : k = s.bs.length := by omega
      subst hke
      have hde : dotF ((wtsS s).drop s.bs.length) (v.drop s.bs.length) c = (c, 0) := by
        have hdn : v.drop s.bs.length = [] := List.drop_eq_nil_of_le (by omega)
        rw [hdn]
        cases (wtsS s).drop s.bs.length <;> rfl
      rw [hde] at hd
      subst hd
      ((refine wqb @Int.lt_irrefl ?_))
      ((refine wia ?_))
      ((refine wxa ?_))
      exact ⟨tt, rfl, by (simp (disch := omega) only [StLe, tmLe, hpLe_refl, hpLe, bl, bb, bt, zDs, zD, eqCells, simprocAttr])⟩
  rintro tt hR
  rw [if_pos hR]
  ((repeat refine AW_seq ?_))
  ((repeat refine AW_seq ?_); (refine gdza_AWK ?_))
  ((repeat refine AW_seq ?_); (refine wta ?_); simp (disch := omega) only [retQ, resD, oneD, rsv, rs, rsL, rsL_eq_map, List.map_map, bb, bt, zDs, zD, eqCells, simprocAttr, Tryz.results31])
def cntB (s : Sy) (b : Bk) : Int := if 0 < b.w ∧ b.w ≤ 16777216 ∧ s.bs.length ≤ 6 then b.w else 0
def cntS (s : Sy) (k : Nat) : Int := ((s.bs.take k).map (cntB s)).sum
theorem cntS_step {s : Sy} {k : Nat} {b : Bk} (h : s.bs[k]? = some b) : cntS s (k + 1) = cntS s k + cntB s b := by
  unfold cntS
  rw [List.take_add_one, h, Option.toList_some, List.map_append, List.sum_append]
  simp
theorem cntS_le (s : Sy) : ∀ k, 0 ≤ cntS s k ∧ cntS s k ≤ k * 16777216
  | 0 => by simp [cntS]
  | k + 1 => by
    have ih := cntS_le s k
    cases h : s.bs[k]? with
    | none =>
      have e : cntS s (k + 1) = cntS s k := by
        unfold cntS
        rw [List.take_add_one, h]
        simp
      rw [e]
      omega
    | some b =>
      rw [cntS_step h]
      unfold cntB
      split <;> omega
theorem cntS_is {s : Sy} (hv : validS s = true) : cntS s s.bs.length = sumW s := by
  have ok := validS_ok hv
  unfold cntS sumW wtsS
  rw [List.take_length]
  congr 1
  refine List.map_congr_left fun b hb => ?_
  have := ok.wts b hb
  have := ok.b6
  unfold cntB
  split <;> omega
theorem over_cnt (s : Sy) : overN (cntS s s.bs.length) s = ratP s := by
  unfold ratP
  by_cases hv : validS s = true
  · rw [cntS_is hv]
  · have e : haulP s = ((0, 0), 1) := by
      unfold haulP tensP
      rw [if_neg hv, if_neg (by decide)]
    unfold overN
    rw [e]
    rfl
set_option maxHeartbeats 4000000 in
theorem ratio13 (s : Sy) (hf : Fits s) : PRet Tryz.prog 35 [syD s] (fe (ratP s)) := by
  refine PRet.intro 1 fun t => ACall.enter tab_ok Tryz.func35 rfl rfl Tryz.ntmps35 (by simp) ?_
  simp only [enterTM]
  have hO := over13 (cntS s s.bs.length) s hf
  rw [over_cnt] at hO
  have hdb := bkC_div s.bs
  have hnb := hf.nb
  have hz0 : cntS s 0 = 0 := rfl
  generalize ratP s = Y at *
  ((refine ggb0 hdb ?_))
  ((repeat refine AW_seq ?_))
  refine AW_mid (fun x : Nat => ⟨[(1, .ptr 0 (t + 1) 0), (2, .ptr 1 (t + 1 + 1) 0), (4, int (cntS s s.bs.length))], [some ⟨25, t + 1, [bks s.bs, rps s.rs]⟩, some ⟨43, t + 1 + 1, [int 0, int 0]⟩], x⟩) (fun _ => True) ?_ ?_
  · refine AW_block ?_
    refine AW_loop_w (fun x : Nat × Nat => ⟨[(1, .ptr 0 (t + 1) 0), (2, .ptr 1 (t + 1 + 1) 0), (4, int (cntS s x.1)), (8, bks s.bs), (9, int s.bs.length), (10, int x.1)], [some ⟨25, t + 1, [bks s.bs, rps s.rs]⟩, some ⟨43, t + 1 + 1, [int 0, int 0]⟩], x.2⟩) (fun x => s.bs.length - x.1) (fun x => x.1 ≤ s.bs.length) (0, t + 1 + 1) (Nat.zero_le _) (by (simp (disch := omega) only [StLe, tmLe, hpLe_refl, hpLe, bl, bb, bt, zDs, zD, eqCells, simprocAttr, hz0])) ?_
    rintro ⟨k, tt⟩ hk
    simp only at hk
    by_cases hlt : k < s.bs.length
    · obtain ⟨b, hb⟩ : ∃ y, s.bs[k]? = some y := ⟨_, List.getElem?_eq_getElem hlt⟩
      have hra := bkC_read s.bs k b hb
      have hst := cntS_step hb
      have hle := cntS_le s k
      unfold cntB at hst
      generalize cntS s k = c at *
      ((refine ggb0 (F := _∧_) ⟨@Int.ofNat_lt, hlt⟩ ?_))
      ((repeat refine AW_seq ?_))
      refine AW_block ?_
      by_cases c1 : 0 < b.w
      · by_cases c2 : b.w ≤ 16777216
        · by_cases c3 : s.bs.length ≤ 6
          · have c3' : (s.bs.length : Int) ≤ 6 := by omega
            rw [if_pos ⟨c1, c2, c3⟩] at hst
            ((refine ggb0 (F := _∧_∧_∧_∧_∧_) ⟨hlt, hdb, hra, c1, c2, c3'⟩ ?_))
            refine ⟨(k + 1, tt + 1), hlt, by show s.bs.length - (k + 1) < s.bs.length - k; omega, ?_⟩
            simp only [hst]
            (simp (disch := omega) only [StLe, tmLe, hpLe_refl, hpLe, bl, bb, bt, zDs, zD, eqCells, simprocAttr])
          · have c3' : ¬ (s.bs.length : Int) ≤ 6 := by omega
            rw [if_neg (by omega), Int.add_zero] at hst
            ((refine ggb0 (F := _∧_∧_∧_∧_∧_) ⟨hlt, hdb, hra, c1, c2, c3'⟩ ?_))
            refine ⟨(k + 1, tt + 1), hlt, by show s.bs.length - (k + 1) < s.bs.length - k; omega, ?_⟩
            simp only [hst]
            (simp (disch := omega) only [StLe, tmLe, hpLe_refl, hpLe, bl, bb, bt, zDs, zD, eqCells, simprocAttr])
        · rw [if_neg (by omega), Int.add_zero] at hst
          ((refine ggb0 (F := _∧_∧_∧_∧_) ⟨hlt, hdb, hra, c1, c2⟩ ?_))
          refine ⟨(k + 1, tt + 1), hlt, by show s.bs.length - (k + 1) < s.bs.length - k; omega, ?_⟩
          simp only [hst]
          (simp (disch := omega) only [StLe, tmLe, hpLe_refl, hpLe, bl, bb, bt, zDs, zD, eqCells, simprocAttr])
      · rw [if_neg (by omega), Int.add_zero] at hst
        ((refine ggb0 (F := _∧_∧_∧_) ⟨hlt, hdb, hra, c1⟩ ?_))
        refine ⟨(k + 1, tt + 1), hlt, by show s.bs.length - (k + 1) < s.bs.length - k; omega, ?_⟩
        simp only [hst]
        (simp (disch := omega) only [StLe, tmLe, hpLe_refl, hpLe, bl, bb, bt, zDs, zD, eqCells, simprocAttr])
    · have hke : k = s.bs.length := by omega
      subst hke
      ((refine wqb @Int.lt_irrefl ?_))
      ((refine wia ?_))
      ((refine wxa ?_))
      exact ⟨tt, trivial, by (simp (disch := omega) only [StLe, tmLe, hpLe_refl, hpLe, bl, bb, bt, zDs, zD, eqCells, simprocAttr])⟩
  rintro tt -
  ((refine gga1 hO ?_))
  ((repeat refine AW_seq ?_); (refine wta ?_); simp (disch := omega) only [retQ, resD, oneD, rsv, rs, rsL, rsL_eq_map, List.map_map, bb, bt, zDs, zD, eqCells, simprocAttr, Tryz.results35])
end Go.Proofs.YtjjpjgnoanfaoaaGreat.T

namespace Go.Proofs.YtjjpjgnoanfaoaaGreat.T
open Go Go.RowKit Lin
theorem gga4_AWL {C1 C2 C3 C4 P Q : Prop} (c1 : C1) (c2 : C2) (c3 : C3) (c4 : C4) (q : Q) (h : C1 → C2 → C3 → C4 → Q → P := by
  intro cc1 cc2 cc3 cc4 hq
  (try with_reducible intro KR hKR)
  (repeat' (first | (with_reducible refine AW_seq ?_) | (with_reducible refine AW_region_k tab_ok fun KR hKR => ?_) | ((first | with_reducible refine AW_skip ?_ | with_reducible refine AW_exit ?_ | ((with_reducible refine awOps_nil ?_); refine hKR _ ?_; (try clear hKR KR))); (repeat (with_reducible first | refine q1 ?_ | refine q2 ?_ | refine q3 ?_ | refine q4 ?_ | refine q5 ?_ | refine q6 ?_ | (refine q7 ?_ ?_; (focus (with_unfolding_all rfl)))))) | ((first | ((with_reducible refine at_ops ?_); (first | refine awOps_n rfl fun KK hKK => ?_ | refine awOps_g rfl rfl fun KK hKK => ?_ | refine awOps_gc rfl fun KK hKK => ?_ | refine awOps_nc fun KK hKK => ?_)) | with_reducible refine AW_cond_k (tab := tab) fun KK hKK => ?_); simp (disch := omega) only [bb, bt, zDs, zD, eqCells, simprocAttr, bne_self_eq_false, Int.reduceBNe, Int.reduceBEq, Bool.bne_false, Bool.bne_true, Bool.false_bne, Bool.true_bne, goC, callO_fn, argsD, and_self]; (try ((first | (with_reducible refine ACall.of_pret (cc1) ?_ ?_; (focus (first | (simp only [um]; done) | rfl))) | (with_reducible refine ACall.of_pret (cc2) ?_ ?_; (focus (first | (simp only [um]; done) | rfl))) | (with_reducible refine ACall.of_pret (cc3) ?_ ?_; (focus (first | (simp only [um]; done) | rfl))) | (with_reducible refine ACall.of_pret (cc4) ?_ ?_; (focus (first | (simp only [um]; done) | rfl)))); simp only [afterC, St.put, putTM, ↓reduceIte, Nat.reduceEqDiff])); refine hKK _ ?_; clear hKK KK; (first | with_reducible refine at_ops ?_ | with_reducible refine i1 ?_ | with_reducible refine i0 ?_))))
  (first | exact hq | (revert hKR; revert KR; exact hq))) : P := h c1 c2 c3 c4 q
set_option linter.unusedSimpArgs false

/-! Chapter 13: what its laws use. -/
theorem f13 (n : Int) : PRet Tryz.prog 94 [int n] (frD (n, 1)) := by
  refine PRet.intro 1 fun t => ACall.enter tab_ok Tryz.func94 rfl rfl Tryz.ntmps94 (by simp) ?_
  simp only [enterTM]
  ((refine gga0 ?_))
  ((repeat refine AW_seq ?_); (refine wta ?_); simp (disch := omega) only [retQ, resD, oneD, rsv, rs, rsL, rsL_eq_map, List.map_map, bb, bt, zDs, zD, eqCells, simprocAttr, Tryz.results94])
def ex13 : Sy := ⟨[⟨hB, 10⟩], [⟨hR, [⟨hE, 0, 1, 1⟩, ⟨hB, 2, 1, 1⟩, ⟨hE, 0, 1, 1⟩], true⟩]⟩
theorem example13 : PRet Tryz.prog 93 [] (syD ex13) := by
  refine PRet.intro 4 fun t => ACall.enter tab_ok Tryz.func93 rfl rfl Tryz.ntmps93 (by simp) ?_
  simp only [enterTM]
  have h1 := f13 1
  ((refine gga1 h1 ?_))
  ((repeat refine AW_seq ?_); (refine wta ?_); simp (disch := omega) only [retQ, resD, oneD, rsv, rs, rsL, rsL_eq_map, List.map_map, bb, bt, zDs, zD, eqCells, simprocAttr, Tryz.results93])
  rfl
theorem ex13_fits : Fits ex13 := small_fits (by decide +kernel)
theorem ex13_for : forP ex13 hB = ((2, 1), 0) := by decide +kernel
theorem ex13_trav : travP ex13 hB = ((2, 1), 0) := by decide +kernel
theorem ex13_work : workP ex13 [6] = ((30, 1), (30, 1), 0) := by decide +kernel
set_option maxHeartbeats 2000000 in
theorem awake13 : PRet Tryz.prog 29 [] (bool true) := by
  refine PRet.intro 1 fun t => ACall.enter tab_ok Tryz.func29 rfl rfl Tryz.ntmps29 (by simp) ?_
  simp only [enterTM]
  have hX := example13
  have hF : PRet Tryz.prog 33 [syD ex13, str ⟨#[98]⟩] (fe ((2, 1), 0)) := by
    have := forces13 ex13 ex13_fits hB
    rwa [ex13_for] at this
  have hT : PRet Tryz.prog 34 [syD ex13, str ⟨#[98]⟩] (fe ((2, 1), 0)) := by
    have := travels13 ex13 ex13_fits hB
    rwa [ex13_trav] at this
  have hW : PRet Tryz.prog 31 [syD ex13, .sl 1 [int 6] false] (.tup [frD (30, 1), frD (30, 1), int 0]) := by
    have := work13 ex13 ex13_fits [6] (by simp)
    rwa [ex13_work] at this
  have h2 := f13 2
  have h3 := f13 30
  generalize ex13 = e at *
  ((refine gga4_AWL hX hF hT hW ?_))
  ((repeat refine AW_seq ?_); (refine gdza2 h2 h3 ?_))
  ((repeat refine AW_seq ?_); (refine wta ?_); simp (disch := omega) only [retQ, resD, oneD, rsv, rs, rsL, rsL_eq_map, List.map_map, bb, bt, zDs, zD, eqCells, simprocAttr, Tryz.results29])
theorem large13 (s : Sy) : PRet Tryz.prog 30 [syD s] (bool (!smallS s)) := by
  refine PRet.intro 1 fun t => ACall.enter tab_ok Tryz.func30 rfl rfl Tryz.ntmps30 (by simp) ?_
  simp only [enterTM]
  have hS := small_ref s
  cases hs : smallS s
  all_goals
    rw [hs] at hS
    ((refine gga1 hS ?_))
    ((repeat refine AW_seq ?_); (refine wta ?_); simp (disch := omega) only [retQ, resD, oneD, rsv, rs, rsL, rsL_eq_map, List.map_map, bb, bt, zDs, zD, eqCells, simprocAttr, Tryz.results30])
/-! AdvantageSame. -/
/-! AdvantageEqual. -/
end Go.Proofs.YtjjpjgnoanfaoaaGreat.T

namespace Go.Proofs.YtjjpjgnoanfaoaaGreat.T
open Go Go.RowKit Lin
set_option linter.unusedSimpArgs false

/-! Chapter 13: the best of some systems. -/
theorem sys_len (l : List Sy) : (l.flatMap sy1).length = l.length * 2 := flat_len (f := sy1) (n := 2) (fun _ => rfl) l
theorem sys_div (l : List Sy) : (l.flatMap sy1).length / 2 = l.length := by rw [sys_len]; omega
theorem sys_read (l : List Sy) (k : Nat) (x : Sy) (h : l[k]? = some x) : ((l.flatMap sy1).drop (k * 2)).take 2 = [bks x.bs, rps x.rs] := flat_read (f := sy1) (n := 2) (fun _ => rfl) l k x h
theorem indexFuncSy (l : List Sy) (g : FuncId) (caps : List D) (p : Sy → Bool) (hl : l.length ≤ 1000000) (hp : ∀ x ∈ l, PRet Tryz.prog g ((syD x :: caps).map ufa) (bool (p x))) : PRet Tryz.prog 108 [sys l, .fn g caps] (int (idx p l 0)) := by
  refine PRet.intro 1 fun t => ACall.enter tab_ok Tryz.func108 rfl rfl Tryz.ntmps108 (by simp) ?_
  simp only [enterTM]
  have hla := sys_len l
  have ha2 := sys_div l
  ((refine ggb0 ha2 ?_))
  ((repeat refine AW_seq ?_))
  refine AW_block ?_
  refine AW_loop_w (fun k : Nat => ⟨[(0, sys l), (1, .fn g caps), (7, int l.length), (8, int k)], [], t⟩) (fun k => l.length - k) (fun k => k ≤ l.length ∧ idx p l 0 = idx p (l.drop k) k) 0 ⟨Nat.zero_le _, rfl⟩ (by (simp (disch := omega) only [StLe, tmLe, hpLe_refl, hpLe, bl, bb, bt, zDs, zD, eqCells, simprocAttr])) fun k ⟨hk, hi⟩ => ?_
  by_cases hlt : k < l.length
  · obtain ⟨x, hx⟩ : ∃ x, l[k]? = some x := ⟨_, List.getElem?_eq_getElem hlt⟩
    have hm := List.mem_of_getElem? hx
    have hd : l.drop k = x :: l.drop (k + 1) := by
      obtain ⟨h1, h2⟩ := List.getElem?_eq_some_iff.1 hx
      rw [List.drop_eq_getElem_cons h1, h2]
    rw [hd] at hi
    have hra := sys_read l k x hx
    have hc := hp x hm
    ((refine ggb0 (F := _∧_) ⟨@Int.ofNat_lt, hlt⟩ ?_))
    ((repeat refine AW_seq ?_))
    refine AW_block ?_
    cases hpx : p x
    · rw [hpx] at hc
      ((refine ggb0 (F := _∧_∧_) ⟨ha2, hlt, hra⟩ ?_))
      ((refine wka1 hc ?_))
      ((refine gga0 ?_))
      refine ⟨k + 1, ⟨hlt, by rw [hi]; simp [idx, hpx]⟩, by omega, ?_⟩
      (simp (disch := omega) only [StLe, tmLe, hpLe_refl, hpLe, bl, bb, bt, zDs, zD, eqCells, simprocAttr])
    · rw [hpx] at hc
      ((refine ggb0 (F := _∧_∧_) ⟨ha2, hlt, hra⟩ ?_))
      ((refine wka1 hc ?_))
      ((refine gga0 ?_))
      ((repeat refine AW_seq ?_); (refine wta ?_); simp (disch := omega) only [retQ, resD, oneD, rsv, rs, rsL, rsL_eq_map, List.map_map, bb, bt, zDs, zD, eqCells, simprocAttr, Tryz.results108, hi, idx, hpx])
  · ((refine ggb0 (F := _∧_) ⟨@Int.ofNat_lt, hlt⟩ ?_))
    ((repeat refine AW_seq ?_); (refine wta ?_); simp (disch := omega) only [retQ, resD, oneD, rsv, rs, rsL, rsL_eq_map, List.map_map, bb, bt, zDs, zD, eqCells, simprocAttr, Tryz.results108, hi])
    rw [List.drop_eq_nil_of_le (by omega)]; rfl
theorem idx_anyS {α : Type} (p : α → Bool) (l : List α) : decide (0 ≤ idx p l 0) = l.any p := by
  obtain ⟨h1, h2⟩ := idx_lt p l 0
  cases ha : l.any p
  · rw [h2 ha]; rfl
  · obtain ⟨k, x, e, _⟩ := h1 ha
    rw [e]
    simp
theorem containsFuncSy (l : List Sy) (g : FuncId) (caps : List D) (p : Sy → Bool) (hl : l.length ≤ 1000000) (hp : ∀ x ∈ l, PRet Tryz.prog g ((syD x :: caps).map ufa) (bool (p x))) : PRet Tryz.prog 39 [sys l, .fn g caps] (bool (l.any p)) := by
  refine PRet.intro 1 fun t => ACall.enter tab_ok Tryz.func39 rfl rfl Tryz.ntmps39 (by simp) ?_
  simp only [enterTM]
  have hI := indexFuncSy l g caps p hl hp
  have hA := idx_anyS p l
  generalize idx p l 0 = z at *
  ((refine gga1 hI ?_))
  ((repeat refine AW_seq ?_); (refine wta ?_); simp (disch := omega) only [retQ, resD, oneD, rsv, rs, rsL, rsL_eq_map, List.map_map, bb, bt, zDs, zD, eqCells, simprocAttr, Tryz.results39, hA])
theorem best1 (s : Sy) (hf : Fits s) : PRet Tryz.prog 109 [syD s] (bool (!validS s)) := by
  refine PRet.intro 1 fun t => ACall.enter tab_ok Tryz.func109 rfl rfl Tryz.ntmps109 (by simp) ?_
  simp only [enterTM]
  have hV := valid_prog s hf
  cases hv : validS s
  all_goals
    rw [hv] at hV
    ((refine gga1 hV ?_))
    ((repeat refine AW_seq ?_); (refine wta ?_); simp (disch := omega) only [retQ, resD, oneD, rsv, rs, rsL, rsL_eq_map, List.map_map, bb, bt, zDs, zD, eqCells, simprocAttr, Tryz.results109])
theorem bstK_in (l : List Sy) (nm : ByteArray) (k : Nat) (hk : k ≤ l.length) : (bstK l nm k).2 < 0 ∨ (0 ≤ (bstK l nm k).2 ∧ vfrac (bstK l nm k).1.1 (bstK l nm k).1.2 = true) := by
  rcases bstK_spec l nm k hk with ⟨h, _⟩ | ⟨n, b, h1, _, _, h4, h5, _⟩
  · left; omega
  · right
    rw [h5]
    exact ⟨by omega, forP_vfrac h4⟩
theorem bstK_num (l : List Sy) (nm : ByteArray) (k : Nat) (hk : k ≤ l.length) : -1 ≤ (bstK l nm k).2 ∧ (bstK l nm k).2 < l.length := by
  rcases bstK_spec l nm k hk with ⟨h, _⟩ | ⟨n, b, h1, h2, _⟩
  · omega
  · omega
set_option maxRecDepth 100000 in
set_option maxHeartbeats 8000000 in
theorem best13 (l : List Sy) (nm : ByteArray) (hl : l.length ≤ 1000) (hf : ∀ x ∈ l, Fits x) : PRet Tryz.prog 40 [sys l, str nm] (.tup [int (bestP l nm).1, int (bestP l nm).2]) := by
  refine PRet.intro 1 fun t => ACall.enter tab_ok Tryz.func40 rfl rfl Tryz.ntmps40 (by simp) ?_
  simp only [enterTM]
  have hC := containsFuncSy l 109 [] (fun s => !validS s) (by omega) (fun x hx => best1 x (hf x hx))
  have hla := sys_len l
  have hld := sys_div l
  cases ha : l.any (fun s => !validS s)
  rotate_left 1
  · rw [ha] at hC
    have e : bestP l nm = (0, 1) := by unfold bestP; rw [if_pos ha]
    ((refine gga0 ?_))
    ((repeat refine AW_seq ?_))
    refine AW_block ?_
    ((refine gga1 hC ?_))
    ((repeat refine AW_seq ?_); (refine wta ?_); simp (disch := omega) only [retQ, resD, oneD, rsv, rs, rsL, rsL_eq_map, List.map_map, bb, bt, zDs, zD, eqCells, simprocAttr, Tryz.results40, e])
  rw [ha] at hC
  by_cases h20 : 20 < l.length
  · have h20' : (20 : Int) < l.length := by omega
    have e : bestP l nm = (0, 4) := by unfold bestP; rw [if_neg (by rw [ha]; decide), if_pos h20]
    ((refine gga0 ?_))
    ((repeat refine AW_seq ?_))
    refine AW_block ?_
    ((refine ggb1 (F := _∧_) ⟨h20', hld⟩ hC ?_))
    ((repeat refine AW_seq ?_); (refine wta ?_); simp (disch := omega) only [retQ, resD, oneD, rsv, rs, rsL, rsL_eq_map, List.map_map, bb, bt, zDs, zD, eqCells, simprocAttr, Tryz.results40, e])
  have h20' : ¬ (20 : Int) < l.length := by omega
  have e : bestP l nm = if (bstK l nm l.length).2 < 0 then (0, 12) else ((bstK l nm l.length).2, 0) := by unfold bestP; rw [if_neg (by rw [ha]; decide), if_neg h20]
  rw [e]
  ((refine gga0 ?_))
  ((repeat refine AW_seq ?_))
  refine AW_block ?_
  ((refine ggb1 (F := _∧_) ⟨h20', hld⟩ hC ?_))
  have hz : bstK l nm 0 = ((0, 0), -1) := rfl
  ((repeat refine AW_seq ?_))
  refine AW_mid (fun x : Nat => ⟨[(7, int (bstK l nm l.length).2)], [], x⟩) (fun _ => True) ?_ ?_
  · refine AW_block ?_
    refine AW_loop_w (fun x : Nat × Nat => ⟨[(1, str nm), (6, .ptr 0 (t + 1) 0), (7, int (bstK l nm x.1).2), (22, sys l), (23, int l.length), (24, int x.1)], [some ⟨43, t + 1, [int (bstK l nm x.1).1.1, int (bstK l nm x.1).1.2]⟩], x.2⟩) (fun x => l.length - x.1) (fun x => x.1 ≤ l.length) (0, t + 1) (Nat.zero_le _) (by (simp (disch := omega) only [StLe, tmLe, hpLe_refl, hpLe, bl, bb, bt, zDs, zD, eqCells, simprocAttr, hz])) ?_
    rintro ⟨k, tt⟩ hk
    simp only at hk
    by_cases hlt : k < l.length
    · obtain ⟨x, hx⟩ : ∃ y, l[k]? = some y := ⟨_, List.getElem?_eq_getElem hlt⟩
      have hra := sys_read l k x hx
      have hF := forces13 x (hf x (List.mem_of_getElem? hx)) nm
      have hst := bstK_step (nm := nm) hx
      have hin := bstK_in l nm k hk
      have hnum := bstK_num l nm k hk
      have hfv := forP_vfrac (s := x) (nm := nm)
      unfold bstS at hst
      generalize forP x nm = Y at *
      generalize bstK l nm k = B at *
      have hM := rCmp Y.1 B.1
      by_cases hy : Y.2 = 0
      rotate_left 1
      · have e1 : (Y.2 != 0) = true := by simpa using hy
        rw [if_neg (fun h => hy h.1)] at hst
        ((refine ggb0 (F := _∧_) ⟨@Int.ofNat_lt, hlt⟩ ?_))
        ((repeat refine AW_seq ?_))
        refine AW_block ?_
        ((refine ggb1 (F := _∧_∧_∧_) ⟨hlt, hld, hra, e1⟩ hF ?_))
        refine ⟨(k + 1, tt + 1 + 1), hlt, by show l.length - (k + 1) < l.length - k; omega, ?_⟩
        simp only [hst]
        (simp (disch := omega) only [StLe, tmLe, hpLe_refl, hpLe, bl, bb, bt, zDs, zD, eqCells, simprocAttr])
      have e1 : (Y.2 != 0) = false := by simpa using hy
      by_cases hb : B.2 < 0
      · rw [if_pos ⟨hy, .inl hb⟩] at hst
        ((refine ggb0 (F := _∧_) ⟨@Int.ofNat_lt, hlt⟩ ?_))
        ((repeat refine AW_seq ?_))
        refine AW_block ?_
        ((refine ggb2 (F := _∧_∧_∧_∧_) ⟨hlt, hld, hra, e1, hb⟩ hF hM ?_))
        refine ⟨(k + 1, tt + 1 + 1), hlt, by show l.length - (k + 1) < l.length - k; omega, ?_⟩
        simp only [hst]
        (simp (disch := omega) only [StLe, tmLe, hpLe_refl, hpLe, bl, bb, bt, zDs, zD, eqCells, simprocAttr])
      have hbv := (hin.resolve_left hb).2
      rw [cmpP_ok (hfv hy) hbv] at hM
      by_cases hc : 0 < cmpV Y.1 B.1
      · rw [if_pos ⟨hy, .inr hc⟩] at hst
        ((refine ggb0 (F := _∧_) ⟨@Int.ofNat_lt, hlt⟩ ?_))
        ((repeat refine AW_seq ?_))
        refine AW_block ?_
        ((refine ggb2 (F := _∧_∧_∧_∧_∧_) ⟨hlt, hld, hra, e1, hb, hc⟩ hF hM ?_))
        refine ⟨(k + 1, tt + 1 + 1), hlt, by show l.length - (k + 1) < l.length - k; omega, ?_⟩
        simp only [hst]
        (simp (disch := omega) only [StLe, tmLe, hpLe_refl, hpLe, bl, bb, bt, zDs, zD, eqCells, simprocAttr])
      · rw [if_neg (fun h => h.2.elim hb hc)] at hst
        ((refine ggb0 (F := _∧_) ⟨@Int.ofNat_lt, hlt⟩ ?_))
        ((repeat refine AW_seq ?_))
        refine AW_block ?_
        ((refine ggb2 (F := _∧_∧_∧_∧_∧_) ⟨hlt, hld, hra, e1, hb, hc⟩ hF hM ?_))
        refine ⟨(k + 1, tt + 1 + 1), hlt, by show l.length - (k + 1) < l.length - k; omega, ?_⟩
        simp only [hst]
        (simp (disch := omega) only [StLe, tmLe, hpLe_refl, hpLe, bl, bb, bt, zDs, zD, eqCells, simprocAttr])
    · have hke : k = l.length := by omega
      subst hke
      ((refine wqb @Int.lt_irrefl ?_))
      ((refine wia ?_))
      ((refine wxa ?_))
      exact ⟨tt, trivial, by (simp (disch := omega) only [StLe, tmLe, hpLe_refl, hpLe, bl, bb, bt, zDs, zD, eqCells, simprocAttr])⟩
  rintro tt -
  generalize bstK l nm l.length = B at *
  by_cases hb : B.2 < 0
  · rw [if_pos hb]
    ((refine ggb0 hb ?_))
    ((repeat refine AW_seq ?_); (refine wta ?_); simp (disch := omega) only [retQ, resD, oneD, rsv, rs, rsL, rsL_eq_map, List.map_map, bb, bt, zDs, zD, eqCells, simprocAttr, Tryz.results40])
  · rw [if_neg hb]
    ((refine ggb0 hb ?_))
    ((repeat refine AW_seq ?_); (refine wta ?_); simp (disch := omega) only [retQ, resD, oneD, rsv, rs, rsL, rsL_eq_map, List.map_map, bb, bt, zDs, zD, eqCells, simprocAttr, Tryz.results40])
end Go.Proofs.YtjjpjgnoanfaoaaGreat.T

