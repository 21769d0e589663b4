import Derived.Test.YtjjpjgnoanfaoaaYAVPFW
import Derived.Test.YtjjpjgnoanfaoaaSG
import Derived.Test.YtjjpjgnoanfaoaaLSJ
import Derived.Test.YtjjpjgnoanfaoaaWRJ
import Derived.Test.YtjjpjgnoanfaoaaSKM
import Derived.Test.YtjjpjgnoanfaoaaMGI
import Derived.Test.YtjjpjgnoanfaoaaTJ
import Derived.Test.YtjjpjgnoanfaoaaWA
import Derived.Test.YtjjpjgnoanfaoaaWJK
import Derived.Test.YtjjpjgnoanfaoaaRows
import Derived.Lib.SmallJoins
import Derived.ProofKit
set_option linter.all false
namespace Go.Proofs.Ytjjpjgnoanfaoaa.T
open Go Go.RowKit Lin
set_option linter.unusedSimpArgs false

/-! Copies of a system whose blocks, or ropes, are the caller's own. -/
theorem cellsC_bk (l : List Bk) : (bkC l).all isCell = true := by
  induction l with
  | nil => rfl
  | cons x r ih => simp only [bkC, List.flatMap_cons, List.all_append, Bool.and_eq_true] at ih ⊢; exact ⟨rfl, ih⟩
theorem cellsC_hd (l : List Hd) : (hdC l).all isCell = true := by
  induction l with
  | nil => rfl
  | cons x r ih => simp only [hdC, List.flatMap_cons, List.all_append, Bool.and_eq_true] at ih ⊢; exact ⟨rfl, ih⟩
set_option maxHeartbeats 4000000 in
theorem copyB (s : Sy) (ok : OkS s) : PFreshX Try.prog 34 [syD s] 57 2 s.bs.length (bkC s.bs) (fun o => .agg [o, rps s.rs]) := by
  refine PFreshX.intro (tup := false) (pre := []) (post := [rps s.rs]) (plain_bk _) rfl (by simp only [plainL, plainD, plain_rp, Bool.and_self]) fun t => ACall.enter tab_ok Try.func34 rfl rfl Try.ntmps34 (by simp) ?_
  simp only [enterTM]
  have hdr := rpC_div s.rs
  have hdb := bkC_div s.bs
  have hlb := bkC_len s.bs
  have b1 := ok.b1
  have b6 := ok.b6
  have r6 := ok.r6
  have hcb := cellsC_bk s.bs
  have hnb : (bkC s.bs = []) = False := by
    simp only [eq_iff_iff, iff_false]
    intro e
    rw [e] at hlb
    simp at hlb
    omega
  ((refine wqa ?_))
  ((refine wqb (F := _∧_∧_) ⟨hcb, hnb, hdb⟩ ?_))
  have hfb : List.take (s.bs.length * 2) (bkC s.bs) = bkC s.bs := List.take_of_length_le (by omega)
  
  ((refine wqa ?_))
  refine AW.begin_cell 3 1 3 61 rfl rfl (by decide) ?_
  simp only [List.set_cons_succ, List.set_cons_zero, List.length_cons, List.length_nil, List.cons_append, List.nil_append, Nat.zero_add, Nat.reduceAdd]
  have hz1 : rpC [] = [] := rfl
  refine AW_mid (fun x : Nat × Nat => ⟨[(2, .ptr 1 (t + 1 + 1) 0), (3, .ptr 3 (t + 1 + 1 + 1 + 1) 0)], [none, some ⟨49, t + 1 + 1, [.sl 2 [] true, .sl 3 [] true]⟩, some ⟨57, t + 1 + 1 + 1, bkC s.bs⟩, some ⟨49, t + 1 + 1 + 1 + 1, [.own 2 2 (t + 1 + 1 + 1) 0 s.bs.length, .own 3 4 x.1 0 s.rs.length]⟩, some ⟨61, x.1, rpC s.rs⟩], x.2⟩) (fun _ => True) ?_ ?_
  · refine AW_block ?_
    refine AW_loop_w (fun x : Nat × Nat × Nat => ⟨[(1, .ptr 0 (t + 1) 0), (2, .ptr 1 (t + 1 + 1) 0), (3, .ptr 3 (t + 1 + 1 + 1 + 1) 0), (4, int x.1)], [some ⟨49, t + 1, [bks s.bs, rps s.rs]⟩, some ⟨49, t + 1 + 1, [.sl 2 [] true, .sl 3 [] true]⟩, some ⟨57, t + 1 + 1 + 1, bkC s.bs⟩, some ⟨49, t + 1 + 1 + 1 + 1, [.own 2 2 (t + 1 + 1 + 1) 0 s.bs.length, .own 3 4 x.2.1 0 x.1]⟩, some ⟨61, x.2.1, rpC (s.rs.take x.1)⟩], x.2.2⟩) (fun x => s.rs.length - x.1) (fun x => x.1 ≤ s.rs.length) (0, t + 1 + 1 + 1 + 1 + 1, t + 1 + 1 + 1 + 1 + 1) (Nat.zero_le _) (by (simp (disch := omega) only [StLe, tmLe, hpLe_refl, hpLe, bl, bb, bt, zDs, zD, eqCells, simprocAttr, List.take_zero, hz1])) ?_
    rintro ⟨k, g, tt⟩ hk
    simp only at hk
    by_cases hlt : k < s.rs.length
    · obtain ⟨r, hr⟩ : ∃ y, s.rs[k]? = some y := ⟨_, List.getElem?_eq_getElem hlt⟩
      have hra := rpC_read s.rs k r hr
      obtain ⟨ho1, ho2, _⟩ := ok.holds r (List.mem_of_getElem? hr)
      have hch := cellsC_hd r.hs
      have hlh := hdC_len r.hs
      have hdh := hdC_div r.hs
      have hnh : (hdC r.hs = []) = False := by
        simp only [eq_iff_iff, iff_false]
        intro e
        rw [e] at hlh
        simp at hlh
        omega
      have htk : s.rs.take (k + 1) = s.rs.take k ++ [r] := by rw [List.take_add_one, hr]; rfl
      have htl : (s.rs.take k).length = k := by simp; omega
      have hel := rpC_len (s.rs.take k)
      rw [htl] at hel
      have happ := rpC_app (s.rs.take k) r
      generalize s.rs.take k = E at *
      ((refine ggb0 (F := _∧_∧_) ⟨@Int.ofNat_lt, hlt, hdr⟩ ?_))
      ((repeat refine AW_seq ?_))
      refine AW_block ?_
      ((refine wqb (F := _∧_∧_) ⟨hlt, hdr, hra⟩ ?_))
      ((refine wqb (F := _∧_∧_) ⟨hch, hnh, hdh⟩ ?_))
      have hfh : List.take (r.hs.length * 4) (hdC r.hs) = hdC r.hs := List.take_of_length_le (by omega)
      ((refine AW.freeze (6) (by first | rfl | (simp only [setH, List.getElem?_cons_zero, List.getElem?_cons_succ, fz_bk, fz_rp, fz_hd, hfh, hlh, Nat.le_refl]; done)) ?_); simp (disch := omega) only [fzT, fz, fzL, fzL_ints, fzL_mat, fzH, fzB, eq_self, bb, bt, zDs, zD, eqCells, simprocAttr, fz_bk, fz_rp, fz_hd, hfh, hlh, Nat.le_refl])
      ((refine ggb0 hel ?_))
      refine ⟨(k + 1, tt + 1 + 1 + 1, tt + 1 + 1 + 1), hlt, by show s.rs.length - (k + 1) < s.rs.length - k; omega, ?_⟩
      simp only [htk, happ]
      (simp (disch := omega) only [StLe, tmLe, hpLe_refl, hpLe, bl, bb, bt, zDs, zD, eqCells, simprocAttr])
    · have hke : k = s.rs.length := by omega
      subst hke
      rw [List.take_length]
      ((refine wqb (F := _∧_) ⟨@Int.lt_irrefl, hdr⟩ ?_))
      ((refine wia ?_))
      ((refine wxa ?_))
      exact ⟨(g, tt), trivial, by (simp (disch := omega) only [StLe, tmLe, hpLe_refl, hpLe, bl, bb, bt, zDs, zD, eqCells, simprocAttr])⟩
  rintro ⟨g, tt⟩ -
  have hel := rpC_len s.rs
  have hfin : List.take (s.rs.length * 3) (rpC s.rs) = rpC s.rs := List.take_of_length_le (by omega)
  ((refine AW.freeze (4) (by first | rfl | (simp only [setH, List.getElem?_cons_zero, List.getElem?_cons_succ, fz_bk, fz_rp, hfin, hel, Nat.le_refl]; done)) ?_); simp (disch := omega) only [fzT, fz, fzL, fzL_ints, fzL_mat, fzH, fzB, eq_self, bb, bt, zDs, zD, eqCells, simprocAttr, fz_bk, fz_rp, hfin, hel, Nat.le_refl])
  ((refine gga0 ?_))
  ((repeat refine AW_seq ?_); (refine wta ?_); simp (disch := omega) only [retQ, resD, oneD, bb, bt, zDs, zD, eqCells, simprocAttr, Try.results34])
  exact ⟨2, t + 1 + 1 + 1, rfl, rfl⟩
set_option maxHeartbeats 4000000 in
theorem copyR (s : Sy) (ok : OkS s) : PFreshX Try.prog 34 [syD s] 61 3 s.rs.length (rpC s.rs) (fun o => .agg [bks s.bs, o]) := by
  refine PFreshX.intro (tup := false) (pre := [bks s.bs]) (post := []) (plain_rp _) (by simp only [plainL, plainD, plain_bk, Bool.and_self]) rfl fun t => ACall.enter tab_ok Try.func34 rfl rfl Try.ntmps34 (by simp) ?_
  simp only [enterTM]
  have hdr := rpC_div s.rs
  have hdb := bkC_div s.bs
  have hlb := bkC_len s.bs
  have b1 := ok.b1
  have b6 := ok.b6
  have r6 := ok.r6
  have hcb := cellsC_bk s.bs
  have hnb : (bkC s.bs = []) = False := by
    simp only [eq_iff_iff, iff_false]
    intro e
    rw [e] at hlb
    simp at hlb
    omega
  ((refine wqa ?_))
  ((refine wqb (F := _∧_∧_) ⟨hcb, hnb, hdb⟩ ?_))
  have hfb : List.take (s.bs.length * 2) (bkC s.bs) = bkC s.bs := List.take_of_length_le (by omega)
  ((refine AW.freeze (2) (by first | rfl | (simp only [setH, List.getElem?_cons_zero, List.getElem?_cons_succ, fz_bk, fz_rp, hfb, hlb, Nat.le_refl]; done)) ?_); simp (disch := omega) only [fzT, fz, fzL, fzL_ints, fzL_mat, fzH, fzB, eq_self, bb, bt, zDs, zD, eqCells, simprocAttr, fz_bk, fz_rp, hfb, hlb, Nat.le_refl])
  ((refine wqa ?_))
  refine AW.begin_cell 3 1 3 61 rfl rfl (by decide) ?_
  simp only [List.set_cons_succ, List.set_cons_zero, List.length_cons, List.length_nil, List.cons_append, List.nil_append, Nat.zero_add, Nat.reduceAdd]
  have hz1 : rpC [] = [] := rfl
  refine AW_mid (fun x : Nat × Nat => ⟨[(2, .ptr 1 (t + 1 + 1) 0), (3, .ptr 3 (t + 1 + 1 + 1 + 1) 0)], [none, some ⟨49, t + 1 + 1, [.sl 2 [] true, .sl 3 [] true]⟩, none, some ⟨49, t + 1 + 1 + 1 + 1, [bks s.bs, .own 3 4 x.1 0 s.rs.length]⟩, some ⟨61, x.1, rpC s.rs⟩], x.2⟩) (fun _ => True) ?_ ?_
  · refine AW_block ?_
    refine AW_loop_w (fun x : Nat × Nat × Nat => ⟨[(1, .ptr 0 (t + 1) 0), (2, .ptr 1 (t + 1 + 1) 0), (3, .ptr 3 (t + 1 + 1 + 1 + 1) 0), (4, int x.1)], [some ⟨49, t + 1, [bks s.bs, rps s.rs]⟩, some ⟨49, t + 1 + 1, [.sl 2 [] true, .sl 3 [] true]⟩, none, some ⟨49, t + 1 + 1 + 1 + 1, [bks s.bs, .own 3 4 x.2.1 0 x.1]⟩, some ⟨61, x.2.1, rpC (s.rs.take x.1)⟩], x.2.2⟩) (fun x => s.rs.length - x.1) (fun x => x.1 ≤ s.rs.length) (0, t + 1 + 1 + 1 + 1 + 1, t + 1 + 1 + 1 + 1 + 1) (Nat.zero_le _) (by (simp (disch := omega) only [StLe, tmLe, hpLe_refl, hpLe, bl, bb, bt, zDs, zD, eqCells, simprocAttr, List.take_zero, hz1])) ?_
    rintro ⟨k, g, tt⟩ hk
    simp only at hk
    by_cases hlt : k < s.rs.length
    · obtain ⟨r, hr⟩ : ∃ y, s.rs[k]? = some y := ⟨_, List.getElem?_eq_getElem hlt⟩
      have hra := rpC_read s.rs k r hr
      obtain ⟨ho1, ho2, _⟩ := ok.holds r (List.mem_of_getElem? hr)
      have hch := cellsC_hd r.hs
      have hlh := hdC_len r.hs
      have hdh := hdC_div r.hs
      have hnh : (hdC r.hs = []) = False := by
        simp only [eq_iff_iff, iff_false]
        intro e
        rw [e] at hlh
        simp at hlh
        omega
      have htk : s.rs.take (k + 1) = s.rs.take k ++ [r] := by rw [List.take_add_one, hr]; rfl
      have htl : (s.rs.take k).length = k := by simp; omega
      have hel := rpC_len (s.rs.take k)
      rw [htl] at hel
      have happ := rpC_app (s.rs.take k) r
      generalize s.rs.take k = E at *
      ((refine ggb0 (F := _∧_∧_) ⟨@Int.ofNat_lt, hlt, hdr⟩ ?_))
      ((repeat refine AW_seq ?_))
      refine AW_block ?_
      ((refine wqb (F := _∧_∧_) ⟨hlt, hdr, hra⟩ ?_))
      ((refine wqb (F := _∧_∧_) ⟨hch, hnh, hdh⟩ ?_))
      have hfh : List.take (r.hs.length * 4) (hdC r.hs) = hdC r.hs := List.take_of_length_le (by omega)
      ((refine AW.freeze (6) (by first | rfl | (simp only [setH, List.getElem?_cons_zero, List.getElem?_cons_succ, fz_bk, fz_rp, fz_hd, hfh, hlh, Nat.le_refl]; done)) ?_); simp (disch := omega) only [fzT, fz, fzL, fzL_ints, fzL_mat, fzH, fzB, eq_self, bb, bt, zDs, zD, eqCells, simprocAttr, fz_bk, fz_rp, fz_hd, hfh, hlh, Nat.le_refl])
      ((refine ggb0 hel ?_))
      refine ⟨(k + 1, tt + 1 + 1 + 1, tt + 1 + 1 + 1), hlt, by show s.rs.length - (k + 1) < s.rs.length - k; omega, ?_⟩
      simp only [htk, happ]
      (simp (disch := omega) only [StLe, tmLe, hpLe_refl, hpLe, bl, bb, bt, zDs, zD, eqCells, simprocAttr])
    · have hke : k = s.rs.length := by omega
      subst hke
      rw [List.take_length]
      ((refine wqb (F := _∧_) ⟨@Int.lt_irrefl, hdr⟩ ?_))
      ((refine wia ?_))
      ((refine wxa ?_))
      exact ⟨(g, tt), trivial, by (simp (disch := omega) only [StLe, tmLe, hpLe_refl, hpLe, bl, bb, bt, zDs, zD, eqCells, simprocAttr])⟩
  rintro ⟨g, tt⟩ -
  have hel := rpC_len s.rs
  have hfin : List.take (s.rs.length * 3) (rpC s.rs) = rpC s.rs := List.take_of_length_le (by omega)
  skip
  ((refine gga0 ?_))
  ((repeat refine AW_seq ?_); (refine wta ?_); simp (disch := omega) only [retQ, resD, oneD, bb, bt, zDs, zD, eqCells, simprocAttr, Try.results34])
  exact ⟨4, g, rfl, rfl⟩
/-! Weights changed one after the other. -/
def chW (f : Nat → Bk → Int) (l : List Bk) : Nat → List Bk
  | 0 => l
  | k + 1 => match l[k]? with
    | some b => (chW f l k).set k ⟨b.nm, f k b⟩
    | none => chW f l k
theorem chW_len (f : Nat → Bk → Int) (l : List Bk) : ∀ k, (chW f l k).length = l.length
  | 0 => rfl
  | k + 1 => by
    simp only [chW]
    split
    · rw [List.length_set, chW_len f l k]
    · exact chW_len f l k
theorem chW_get (f : Nat → Bk → Int) (l : List Bk) : ∀ (k i : Nat) (b : Bk), l[i]? = some b → (chW f l k)[i]? = some (if i < k then ⟨b.nm, f i b⟩ else b)
  | 0, i, b, h => by rw [if_neg (by omega)]; exact h
  | k + 1, i, b, h => by
    have ih := chW_get f l k i b h
    have hi := (List.getElem?_eq_some_iff.1 h).1
    simp only [chW]
    by_cases e : k = i
    · subst e
      rw [h]
      simp only
      rw [List.getElem?_set_self (by rw [chW_len]; exact hi), if_pos (by omega)]
    · have : (match l[k]? with | some b => (chW f l k).set k ⟨b.nm, f k b⟩ | none => chW f l k)[i]? = (chW f l k)[i]? := by
        split
        · rw [List.getElem?_set_ne e]
        · rfl
      rw [this, ih]
      by_cases e2 : i < k
      · rw [if_pos e2, if_pos (by omega)]
      · rw [if_neg e2, if_neg (by omega)]
theorem chW_set {f : Nat → Bk → Int} {l : List Bk} {k : Nat} {b : Bk} (h : l[k]? = some b) : chW f l (k + 1) = (chW f l k).set k ⟨b.nm, f k b⟩ := by simp only [chW, h]
theorem chW_at {f : Nat → Bk → Int} {l : List Bk} {k : Nat} {b : Bk} (h : l[k]? = some b) : (chW f l k)[k]? = some b := by
  rw [chW_get f l k k b h, if_neg (by omega)]
theorem chW_end (f : Nat → Bk → Int) (l : List Bk) : chW f l l.length = l.mapIdx fun i b => ⟨b.nm, f i b⟩ := by
  refine List.ext_getElem? fun i => ?_
  rw [List.getElem?_mapIdx]
  cases h : l[i]? with
  | none => rw [List.getElem?_eq_none (by rw [chW_len]; exact List.getElem?_eq_none_iff.1 h)]; rfl
  | some b => rw [chW_get f l _ i b h, if_pos (List.getElem?_eq_some_iff.1 h).1]; rfl
theorem bkC_wt {l : List Bk} {i : Nat} {b : Bk} (h : l[i]? = some b) (w : Int) : (bkC l).set (i * 2 + 1) (int w) = bkC (l.set i ⟨b.nm, w⟩) := by
  have h1 := bkC_set l i ⟨b.nm, w⟩ (List.getElem?_eq_some_iff.1 h).1
  have hl := bkC_len l
  have hi := (List.getElem?_eq_some_iff.1 h).1
  have h2 := bkC_read l i b h
  rw [← h1]
  have e : bkC l = (bkC l).take (i * 2) ++ ([str b.nm, int b.w] ++ (bkC l).drop (i * 2 + 2)) := by
    have : [str b.nm, int b.w] = ((bkC l).drop (i * 2)).take 2 := h2.symm
    rw [this, ← List.drop_drop, List.take_append_drop, List.take_append_drop]
  have hlt : ((bkC l).take (i * 2)).length = i * 2 := by simp; omega
  conv => lhs; rw [e]
  rw [List.set_append_right _ _ (by omega), hlt, show i * 2 + 1 - i * 2 = 1 by omega]
  simp
theorem bkC_nm {l : List Bk} {i : Nat} {b : Bk} (h : l[i]? = some b) : (bkC l)[i * 2]? = some (str b.nm) := bkC_name l i b h
theorem bkC_w {l : List Bk} {i : Nat} {b : Bk} (h : l[i]? = some b) : (bkC l)[i * 2 + 1]? = some (int b.w) := bkC_cell l i b h 1 (by decide)
end Go.Proofs.Ytjjpjgnoanfaoaa.T

namespace Go.Proofs.Ytjjpjgnoanfaoaa.T
open Go Go.RowKit Lin
theorem gdta4_AC {C1 C2 C3 C4 P Q : Prop} (c1 : C1) (c2 : C2) (c3 : C3) (c4 : C4) (q : Q) (h : C1 → C2 → C3 → C4 → Q → P := by
  intro cc1 cc2 cc3 cc4 hq
  (try with_reducible intro KR hKR)
  (repeat refine AW_seq ?_); (repeat refine AW_seq ?_); (refine AW_drawn_k tab_ok follows_mixed 2 fun KR hKR => ?_); simp only [List.replicate_succ, List.replicate_zero, List.append_nil, List.nil_append, List.cons_append, List.length_cons, List.length_nil, Nat.reduceAdd]; (repeat' ((first | refine awD_n rfl fun KK hKK => ?_ | refine awD_g rfl rfl fun KK hKK => ?_ | refine awD_gc rfl fun KK hKK => ?_ | refine awD_nc fun KK hKK => ?_); simp (disch := omega) only [bb, bt, zDs, zD, eqCells, simprocAttr, bne_self_eq_false, Int.reduceBNe, Int.reduceBEq, Bool.bne_false, Bool.bne_true, Bool.false_bne, Bool.true_bne, goCDS, callDS_fn, argsZ, argsD, ufa, uf]; (try ((first | with_reducible refine PGive.ret (cc1) ?_ | with_reducible refine PGive.ret (cc2) ?_ | with_reducible refine PGive.ret (cc3) ?_ | with_reducible refine PGive.ret (cc4) ?_); simp (disch := omega) only [bb, bt, zDs, zD, eqCells, simprocAttr, afterDS, bne_self_eq_false, Int.reduceBNe, Int.reduceBEq, Bool.bne_false, Bool.bne_true, Bool.false_bne, Bool.true_bne])); refine hKK _ _ _ ?_; clear hKK KK)); (refine awD_nil ?_); simp only [List.reverse_cons, List.reverse_nil, List.nil_append, List.cons_append]; (refine hKR _ _ (by first | rfl | kernel_rfl) ?_); (try clear hKR KR); (repeat (with_reducible first | refine q1 ?_ | refine q2 ?_ | refine q3 ?_ | refine q4 ?_ | refine q5 ?_ | refine q6 ?_ | (refine q7 ?_ ?_; (focus (with_unfolding_all rfl)))))
  (first | exact hq | (revert hKR; revert KR; exact hq))) : P := h c1 c2 c3 c4 q
set_option linter.unusedSimpArgs false

/-! Comparisons of fractions. -/
theorem cmp_signs {n u D V : Int} (hD : 0 < D) (hV : 0 < V) : ((n < 0 ∧ ¬ u < 0) → cmpV (n, D) (u, V) = -1) ∧ ((¬ n < 0 ∧ u < 0) → cmpV (n, D) (u, V) = 1) := by
  constructor
  · rintro ⟨h1, h2⟩
    have a := Int.mul_neg_of_neg_of_pos h1 hV
    have b := Int.mul_nonneg (show 0 ≤ u by omega) (show 0 ≤ D by omega)
    unfold cmpV
    rw [if_pos (by simp only; omega)]
  · rintro ⟨h1, h2⟩
    have a := Int.mul_neg_of_neg_of_pos h2 hD
    have b := Int.mul_nonneg (show 0 ≤ n by omega) (show 0 ≤ V by omega)
    unfold cmpV
    rw [if_neg (by simp only; omega), if_pos (by simp only; omega)]
theorem cmp_pos {n u : Int} {D V : Nat} (h1 : ¬ n < 0) (h2 : ¬ u < 0) : cmpV (n, (D : Int)) (u, (V : Int)) = if n.natAbs * V < u.natAbs * D then -1 else if u.natAbs * D < n.natAbs * V then 1 else 0 := by
  have e1 : n * (V : Int) = ((n.natAbs * V : Nat) : Int) := by rw [Int.natCast_mul, Int.natAbs_of_nonneg (by omega)]
  have e2 : u * (D : Int) = ((u.natAbs * D : Nat) : Int) := by rw [Int.natCast_mul, Int.natAbs_of_nonneg (by omega)]
  unfold cmpV
  simp only [e1, e2, Int.ofNat_lt]
theorem cmp_neg {n u : Int} {D V : Nat} (h1 : n < 0) (h2 : u < 0) : cmpV (n, (D : Int)) (u, (V : Int)) = if u.natAbs * D < n.natAbs * V then -1 else if n.natAbs * V < u.natAbs * D then 1 else 0 := by
  have e1 : n * (V : Int) = -((n.natAbs * V : Nat) : Int) := by
    rw [Int.natCast_mul, ← Int.neg_mul]
    congr 1
    omega
  have e2 : u * (D : Int) = -((u.natAbs * D : Nat) : Int) := by
    rw [Int.natCast_mul, ← Int.neg_mul]
    congr 1
    omega
  unfold cmpV
  simp only [e1, e2]
  generalize u.natAbs * D = A
  generalize n.natAbs * V = B
  by_cases h : A < B
  · rw [if_pos h, if_pos (by omega)]
  · rw [if_neg h, if_neg (by omega)]
    by_cases h' : B < A
    · rw [if_pos h', if_pos (by omega)]
    · rw [if_neg h', if_neg (by omega)]
set_option maxHeartbeats 2000000 in
theorem rCmp (a b : Int × Int) : PRet Try.prog 64 [frD a, frD b] (.tup [int (cmpP a b).1, int (cmpP a b).2]) := by
  obtain ⟨n, d⟩ := a
  obtain ⟨u, v⟩ := b
  have va := rValid n d
  have vb := rValid u v
  refine PRet.intro 2 fun t => ACall.enter tab_ok Try.func64 rfl rfl Try.ntmps64 (by simp) ?_
  simp only [enterTM]
  cases ha : vfrac n d
  · rw [ha] at va
    have e : cmpP (n, d) (u, v) = (0, 1) := by unfold cmpP; rw [if_neg (by simp [ha])]
    ((refine gga1 va ?_))
    ((repeat refine AW_seq ?_); (refine wta ?_); simp (disch := omega) only [retQ, resD, oneD, rsv, rs, rsL, rsL_eq_map, List.map_map, bb, bt, zDs, zD, eqCells, simprocAttr, Try.results64, e])
  rw [ha] at va
  cases hb : vfrac u v
  · rw [hb] at vb
    have e : cmpP (n, d) (u, v) = (0, 1) := by unfold cmpP; rw [if_neg (by simp [hb])]
    ((refine gga2 va vb ?_))
    ((repeat refine AW_seq ?_); (refine wta ?_); simp (disch := omega) only [retQ, resD, oneD, rsv, rs, rsL, rsL_eq_map, List.map_map, bb, bt, zDs, zD, eqCells, simprocAttr, Try.results64, e])
  rw [hb] at vb
  rw [cmpP_ok ha hb]
  obtain ⟨a1, a2, a3, a4, a5⟩ := fr_bounds ha
  obtain ⟨b1, b2, b3, b4, b5⟩ := fr_bounds hb
  obtain ⟨D, rfl⟩ : ∃ D : Nat, d = (D : Int) := ⟨d.toNat, by omega⟩
  obtain ⟨V, rfl⟩ : ∃ V : Nat, v = (V : Int) := ⟨v.toNat, by omega⟩
  obtain ⟨g1, g2⟩ := cmp_signs (n := n) (u := u) (D := (D : Int)) (V := (V : Int)) (by omega) (by omega)
  have hpos := fun h1 h2 => cmp_pos (n := n) (u := u) (D := D) (V := V) h1 h2
  have hneg := fun h1 h2 => cmp_neg (n := n) (u := u) (D := D) (V := V) h1 h2
  have s1 := rSize n (by omega)
  have s2 := rSize u (by omega)
  have p1 := wideProduct n.natAbs V (by omega) (by omega)
  have p2 := wideProduct u.natAbs D (by omega) (by omega)
  have c1 : n.natAbs * V ≤ 1152921504606846976 * 1152921504606846976 := Nat.mul_le_mul (by omega) (by omega)
  have c2 : u.natAbs * D ≤ 1152921504606846976 * 1152921504606846976 := Nat.mul_le_mul (by omega) (by omega)
  have l1 := wideLess (n.natAbs * V) (u.natAbs * D) (by omega) (by omega)
  have l2 := wideLess (u.natAbs * D) (n.natAbs * V) (by omega) (by omega)
  generalize cmpV (n, (D : Int)) (u, (V : Int)) = c at *
  generalize n.natAbs * V = x at *
  generalize u.natAbs * D = y at *
  ((refine gga2 va vb ?_))
  ((repeat refine AW_seq ?_); (refine gdta4_AC s1 s2 p1 p2 ?_))
  ((repeat refine AW_seq ?_))
  refine AW_block ?_
  by_cases hn : n < 0
  · by_cases hu : u < 0
    · rw [hneg hn hu]
      ((refine ggb0 (F := _∧_) ⟨hn, hu⟩ ?_))
      ((repeat refine AW_seq ?_))
      refine AW_block ?_
      by_cases hyx : y < x
      · rw [decide_eq_true hyx] at l2
        ((refine ggb2 (F := _∧_) ⟨hn, hu⟩ l1 l2 ?_))
        ((repeat refine AW_seq ?_); (refine wta ?_); simp (disch := omega) only [retQ, resD, oneD, rsv, rs, rsL, rsL_eq_map, List.map_map, bb, bt, zDs, zD, eqCells, simprocAttr, Try.results64, hyx])
      · rw [decide_eq_false hyx] at l2
        by_cases hxy : x < y
        · rw [decide_eq_true hxy] at l1
          ((refine ggb2 (F := _∧_) ⟨hn, hu⟩ l1 l2 ?_))
          ((repeat refine AW_seq ?_); (refine wta ?_); simp (disch := omega) only [retQ, resD, oneD, rsv, rs, rsL, rsL_eq_map, List.map_map, bb, bt, zDs, zD, eqCells, simprocAttr, Try.results64, hyx, hxy])
        · rw [decide_eq_false hxy] at l1
          ((refine ggb2 (F := _∧_) ⟨hn, hu⟩ l1 l2 ?_))
          ((repeat refine AW_seq ?_); (refine wta ?_); simp (disch := omega) only [retQ, resD, oneD, rsv, rs, rsL, rsL_eq_map, List.map_map, bb, bt, zDs, zD, eqCells, simprocAttr, Try.results64, hyx, hxy])
    · rw [g1 ⟨hn, hu⟩]
      ((refine ggb0 (F := _∧_) ⟨hn, hu⟩ ?_))
      ((repeat refine AW_seq ?_); (refine wta ?_); simp (disch := omega) only [retQ, resD, oneD, rsv, rs, rsL, rsL_eq_map, List.map_map, bb, bt, zDs, zD, eqCells, simprocAttr, Try.results64])
  · by_cases hu : u < 0
    · rw [g2 ⟨hn, hu⟩]
      ((refine ggb0 (F := _∧_) ⟨hn, hu⟩ ?_))
      ((repeat refine AW_seq ?_); (refine wta ?_); simp (disch := omega) only [retQ, resD, oneD, rsv, rs, rsL, rsL_eq_map, List.map_map, bb, bt, zDs, zD, eqCells, simprocAttr, Try.results64])
    · rw [hpos hn hu]
      ((refine ggb0 (F := _∧_) ⟨hn, hu⟩ ?_))
      ((repeat refine AW_seq ?_))
      refine AW_block ?_
      by_cases hxy : x < y
      · rw [decide_eq_true hxy] at l1
        ((refine ggb2 (F := _∧_) ⟨hn, hu⟩ l1 l2 ?_))
        ((repeat refine AW_seq ?_); (refine wta ?_); simp (disch := omega) only [retQ, resD, oneD, rsv, rs, rsL, rsL_eq_map, List.map_map, bb, bt, zDs, zD, eqCells, simprocAttr, Try.results64, hxy])
      · rw [decide_eq_false hxy] at l1
        by_cases hyx : y < x
        · rw [decide_eq_true hyx] at l2
          ((refine ggb2 (F := _∧_) ⟨hn, hu⟩ l1 l2 ?_))
          ((repeat refine AW_seq ?_); (refine wta ?_); simp (disch := omega) only [retQ, resD, oneD, rsv, rs, rsL, rsL_eq_map, List.map_map, bb, bt, zDs, zD, eqCells, simprocAttr, Try.results64, hxy, hyx])
        · rw [decide_eq_false hyx] at l2
          ((refine ggb2 (F := _∧_) ⟨hn, hu⟩ l1 l2 ?_))
          ((repeat refine AW_seq ?_); (refine wta ?_); simp (disch := omega) only [retQ, resD, oneD, rsv, rs, rsL, rsL_eq_map, List.map_map, bb, bt, zDs, zD, eqCells, simprocAttr, Try.results64, hxy, hyx])
end Go.Proofs.Ytjjpjgnoanfaoaa.T

namespace Go.Proofs.Ytjjpjgnoanfaoaa.T
open Go Go.RowKit Lin
theorem gdza_AWK {P Q : Prop} (q : Q) (h : Q → P := by
  intro  hq
  (try with_reducible intro KR hKR)
  (repeat refine AW_seq ?_); (repeat refine AW_seq ?_); (refine AW_drawn_k tab_ok follows_mixed 0 fun KR hKR => ?_); simp only [List.replicate_succ, List.replicate_zero, List.append_nil, List.nil_append, List.cons_append, List.length_cons, List.length_nil, Nat.reduceAdd]; (repeat' ((first | refine awD_n rfl fun KK hKK => ?_ | refine awD_g rfl rfl fun KK hKK => ?_ | refine awD_gc rfl fun KK hKK => ?_ | refine awD_nc fun KK hKK => ?_); simp (disch := omega) only [bb, bt, zDs, zD, eqCells, simprocAttr, bne_self_eq_false, Int.reduceBNe, Int.reduceBEq, Bool.bne_false, Bool.bne_true, Bool.false_bne, Bool.true_bne]; refine hKK _ _ _ ?_; clear hKK KK)); (refine awD_nil ?_); simp only [List.reverse_cons, List.reverse_nil, List.nil_append, List.cons_append]; (refine hKR _ _ (by first | rfl | kernel_rfl) ?_); (try clear hKR KR); (repeat (with_reducible first | refine q1 ?_ | refine q2 ?_ | refine q3 ?_ | refine q4 ?_ | refine q5 ?_ | refine q6 ?_ | (refine q7 ?_ ?_; (focus (with_unfolding_all rfl)))))
  (first | exact hq | (revert hKR; revert KR; exact hq))) : P := h  q
set_option linter.unusedSimpArgs false

/-! Chapter 13: the program. -/
theorem whole13 (n : Int) : PRet Try.prog 120 [int n] (frD (n, 1)) := by
  refine PRet.intro 1 fun t => ACall.enter tab_ok Try.func120 rfl rfl Try.ntmps120 (by simp) ?_
  simp only [enterTM]
  ((refine gga0 ?_))
  ((repeat refine AW_seq ?_); (refine wta ?_); simp (disch := omega) only [retQ, resD, oneD, rsv, rs, rsL, rsL_eq_map, List.map_map, bb, bt, zDs, zD, eqCells, simprocAttr, Try.results120])
set_option maxHeartbeats 1000000 in
theorem cloneB_ (x : Bk) (r : List Bk) (hl : r.length ≤ 1000) : PFresh Try.prog 164 [bks (x :: r)] 57 2 (r.length + 1) (bkC (x :: r)) := by
  refine PFresh.intro (plain_bk _) fun t => ACall.enter tab_ok Try.func164 rfl rfl Try.ntmps164 (by simp) ?_
  simp only [enterTM]
  have f2 : bkC (x :: r) = str x.nm :: int x.w :: bkC r := rfl
  have hcl := cellsC_bk r
  have hld := bkC_div (x :: r)
  have hll := bkC_len (x :: r)
  have f1 : bks (x :: r) = .sl 2 (str x.nm :: int x.w :: bkC r) false := rfl
  rw [f2] at hld hll
  rw [f1, f2]
  simp only [List.length_cons] at hll hld
  ((refine wqa ?_))
  ((refine wqa ?_))
  ((refine wia ?_))
  ((refine wsa ?_))
  ((repeat refine AW_seq ?_); (refine AW_region_k tab_ok fun KR hKR => ?_); (repeat ((first | refine awOps_n rfl fun KK hKK => ?_ | refine awOps_g rfl rfl fun KK hKK => ?_ | refine awOps_gc rfl fun KK hKK => ?_); simp (disch := omega) only [bb, bt, zDs, zD, eqCells, simprocAttr, isSlice, hcl, hld]; refine hKK _ ?_; clear hKK KK)); (refine awOps_nil ?_); (refine hKR _ ?_); (try clear hKR KR); (repeat (with_reducible first | refine q1 ?_ | refine q2 ?_ | refine q3 ?_ | refine q4 ?_ | refine q5 ?_ | refine q6 ?_ | (refine q7 ?_ ?_; (focus (with_unfolding_all rfl))))))
  ((repeat refine AW_seq ?_); (refine wta ?_); simp (disch := omega) only [retQ, resD, oneD, rsv, rs, rsL, rsL_eq_map, List.map_map, bb, bt, zDs, zD, eqCells, simprocAttr, Try.results164])
  exact .inr ⟨0, t + 1, rfl, rfl⟩
theorem cloneBs (l : List Bk) (h0 : 1 ≤ l.length) (hl : l.length ≤ 1000) : PFresh Try.prog 164 [bks l] 57 2 l.length (bkC l) := by
  cases l with
  | nil => simp at h0
  | cons x r => exact cloneB_ x r (by simp at hl; omega)
theorem unitS_chW (s : Sy) (nm : ByteArray) : chW (fun _ b => if b.nm = nm then 1 else 0) s.bs s.bs.length = (unitS s nm).bs := by
  rw [chW_end]
  refine List.ext_getElem? fun i => ?_
  simp only [unitS, List.getElem?_mapIdx, List.getElem?_map]
  rfl
theorem any_nextU {α : Type} (p : α → Bool) {l : List α} {k : Nat} {x : α} (h : l[k]? = some x) : (l.take (k + 1)).any p = ((l.take k).any p || p x) := by
  rw [List.take_add_one, h, Option.toList_some, List.any_append]
  simp
theorem bkC_one {l : List Bk} {i : Nat} {b : Bk} (h : l[i]? = some b) : ((bkC l).drop (i * 2)).take 1 = [str b.nm] := by
  have := bkC_nm h
  obtain ⟨h1, h2⟩ := List.getElem?_eq_some_iff.1 this
  rw [List.drop_eq_getElem_cons h1, h2]
  rfl
def unitE (s : Sy) (nm : ByteArray) : Sy × Int := if validS s = true then (if findB s.bs nm < 0 then (⟨[], []⟩, 9) else (unitS s nm, 0)) else (⟨[], []⟩, 1)
set_option maxHeartbeats 4000000 in
theorem unit13 (s : Sy) (hf : Fits s) (nm : ByteArray) : PRet Try.prog 114 [syD s, str nm] (.tup [syD (unitE s nm).1, int (unitE s nm).2]) := by
  refine PRet.intro 1 fun t => ACall.enter tab_ok Try.func114 rfl rfl Try.ntmps114 (by simp) ?_
  simp only [enterTM]
  have hV := valid_prog s hf
  cases hv : validS s
  · rw [hv] at hV
    have e : unitE s nm = (⟨[], []⟩, 1) := by simp [unitE, hv]
    ((refine gga1 hV ?_))
    ((repeat refine AW_seq ?_); (refine wta ?_); simp (disch := omega) only [retQ, resD, oneD, rsv, rs, rsL, rsL_eq_map, List.map_map, bb, bt, zDs, zD, eqCells, simprocAttr, Try.results114, e])
    rfl
  rw [hv] at hV
  have ok := validS_ok hv
  have hb1 := ok.b1
  have hb6 := ok.b6
  have hC := cloneBs s.bs ok.b1 (by omega)
  have hdb := bkC_div s.bs
  have hlb := bkC_len s.bs
  ((refine gga1 hV ?_))
  intro KR hKR
  ((first | refine awOps_nc fun KK hKK => ?_ | refine awOps_gc rfl fun KK hKK => ?_); simp (disch := omega) only [bb, bt, zDs, zD, eqCells, simprocAttr, goC, callO_fn, argsD, and_self]; refine ACall.of_fresh (hC) (by first | (simp only [List.map_cons, List.map_nil, List.append_nil, List.nil_append, List.cons_append, ufa, uf]; done) | rfl) ?_; simp (disch := omega) only [bb, bt, zDs, zD, eqCells, simprocAttr, afterC]; refine hKK _ ?_; clear hKK KK)
  ((refine wra ?_)); ((refine wea ?_); (try clear hKR KR))
  ((refine ggb0 hdb ?_))
  have hcl := fun (f : Nat → Bk → Int) (k : Nat) => chW_len f s.bs k
  have hun := unitS_chW s nm
  generalize hfe : (fun (_ : Nat) (b : Bk) => if b.nm = nm then (1 : Int) else 0) = f at hun
  ((repeat refine AW_seq ?_))
  refine AW_mid (fun x : Nat => ⟨[(4, .ptr 1 (t + 1 + 1) 0), (6, .ptr 2 (t + 1 + 1 + 1) 0), (7, bool (s.bs.any fun b => decide (b.nm = nm)))], [none, some ⟨49, t + 1 + 1, [.sl 2 [] true, .sl 3 [] true]⟩, some ⟨49, t + 1 + 1 + 1, [.own 2 3 (t + 1 + 1 + 1 + 1) 0 s.bs.length, rps s.rs]⟩, some ⟨57, t + 1 + 1 + 1 + 1, bkC (chW f s.bs s.bs.length)⟩], x⟩) (fun _ => True) ?_ ?_
  · refine AW_block ?_
    refine AW_loop_w (fun x : Nat × Nat => ⟨[(1, str nm), (4, .ptr 1 (t + 1 + 1) 0), (6, .ptr 2 (t + 1 + 1 + 1) 0), (7, bool ((s.bs.take x.1).any fun b => decide (b.nm = nm))), (21, int s.bs.length), (22, int x.1)], [none, some ⟨49, t + 1 + 1, [.sl 2 [] true, .sl 3 [] true]⟩, some ⟨49, t + 1 + 1 + 1, [.own 2 3 (t + 1 + 1 + 1 + 1) 0 s.bs.length, rps s.rs]⟩, some ⟨57, t + 1 + 1 + 1 + 1, bkC (chW f s.bs x.1)⟩], x.2⟩) (fun x => s.bs.length - x.1) (fun x => x.1 ≤ s.bs.length) (0, t + 1 + 1 + 1 + 1) (Nat.zero_le _) (by (simp (disch := omega) only [StLe, tmLe, hpLe_refl, hpLe, bl, bb, bt, zDs, zD, eqCells, simprocAttr, List.take_zero, List.any_nil, chW])) ?_
    rintro ⟨k, tt⟩ hk
    simp only at hk
    by_cases hlt : k < s.bs.length
    · obtain ⟨b, hb⟩ : ∃ y, s.bs[k]? = some y := ⟨_, List.getElem?_eq_getElem hlt⟩
      have hC0 := chW_at (f := f) hb
      have hst := chW_set (f := f) hb
      have hsa := any_nextU (fun b => decide (b.nm = nm)) hb
      have hlc := bkC_len (chW f s.bs k)
      rw [hcl] at hlc
      have hw1 := bkC_wt hC0 0
      have hD0 : ((chW f s.bs k).set k ⟨b.nm, 0⟩)[k]? = some ⟨b.nm, 0⟩ := List.getElem?_set_self (by rw [hcl]; exact hlt)
      have hnm := bkC_nm hD0
      have hn1 := bkC_one hD0
      have hw2 := bkC_wt hD0 1
      rw [List.set_set] at hw2
      have hld := bkC_len ((chW f s.bs k).set k ⟨b.nm, 0⟩)
      rw [List.length_set, hcl] at hld
      cases he : decide (b.nm = nm)
      · have hf0 : f k b = 0 := by rw [← hfe]; exact if_neg (by simpa using he)
        rw [hf0] at hst
        rw [he, Bool.or_false] at hsa
        ((refine ggb0 (F := _∧_) ⟨@Int.ofNat_lt, hlt⟩ ?_))
        ((repeat refine AW_seq ?_))
        refine AW_block ?_
        ((refine ggb0 (F := _∧_∧_∧_∧_∧_∧_) ⟨hlt, hlc, hw1, hnm, hn1, hld, he⟩ ?_))
        refine ⟨(k + 1, tt), hlt, by show s.bs.length - (k + 1) < s.bs.length - k; omega, ?_⟩
        simp only [hst, hsa]
        (simp (disch := omega) only [StLe, tmLe, hpLe_refl, hpLe, bl, bb, bt, zDs, zD, eqCells, simprocAttr])
      · have hf1 : f k b = 1 := by rw [← hfe]; exact if_pos (by simpa using he)
        rw [hf1] at hst
        rw [he, Bool.or_true] at hsa
        ((refine ggb0 (F := _∧_) ⟨@Int.ofNat_lt, hlt⟩ ?_))
        ((repeat refine AW_seq ?_))
        refine AW_block ?_
        ((refine ggb0 (F := _∧_∧_∧_∧_∧_∧_∧_) ⟨hlt, hlc, hw1, hnm, hn1, hld, he, hw2⟩ ?_))
        refine ⟨(k + 1, tt), hlt, by show s.bs.length - (k + 1) < s.bs.length - k; omega, ?_⟩
        simp only [hst, hsa]
        (simp (disch := omega) only [StLe, tmLe, hpLe_refl, hpLe, bl, bb, bt, zDs, zD, eqCells, simprocAttr])
    · have hke : k = s.bs.length := by omega
      subst hke
      rw [List.take_length]
      ((refine wqb @Int.lt_irrefl ?_))
      ((refine wia ?_))
      ((refine wxa ?_))
      exact ⟨tt, trivial, by (simp (disch := omega) only [StLe, tmLe, hpLe_refl, hpLe, bl, bb, bt, zDs, zD, eqCells, simprocAttr])⟩
  rintro tt -
  rw [hun]
  obtain ⟨x1, x2⟩ := idx_lt (fun b : Bk => decide (b.nm = nm)) s.bs 0
  cases ha : s.bs.any (fun b => decide (b.nm = nm))
  · have hfb : findB s.bs nm < 0 := by unfold findB; rw [x2 ha]; omega
    have e : unitE s nm = (⟨[], []⟩, 9) := by simp [unitE, hv, hfb]
    ((refine gga0 ?_))
    ((repeat refine AW_seq ?_); (refine wta ?_); simp (disch := omega) only [retQ, resD, oneD, rsv, rs, rsL, rsL_eq_map, List.map_map, bb, bt, zDs, zD, eqCells, simprocAttr, Try.results114, e])
    rfl
  · have hfb : ¬ findB s.bs nm < 0 := by
      obtain ⟨k, x, hk, _⟩ := x1 ha
      unfold findB
      rw [hk]
      omega
    have e : unitE s nm = (unitS s nm, 0) := by simp [unitE, hv, hfb]
    have hul := unit_len s nm
    have hlu := bkC_len (unitS s nm).bs
    rw [hul] at hlu
    have hfin : List.take (s.bs.length * 2) (bkC (unitS s nm).bs) = bkC (unitS s nm).bs := List.take_of_length_le (by omega)
    have er : (unitS s nm).rs = s.rs := rfl
    rw [e]
    ((refine AW.freeze (3) (by first | rfl | (simp only [setH, List.getElem?_cons_zero, List.getElem?_cons_succ, fz_bk, fz_rp, hfin, hlu, Nat.le_refl]; done)) ?_); simp (disch := omega) only [fzT, fz, fzL, fzL_ints, fzL_mat, fzH, fzB, eq_self, bb, bt, zDs, zD, eqCells, simprocAttr, fz_bk, fz_rp, hfin, hlu, Nat.le_refl])
    ((refine gga0 ?_))
    ((repeat refine AW_seq ?_); (refine wta ?_); simp (disch := omega) only [retQ, resD, oneD, bb, bt, zDs, zD, eqCells, simprocAttr, Try.results114])
    rw [← er]
    exact rsv_tidy _ _ (by simp only [tidyD, tidyL, tidy_bk, tidy_rp, Bool.not_false, Bool.and_self])
theorem over13 (n : Int) (s : Sy) (hf : Fits s) : PRet Try.prog 115 [int n, syD s] (fe (overN n s)) := by
  refine PRet.intro 1 fun t => ACall.enter tab_ok Try.func115 rfl rfl Try.ntmps115 (by simp) ?_
  simp only [enterTM]
  have hH := haul_prog s hf
  have hW := whole13 n
  have hD := rDiv (n, 1) (haulP s).1
  unfold overN
  generalize haulP s = X at *
  cases hx : (X.2 == 0)
  · have e1 : (X.2 != 0) = true := by simpa using hx
    rw [if_neg (by simpa using hx)]
    ((refine ggb1 e1 hH ?_))
    ((repeat refine AW_seq ?_); (refine wta ?_); simp (disch := omega) only [retQ, resD, oneD, rsv, rs, rsL, rsL_eq_map, List.map_map, bb, bt, zDs, zD, eqCells, simprocAttr, Try.results115])
  · have e1 : (X.2 != 0) = false := by simpa using hx
    rw [if_pos (by simpa using hx)]
    generalize divP (n, 1) X.1 = Y at *
    ((refine ggb1 e1 hH ?_))
    ((repeat refine AW_seq ?_); (refine gdza2 hW hD ?_))
    ((repeat refine AW_seq ?_); (refine wta ?_); simp (disch := omega) only [retQ, resD, oneD, rsv, rs, rsL, rsL_eq_map, List.map_map, bb, bt, zDs, zD, eqCells, simprocAttr, Try.results115])
theorem unit_fits {s : Sy} (hf : Fits s) (nm : ByteArray) : Fits (unitE s nm).1 := by
  unfold unitE
  split
  · split
    · exact small_fits rfl
    · exact ⟨by rw [unit_len]; exact hf.nb, hf.nr, fun b hb => by
        obtain ⟨c, hc, rfl⟩ := List.mem_map.1 hb
        exact hf.sb c hc, hf.sr⟩
  · exact small_fits rfl
theorem forces13 (s : Sy) (hf : Fits s) (nm : ByteArray) : PRet Try.prog 53 [syD s, str nm] (fe (forP s nm)) := by
  refine PRet.intro 1 fun t => ACall.enter tab_ok Try.func53 rfl rfl Try.ntmps53 (by simp) ?_
  simp only [enterTM]
  have hU := unit13 s hf nm
  have hO := over13 1 _ (unit_fits hf nm)
  have e : forP s nm = if (unitE s nm).2 = 0 then overN 1 (unitE s nm).1 else ((0, 0), (unitE s nm).2) := by
    unfold forP unitE
    split
    · split
      · rfl
      · rfl
    · rfl
  rw [e]
  generalize unitE s nm = X at *
  cases hx : (X.2 == 0)
  · have e1 : (X.2 != 0) = true := by simpa using hx
    rw [if_neg (by simpa using hx)]
    ((refine ggb1 e1 hU ?_))
    ((repeat refine AW_seq ?_); (refine wta ?_); simp (disch := omega) only [retQ, resD, oneD, rsv, rs, rsL, rsL_eq_map, List.map_map, bb, bt, zDs, zD, eqCells, simprocAttr, Try.results53])
  · have e1 : (X.2 != 0) = false := by simpa using hx
    rw [if_pos (by simpa using hx)]
    generalize overN 1 X.1 = Y at *
    ((refine ggb2 e1 hU hO ?_))
    ((repeat refine AW_seq ?_); (refine wta ?_); simp (disch := omega) only [retQ, resD, oneD, rsv, rs, rsL, rsL_eq_map, List.map_map, bb, bt, zDs, zD, eqCells, simprocAttr, Try.results53])
theorem travels13 (s : Sy) (hf : Fits s) (nm : ByteArray) : PRet Try.prog 54 [syD s, str nm] (fe (travP s nm)) := by
  refine PRet.intro 1 fun t => ACall.enter tab_ok Try.func54 rfl rfl Try.ntmps54 (by simp) ?_
  simp only [enterTM]
  have hT := travel_prog s hf nm
  generalize travP s nm = X at *
  ((refine gga1 hT ?_))
  ((repeat refine AW_seq ?_); (refine wta ?_); simp (disch := omega) only [retQ, resD, oneD, rsv, rs, rsL, rsL_eq_map, List.map_map, bb, bt, zDs, zD, eqCells, simprocAttr, Try.results54])
theorem work13_1 (r : Rp) : PRet Try.prog 119 [.agg (rp1 r)] (bool r.hl) := by
  refine PRet.intro 1 fun t => ACall.enter tab_ok Try.func119 rfl rfl Try.ntmps119 (by simp) ?_
  simp only [enterTM]
  ((refine gga0 ?_))
  ((repeat refine AW_seq ?_); (refine wta ?_); simp (disch := omega) only [retQ, resD, oneD, rsv, rs, rsL, rsL_eq_map, List.map_map, bb, bt, zDs, zD, eqCells, simprocAttr, Try.results119])
set_option maxRecDepth 100000 in
set_option maxHeartbeats 8000000 in
theorem work13 (s : Sy) (hf : Fits s) (h : List Int) (hl : h.length ≤ 1000000) : PRet Try.prog 55 [syD s, ints h] (.tup [frD (workP s h).1, frD (workP s h).2.1, int (workP s h).2.2]) := by
  refine PRet.intro 1 fun t => ACall.enter tab_ok Try.func55 rfl rfl Try.ntmps55 (by simp) ?_
  simp only [enterTM]
  have hS := speeds_prog s hf h hl
  have hH := haul_prog s hf
  unfold workP
  by_cases h1 : (speedsP s h).2 = 0
  rotate_left 1
  · have e1 : ((speedsP s h).2 != 0) = true := by simpa using h1
    rw [if_neg h1]
    generalize speedsP s h = X at *
    ((refine ggb1 e1 hS ?_))
    ((repeat refine AW_seq ?_); (refine wta ?_); simp (disch := omega) only [retQ, resD, oneD, rsv, rs, rsL, rsL_eq_map, List.map_map, bb, bt, zDs, zD, eqCells, simprocAttr, Try.results55])
  have e1 : ((speedsP s h).2 != 0) = false := by simpa using h1
  rw [if_pos h1]
  by_cases h2 : (haulP s).2 = 0
  rotate_left 1
  · have e2 : ((haulP s).2 != 0) = true := by simpa using h2
    rw [if_neg h2]
    generalize speedsP s h = X at *
    generalize haulP s = Y at *
    ((refine ggb2 (F := _∧_) ⟨e1, e2⟩ hS hH ?_))
    ((repeat refine AW_seq ?_); (refine wta ?_); simp (disch := omega) only [retQ, resD, oneD, rsv, rs, rsL, rsL_eq_map, List.map_map, bb, bt, zDs, zD, eqCells, simprocAttr, Try.results55])
  have e2 : ((haulP s).2 != 0) = false := by simpa using h2
  rw [if_pos h2]
  obtain ⟨hv, htz, i, r, ei, hr, hh, _, Z, D, hD, hZ, hVt⟩ := haulP_val h2
  have ok := validS_ok hv
  obtain ⟨X', E, hE, hX, hvl, hV⟩ := speedsP_val h1
  obtain ⟨hg, _⟩ := speedsP_full h1
  obtain ⟨_, hhl, hp⟩ := givH_zero hg
  have hil := (List.getElem?_eq_some_iff.1 hr).1
  have hih : i < h.length := by omega
  obtain ⟨n, hn⟩ : ∃ y, h[i]? = some y := ⟨_, List.getElem?_eq_getElem hih⟩
  have eh : h.getD (hix s).toNat 0 = n := by rw [ei, Int.toNat_natCast, List.getD_eq_getElem?_getD, hn]; rfl
  rw [eh]
  have hI := indexFuncRp s.rs 119 [] (fun r => r.hl) hf.nr (fun x _ => work13_1 x)
  have eI : idx (fun r : Rp => r.hl) s.rs 0 = hix s := rfl
  rw [eI, ei] at hI
  have hW := whole13 n
  have hM := rMul (haulP s).1 (n, 1)
  have hav : allV (speedsP s h).1 = true := allV_of hV
  have hw0 := whole13 0
  have hdb := bkC_div s.bs
  have hb6 := ok.b6
  clear hZ hX hV hVt htz hg hp
  generalize speedsP s h = V at *
  generalize haulP s = T at *
  obtain ⟨v, ve⟩ := V
  obtain ⟨tf, te⟩ := T
  simp only at *
  subst h1
  subst h2
  generalize mulP tf (n, 1) = M at *
  ((refine gga3 hS hH hI ?_))
  ((repeat refine AW_seq ?_); (refine gdob2 (F := _∧_) ⟨hih, hn⟩ hW hM ?_))
  by_cases hm : M.2 = 0
  rotate_left 1
  · have e3 : (M.2 != 0) = true := by simpa using hm
    rw [if_neg hm]
    ((refine ggb0 e3 ?_))
    ((repeat refine AW_seq ?_); (refine wta ?_); simp (disch := omega) only [retQ, resD, oneD, rsv, rs, rsL, rsL_eq_map, List.map_map, bb, bt, zDs, zD, eqCells, simprocAttr, Try.results55])
  have e3 : (M.2 != 0) = false := by simpa using hm
  rw [if_pos hm]
  ((refine ggb1 (F := _∧_) ⟨e3, hdb⟩ hw0 ?_))
  have hvd := frC_div v
  generalize hdd : dotF (wtsS s) v (0, 1) = R at *
  ((repeat refine AW_seq ?_))
  refine AW_mid (fun x : Nat => ⟨[(4, .ptr 1 (t + 1 + 1) 0), (5, .ptr 2 (t + 1 + 1 + 1) 0), (11, .ptr 4 (t + 1 + 1 + 1 + 1 + 1) 0), (12, .ptr 5 (t + 1 + 1 + 1 + 1 + 1 + 1) 0)], [none, some ⟨37, t + 1 + 1, [int 0, int 0]⟩, some ⟨37, t + 1 + 1 + 1, [int 0, int 0]⟩, none, some ⟨37, t + 1 + 1 + 1 + 1 + 1, [int M.1.1, int M.1.2]⟩, some ⟨37, t + 1 + 1 + 1 + 1 + 1 + 1, [int R.1.1, int R.1.2]⟩], x⟩) (fun _ => R.2 = 0) ?_ ?_
  · refine AW_block ?_
    refine AW_loop_w (fun x : (Int × Int) × Nat × Nat => ⟨[(4, .ptr 1 (t + 1 + 1) 0), (5, .ptr 2 (t + 1 + 1 + 1) 0), (7, frs v), (11, .ptr 4 (t + 1 + 1 + 1 + 1 + 1) 0), (12, .ptr 5 (t + 1 + 1 + 1 + 1 + 1 + 1) 0), (58, bks s.bs), (59, int s.bs.length), (60, int x.2.1)], [none, some ⟨37, t + 1 + 1, [int 0, int 0]⟩, some ⟨37, t + 1 + 1 + 1, [int 0, int 0]⟩, none, some ⟨37, t + 1 + 1 + 1 + 1 + 1, [int M.1.1, int M.1.2]⟩, some ⟨37, t + 1 + 1 + 1 + 1 + 1 + 1, [int x.1.1, int x.1.2]⟩], x.2.2⟩) (fun x => s.bs.length - x.2.1) (fun x => x.2.1 ≤ s.bs.length ∧ dotF ((wtsS s).drop x.2.1) (v.drop x.2.1) x.1 = R) ((0, 1), 0, t + 1 + 1 + 1 + 1 + 1 + 1) ⟨Nat.zero_le _, hdd⟩ (by (simp (disch := omega) only [StLe, tmLe, hpLe_refl, hpLe, bl, bb, bt, zDs, zD, eqCells, simprocAttr])) ?_
    rintro ⟨c, k, tt⟩ ⟨hk, hd⟩
    simp only at hk hd
    by_cases hlt : k < s.bs.length
    · obtain ⟨b, hb⟩ : ∃ y, s.bs[k]? = some y := ⟨_, List.getElem?_eq_getElem hlt⟩
      obtain ⟨f, hfk⟩ : ∃ y, v[k]? = some y := ⟨_, List.getElem?_eq_getElem (by omega)⟩
      have hwk : (wtsS s)[k]? = some b.w := by simp [wtsS, hb]
      have hra := bkC_read s.bs k b hb
      have hrf := frC_read v k f hfk
      have hkv : k < v.length := by omega
      rw [dotF_plus hwk hfk] at hd
      have hW2 := whole13 b.w
      have hM2 := rMul (b.w, 1) f
      unfold plusP at hd
      generalize mulP (b.w, 1) f = Y at *
      ((refine ggb0 (F := _∧_) ⟨@Int.ofNat_lt, hlt⟩ ?_))
      ((repeat refine AW_seq ?_))
      refine AW_block ?_
      ((refine ggb0 (F := _∧_∧_) ⟨hlt, hdb, hra⟩ ?_))
      ((repeat refine AW_seq ?_); (refine gdob2 (F := _∧_∧_) ⟨hkv, hvd, hrf⟩ hW2 hM2 ?_))
      by_cases hy : Y.2 = 0
      rotate_left 1
      · have e4 : (Y.2 == 0) = false := by simpa using hy
        have e5 : (Y.2 != 0) = true := by simpa using hy
        rw [if_neg hy, if_neg hy] at hd
        subst hd
        rw [if_neg hy]
        ((refine ggb0 (F := _∧_) ⟨e4, e5⟩ ?_))
        ((repeat refine AW_seq ?_); (refine wta ?_); simp (disch := omega) only [retQ, resD, oneD, rsv, rs, rsL, rsL_eq_map, List.map_map, bb, bt, zDs, zD, eqCells, simprocAttr, Try.results55])
      have e4 : (Y.2 == 0) = true := by simpa using hy
      rw [if_pos hy] at hd
      have hA := rAdd c Y.1
      generalize addP c Y.1 = Q at *
      by_cases hq : Q.2 = 0
      rotate_left 1
      · have e5 : (Q.2 != 0) = true := by simpa using hq
        rw [if_neg hq] at hd
        subst hd
        rw [if_neg hq]
        ((refine ggb1 (F := _∧_) ⟨e4, e5⟩ hA ?_))
        ((repeat refine AW_seq ?_); (refine wta ?_); simp (disch := omega) only [retQ, resD, oneD, rsv, rs, rsL, rsL_eq_map, List.map_map, bb, bt, zDs, zD, eqCells, simprocAttr, Try.results55])
      have e5 : (Q.2 != 0) = false := by simpa using hq
      rw [if_pos hq] at hd
      ((refine ggb1 (F := _∧_) ⟨e4, e5⟩ hA ?_))
      refine ⟨(Q.1, k + 1, tt + 1 + 1), ⟨hlt, hd⟩, by show s.bs.length - (k + 1) < s.bs.length - k; omega, ?_⟩
      (simp (disch := omega) only [StLe, tmLe, hpLe_refl, hpLe, bl, bb, bt, zDs, zD, eqCells, simprocAttr])
    · have hke : k = s.bs.length := by omega
      subst hke
      have hde : dotF ((wtsS s).drop s.bs.length) (v.drop s.bs.length) c = (c, 0) := by
        have hdn : v.drop s.bs.length = [] := List.drop_eq_nil_of_le (by omega)
        rw [hdn]
        cases (wtsS s).drop s.bs.length <;> rfl
      rw [hde] at hd
      subst hd
      ((refine wqb @Int.lt_irrefl ?_))
      ((refine wia ?_))
      ((refine wxa ?_))
      exact ⟨tt, rfl, by (simp (disch := omega) only [StLe, tmLe, hpLe_refl, hpLe, bl, bb, bt, zDs, zD, eqCells, simprocAttr])⟩
  rintro tt hR
  rw [if_pos hR]
  ((repeat refine AW_seq ?_))
  ((repeat refine AW_seq ?_); (refine gdza_AWK ?_))
  ((repeat refine AW_seq ?_); (refine wta ?_); simp (disch := omega) only [retQ, resD, oneD, rsv, rs, rsL, rsL_eq_map, List.map_map, bb, bt, zDs, zD, eqCells, simprocAttr, Try.results55])
def cntB (s : Sy) (b : Bk) : Int := if 0 < b.w ∧ b.w ≤ 16777216 ∧ s.bs.length ≤ 6 then b.w else 0
def cntS (s : Sy) (k : Nat) : Int := ((s.bs.take k).map (cntB s)).sum
theorem cntS_step {s : Sy} {k : Nat} {b : Bk} (h : s.bs[k]? = some b) : cntS s (k + 1) = cntS s k + cntB s b := by
  unfold cntS
  rw [List.take_add_one, h, Option.toList_some, List.map_append, List.sum_append]
  simp
theorem cntS_le (s : Sy) : ∀ k, 0 ≤ cntS s k ∧ cntS s k ≤ k * 16777216
  | 0 => by simp [cntS]
  | k + 1 => by
    have ih := cntS_le s k
    cases h : s.bs[k]? with
    | none =>
      have e : cntS s (k + 1) = cntS s k := by
        unfold cntS
        rw [List.take_add_one, h]
        simp
      rw [e]
      omega
    | some b =>
      rw [cntS_step h]
      unfold cntB
      split <;> omega
theorem cntS_is {s : Sy} (hv : validS s = true) : cntS s s.bs.length = sumW s := by
  have ok := validS_ok hv
  unfold cntS sumW wtsS
  rw [List.take_length]
  congr 1
  refine List.map_congr_left fun b hb => ?_
  have := ok.wts b hb
  have := ok.b6
  unfold cntB
  split <;> omega
theorem over_cnt (s : Sy) : overN (cntS s s.bs.length) s = ratP s := by
  unfold ratP
  by_cases hv : validS s = true
  · rw [cntS_is hv]
  · have e : haulP s = ((0, 0), 1) := by
      unfold haulP tensP
      rw [if_neg hv, if_neg (by decide)]
    unfold overN
    rw [e]
    rfl
set_option maxHeartbeats 4000000 in
theorem ratio13 (s : Sy) (hf : Fits s) : PRet Try.prog 58 [syD s] (fe (ratP s)) := by
  refine PRet.intro 1 fun t => ACall.enter tab_ok Try.func58 rfl rfl Try.ntmps58 (by simp) ?_
  simp only [enterTM]
  have hO := over13 (cntS s s.bs.length) s hf
  rw [over_cnt] at hO
  have hdb := bkC_div s.bs
  have hnb := hf.nb
  have hz0 : cntS s 0 = 0 := rfl
  generalize ratP s = Y at *
  ((refine ggb0 hdb ?_))
  ((repeat refine AW_seq ?_))
  refine AW_mid (fun x : Nat => ⟨[(1, .ptr 0 (t + 1) 0), (2, .ptr 1 (t + 1 + 1) 0), (4, int (cntS s s.bs.length))], [some ⟨49, t + 1, [bks s.bs, rps s.rs]⟩, some ⟨37, t + 1 + 1, [int 0, int 0]⟩], x⟩) (fun _ => True) ?_ ?_
  · refine AW_block ?_
    refine AW_loop_w (fun x : Nat × Nat => ⟨[(1, .ptr 0 (t + 1) 0), (2, .ptr 1 (t + 1 + 1) 0), (4, int (cntS s x.1)), (8, bks s.bs), (9, int s.bs.length), (10, int x.1)], [some ⟨49, t + 1, [bks s.bs, rps s.rs]⟩, some ⟨37, t + 1 + 1, [int 0, int 0]⟩], x.2⟩) (fun x => s.bs.length - x.1) (fun x => x.1 ≤ s.bs.length) (0, t + 1 + 1) (Nat.zero_le _) (by (simp (disch := omega) only [StLe, tmLe, hpLe_refl, hpLe, bl, bb, bt, zDs, zD, eqCells, simprocAttr, hz0])) ?_
    rintro ⟨k, tt⟩ hk
    simp only at hk
    by_cases hlt : k < s.bs.length
    · obtain ⟨b, hb⟩ : ∃ y, s.bs[k]? = some y := ⟨_, List.getElem?_eq_getElem hlt⟩
      have hra := bkC_read s.bs k b hb
      have hst := cntS_step hb
      have hle := cntS_le s k
      unfold cntB at hst
      generalize cntS s k = c at *
      ((refine ggb0 (F := _∧_) ⟨@Int.ofNat_lt, hlt⟩ ?_))
      ((repeat refine AW_seq ?_))
      refine AW_block ?_
      by_cases c1 : 0 < b.w
      · by_cases c2 : b.w ≤ 16777216
        · by_cases c3 : s.bs.length ≤ 6
          · have c3' : (s.bs.length : Int) ≤ 6 := by omega
            rw [if_pos ⟨c1, c2, c3⟩] at hst
            ((refine ggb0 (F := _∧_∧_∧_∧_∧_) ⟨hlt, hdb, hra, c1, c2, c3'⟩ ?_))
            refine ⟨(k + 1, tt + 1), hlt, by show s.bs.length - (k + 1) < s.bs.length - k; omega, ?_⟩
            simp only [hst]
            (simp (disch := omega) only [StLe, tmLe, hpLe_refl, hpLe, bl, bb, bt, zDs, zD, eqCells, simprocAttr])
          · have c3' : ¬ (s.bs.length : Int) ≤ 6 := by omega
            rw [if_neg (by omega), Int.add_zero] at hst
            ((refine ggb0 (F := _∧_∧_∧_∧_∧_) ⟨hlt, hdb, hra, c1, c2, c3'⟩ ?_))
            refine ⟨(k + 1, tt + 1), hlt, by show s.bs.length - (k + 1) < s.bs.length - k; omega, ?_⟩
            simp only [hst]
            (simp (disch := omega) only [StLe, tmLe, hpLe_refl, hpLe, bl, bb, bt, zDs, zD, eqCells, simprocAttr])
        · rw [if_neg (by omega), Int.add_zero] at hst
          ((refine ggb0 (F := _∧_∧_∧_∧_) ⟨hlt, hdb, hra, c1, c2⟩ ?_))
          refine ⟨(k + 1, tt + 1), hlt, by show s.bs.length - (k + 1) < s.bs.length - k; omega, ?_⟩
          simp only [hst]
          (simp (disch := omega) only [StLe, tmLe, hpLe_refl, hpLe, bl, bb, bt, zDs, zD, eqCells, simprocAttr])
      · rw [if_neg (by omega), Int.add_zero] at hst
        ((refine ggb0 (F := _∧_∧_∧_) ⟨hlt, hdb, hra, c1⟩ ?_))
        refine ⟨(k + 1, tt + 1), hlt, by show s.bs.length - (k + 1) < s.bs.length - k; omega, ?_⟩
        simp only [hst]
        (simp (disch := omega) only [StLe, tmLe, hpLe_refl, hpLe, bl, bb, bt, zDs, zD, eqCells, simprocAttr])
    · have hke : k = s.bs.length := by omega
      subst hke
      ((refine wqb @Int.lt_irrefl ?_))
      ((refine wia ?_))
      ((refine wxa ?_))
      exact ⟨tt, trivial, by (simp (disch := omega) only [StLe, tmLe, hpLe_refl, hpLe, bl, bb, bt, zDs, zD, eqCells, simprocAttr])⟩
  rintro tt -
  ((refine gga1 hO ?_))
  ((repeat refine AW_seq ?_); (refine wta ?_); simp (disch := omega) only [retQ, resD, oneD, rsv, rs, rsL, rsL_eq_map, List.map_map, bb, bt, zDs, zD, eqCells, simprocAttr, Try.results58])
end Go.Proofs.Ytjjpjgnoanfaoaa.T

namespace Go.Proofs.Ytjjpjgnoanfaoaa.T
open Go Go.RowKit Lin
theorem gdoa2_AWL {C1 C2 P Q : Prop} (c1 : C1) (c2 : C2) (q : Q) (h : C1 → C2 → Q → P := by
  intro cc1 cc2 hq
  (try with_reducible intro KR hKR)
  (repeat refine AW_seq ?_); (repeat refine AW_seq ?_); (refine AW_drawn_k tab_ok follows_mixed 1 fun KR hKR => ?_); simp only [List.replicate_succ, List.replicate_zero, List.append_nil, List.nil_append, List.cons_append, List.length_cons, List.length_nil, Nat.reduceAdd]; (repeat' ((first | refine awD_n rfl fun KK hKK => ?_ | refine awD_g rfl rfl fun KK hKK => ?_ | refine awD_gc rfl fun KK hKK => ?_ | refine awD_nc fun KK hKK => ?_); simp (disch := omega) only [bb, bt, zDs, zD, eqCells, simprocAttr, bne_self_eq_false, Int.reduceBNe, Int.reduceBEq, Bool.bne_false, Bool.bne_true, Bool.false_bne, Bool.true_bne, goCDS, callDS_fn, argsZ, argsD, ufa, uf]; (try ((first | with_reducible refine PGive.ret (cc1) ?_ | with_reducible refine PGive.ret (cc2) ?_); simp (disch := omega) only [bb, bt, zDs, zD, eqCells, simprocAttr, afterDS, bne_self_eq_false, Int.reduceBNe, Int.reduceBEq, Bool.bne_false, Bool.bne_true, Bool.false_bne, Bool.true_bne])); refine hKK _ _ _ ?_; clear hKK KK)); (refine awD_nil ?_); simp only [List.reverse_cons, List.reverse_nil, List.nil_append, List.cons_append]; (refine hKR _ _ (by first | rfl | kernel_rfl) ?_); (try clear hKR KR); (repeat (with_reducible first | refine q1 ?_ | refine q2 ?_ | refine q3 ?_ | refine q4 ?_ | refine q5 ?_ | refine q6 ?_ | (refine q7 ?_ ?_; (focus (with_unfolding_all rfl)))))
  (first | exact hq | (revert hKR; revert KR; exact hq))) : P := h c1 c2 q
theorem gga4_AWL {C1 C2 C3 C4 P Q : Prop} (c1 : C1) (c2 : C2) (c3 : C3) (c4 : C4) (q : Q) (h : C1 → C2 → C3 → C4 → Q → P := by
  intro cc1 cc2 cc3 cc4 hq
  (try with_reducible intro KR hKR)
  (repeat' (first | (with_reducible refine AW_seq ?_) | (with_reducible refine AW_region_k tab_ok fun KR hKR => ?_) | ((first | with_reducible refine AW_skip ?_ | with_reducible refine AW_exit ?_ | ((with_reducible refine awOps_nil ?_); refine hKR _ ?_; (try clear hKR KR))); (repeat (with_reducible first | refine q1 ?_ | refine q2 ?_ | refine q3 ?_ | refine q4 ?_ | refine q5 ?_ | refine q6 ?_ | (refine q7 ?_ ?_; (focus (with_unfolding_all rfl)))))) | ((first | ((with_reducible refine at_ops ?_); (first | refine awOps_n rfl fun KK hKK => ?_ | refine awOps_g rfl rfl fun KK hKK => ?_ | refine awOps_gc rfl fun KK hKK => ?_ | refine awOps_nc fun KK hKK => ?_)) | with_reducible refine AW_cond_k (tab := tab) fun KK hKK => ?_); simp (disch := omega) only [bb, bt, zDs, zD, eqCells, simprocAttr, bne_self_eq_false, Int.reduceBNe, Int.reduceBEq, Bool.bne_false, Bool.bne_true, Bool.false_bne, Bool.true_bne, goC, callO_fn, argsD, and_self]; (try ((first | (with_reducible refine ACall.of_pret (cc1) ?_ ?_; (focus (first | (simp only [um]; done) | rfl))) | (with_reducible refine ACall.of_pret (cc2) ?_ ?_; (focus (first | (simp only [um]; done) | rfl))) | (with_reducible refine ACall.of_pret (cc3) ?_ ?_; (focus (first | (simp only [um]; done) | rfl))) | (with_reducible refine ACall.of_pret (cc4) ?_ ?_; (focus (first | (simp only [um]; done) | rfl)))); simp only [afterC, St.put, putTM, ↓reduceIte, Nat.reduceEqDiff])); refine hKK _ ?_; clear hKK KK; (first | with_reducible refine at_ops ?_ | with_reducible refine i1 ?_ | with_reducible refine i0 ?_))))
  (first | exact hq | (revert hKR; revert KR; exact hq))) : P := h c1 c2 c3 c4 q
set_option linter.unusedSimpArgs false

/-! Chapter 13: what its laws use. -/
theorem f13 (n : Int) : PRet Try.prog 57 [int n] (frD (n, 1)) := by
  refine PRet.intro 1 fun t => ACall.enter tab_ok Try.func57 rfl rfl Try.ntmps57 (by simp) ?_
  simp only [enterTM]
  ((refine gga0 ?_))
  ((repeat refine AW_seq ?_); (refine wta ?_); simp (disch := omega) only [retQ, resD, oneD, rsv, rs, rsL, rsL_eq_map, List.map_map, bb, bt, zDs, zD, eqCells, simprocAttr, Try.results57])
def ex13 : Sy := ⟨[⟨hB, 10⟩], [⟨hR, [⟨hE, 0, 1, 1⟩, ⟨hB, 2, 1, 1⟩, ⟨hE, 0, 1, 1⟩], true⟩]⟩
theorem example13 : PRet Try.prog 113 [] (syD ex13) := by
  refine PRet.intro 4 fun t => ACall.enter tab_ok Try.func113 rfl rfl Try.ntmps113 (by simp) ?_
  simp only [enterTM]
  have h1 := f13 1
  ((refine gga1 h1 ?_))
  ((repeat refine AW_seq ?_); (refine wta ?_); simp (disch := omega) only [retQ, resD, oneD, rsv, rs, rsL, rsL_eq_map, List.map_map, bb, bt, zDs, zD, eqCells, simprocAttr, Try.results113])
  rfl
theorem ex13_fits : Fits ex13 := small_fits (by decide +kernel)
theorem ex13_for : forP ex13 hB = ((2, 1), 0) := by decide +kernel
theorem ex13_trav : travP ex13 hB = ((2, 1), 0) := by decide +kernel
theorem ex13_work : workP ex13 [6] = ((30, 1), (30, 1), 0) := by decide +kernel
set_option maxHeartbeats 2000000 in
theorem awake13 : PRet Try.prog 51 [] (bool true) := by
  refine PRet.intro 1 fun t => ACall.enter tab_ok Try.func51 rfl rfl Try.ntmps51 (by simp) ?_
  simp only [enterTM]
  have hX := example13
  have hF : PRet Try.prog 53 [syD ex13, str ⟨#[98]⟩] (fe ((2, 1), 0)) := by
    have := forces13 ex13 ex13_fits hB
    rwa [ex13_for] at this
  have hT : PRet Try.prog 54 [syD ex13, str ⟨#[98]⟩] (fe ((2, 1), 0)) := by
    have := travels13 ex13 ex13_fits hB
    rwa [ex13_trav] at this
  have hW : PRet Try.prog 55 [syD ex13, .sl 1 [int 6] false] (.tup [frD (30, 1), frD (30, 1), int 0]) := by
    have := work13 ex13 ex13_fits [6] (by simp)
    rwa [ex13_work] at this
  have h2 := f13 2
  have h3 := f13 30
  generalize ex13 = e at *
  ((refine gga4_AWL hX hF hT hW ?_))
  ((repeat refine AW_seq ?_); (refine gdza2 h2 h3 ?_))
  ((repeat refine AW_seq ?_); (refine wta ?_); simp (disch := omega) only [retQ, resD, oneD, rsv, rs, rsL, rsL_eq_map, List.map_map, bb, bt, zDs, zD, eqCells, simprocAttr, Try.results51])
theorem large13 (s : Sy) : PRet Try.prog 52 [syD s] (bool (!smallS s)) := by
  refine PRet.intro 1 fun t => ACall.enter tab_ok Try.func52 rfl rfl Try.ntmps52 (by simp) ?_
  simp only [enterTM]
  have hS := small_ref s
  cases hs : smallS s
  all_goals
    rw [hs] at hS
    ((refine gga1 hS ?_))
    ((repeat refine AW_seq ?_); (refine wta ?_); simp (disch := omega) only [retQ, resD, oneD, rsv, rs, rsL, rsL_eq_map, List.map_map, bb, bt, zDs, zD, eqCells, simprocAttr, Try.results52])
/-! AdvantageSame. -/
set_option maxHeartbeats 2000000 in
theorem law_same13 (s : Sy) (nm : ByteArray) : PRet Try.prog 8 [syD s, str nm] (bool true) := by
  refine PRet.intro 1 fun t => ACall.enter tab_ok Try.func8 rfl rfl Try.ntmps8 (by simp) ?_
  simp only [enterTM]
  have hL := large13 s
  cases hs : smallS s
  · rw [hs] at hL
    ((refine gga2 awake13 hL ?_))
    ((repeat refine AW_seq ?_); (refine wta ?_); simp (disch := omega) only [retQ, resD, oneD, rsv, rs, rsL, rsL_eq_map, List.map_map, bb, bt, zDs, zD, eqCells, simprocAttr, Try.results8])
  rw [hs] at hL
  by_cases hn : (60 : Int) < nm.size
  · ((refine ggb2 hn awake13 hL ?_))
    ((repeat refine AW_seq ?_); (refine wta ?_); simp (disch := omega) only [retQ, resD, oneD, rsv, rs, rsL, rsL_eq_map, List.map_map, bb, bt, zDs, zD, eqCells, simprocAttr, Try.results8])
  have hf := small_fits hs
  have hF := forces13 s hf nm
  have hT := travels13 s hf nm
  have hnF := forP_nil (s := s) (nm := nm)
  have hnT := travP_nil (s := s) (nm := nm)
  have hsm := adv_same (s := s) (nm := nm)
  generalize forP s nm = X at *
  generalize travP s nm = Y at *
  obtain ⟨x, xe⟩ := X
  obtain ⟨y, ye⟩ := Y
  simp only at *
  by_cases h1 : xe = 0
  · subst h1
    by_cases h2 : ye = 0
    · subst h2
      obtain ⟨rfl, h3⟩ := hsm rfl rfl
      have h3' : (x.1 != 0) = true := by simpa using h3
      have e1 : (x.1 == x.1) = true := by simp
      have e2 : (x.2 == x.2) = true := by simp
      ((refine ggb4 (F := _∧_∧_∧_) ⟨hn, e1, e2, h3'⟩ awake13 hL hF hT ?_))
      ((repeat refine AW_seq ?_); (refine wta ?_); simp (disch := omega) only [retQ, resD, oneD, rsv, rs, rsL, rsL_eq_map, List.map_map, bb, bt, zDs, zD, eqCells, simprocAttr, Try.results8])
    · have e1 : (ye != 0) = true := by simpa using h2
      have e2 : (ye == 0) = false := by simpa using h2
      obtain rfl := hnT h2
      ((refine ggb4 (F := _∧_∧_) ⟨hn, e1, e2⟩ awake13 hL hF hT ?_))
      ((repeat refine AW_seq ?_); (refine wta ?_); simp (disch := omega) only [retQ, resD, oneD, rsv, rs, rsL, rsL_eq_map, List.map_map, bb, bt, zDs, zD, eqCells, simprocAttr, Try.results8])
  · have e1 : (xe != 0) = true := by simpa using h1
    have e2 : (xe == 0) = false := by simpa using h1
    obtain rfl := hnF h1
    by_cases h2 : ye = 0
    · subst h2
      ((refine ggb4 (F := _∧_∧_) ⟨hn, e1, e2⟩ awake13 hL hF hT ?_))
      ((repeat refine AW_seq ?_); (refine wta ?_); simp (disch := omega) only [retQ, resD, oneD, rsv, rs, rsL, rsL_eq_map, List.map_map, bb, bt, zDs, zD, eqCells, simprocAttr, Try.results8])
    · have e3 : (ye == 0) = false := by simpa using h2
      obtain rfl := hnT h2
      ((refine ggb4 (F := _∧_∧_∧_) ⟨hn, e1, e2, e3⟩ awake13 hL hF hT ?_))
      ((repeat refine AW_seq ?_); (refine wta ?_); simp (disch := omega) only [retQ, resD, oneD, rsv, rs, rsL, rsL_eq_map, List.map_map, bb, bt, zDs, zD, eqCells, simprocAttr, Try.results8])
/-! AdvantageEqual. -/
def mulK (h : List Int) (n : Int) (k : Nat) : List Int := (h.take k).map (· * n) ++ h.drop k
theorem mulK_len (h : List Int) (n : Int) (k : Nat) (hk : k ≤ h.length) : (mulK h n k).length = h.length := by simp [mulK]; omega
theorem mulK_at {h : List Int} {n x : Int} {k : Nat} (hx : h[k]? = some x) : (mulK h n k)[k]? = some x := by
  have hk := (List.getElem?_eq_some_iff.1 hx).1
  unfold mulK
  rw [List.getElem?_append_right (by simp; omega)]
  simp only [List.length_map, List.length_take]
  rw [List.getElem?_drop, Nat.min_eq_left (by omega), Nat.sub_self, Nat.add_zero, hx]
theorem mulK_set {h : List Int} {n x : Int} {k : Nat} (hx : h[k]? = some x) : (mulK h n k).set k (x * n) = mulK h n (k + 1) := by
  have hk := (List.getElem?_eq_some_iff.1 hx).1
  have hl : ((h.take k).map (· * n)).length = k := by simp; omega
  unfold mulK
  rw [List.set_append_right _ _ (by omega), hl, Nat.sub_self, List.take_add_one, hx, Option.toList_some, List.map_append, List.append_assoc, List.drop_eq_getElem_cons hk]
  rfl
theorem mulK_end (h : List Int) (n : Int) : mulK h n h.length = h.map (· * n) := by simp [mulK]
theorem mulK_zero (h : List Int) (n : Int) : mulK h n 0 = h := by simp [mulK]
set_option maxRecDepth 100000 in
set_option maxHeartbeats 8000000 in
theorem law_equal13 (s : Sy) (h : List Int) (n : Int) (hn : 0 ≤ n ∧ n < 256) : PRet Try.prog 9 [syD s, ints h, .v (.int .u8 n)] (bool true) := by
  refine PRet.intro 1 fun t => ACall.enter tab_ok Try.func9 rfl rfl Try.ntmps9 (by simp) ?_
  simp only [enterTM]
  have hL := large13 s
  cases hs : smallS s
  · rw [hs] at hL
    ((refine gga2 awake13 hL ?_))
    ((repeat refine AW_seq ?_); (refine wta ?_); simp (disch := omega) only [retQ, resD, oneD, rsv, rs, rsL, rsL_eq_map, List.map_map, bb, bt, zDs, zD, eqCells, simprocAttr, Try.results9])
  rw [hs] at hL
  by_cases hh : (10 : Int) < h.length
  · ((refine ggb2 hh awake13 hL ?_))
    ((repeat refine AW_seq ?_); (refine wta ?_); simp (disch := omega) only [retQ, resD, oneD, rsv, rs, rsL, rsL_eq_map, List.map_map, bb, bt, zDs, zD, eqCells, simprocAttr, Try.results9])
  have hf := small_fits hs
  have hW := work13 s hf h (by omega)
  have hW2 := work13 s hf (h.map (· * n)) (by rw [List.length_map]; omega)
  obtain ⟨wn, wc⟩ := work_cases (s := s) (h := h)
  have wt := fun h0 => work_times (s := s) (h := h) h0 (n := n) (by omega)
  have ws := work_same (s := s) (h := h)
  have ws2 := work_same (s := s) (h := h.map (· * n))
  have hrange : (workP s h).2.2 = 0 → ∀ x ∈ h, -67108864 ≤ x ∧ x ≤ 67108864 := fun h0 x hx => by
    obtain ⟨_, _, _, _, _, e, _⟩ := wc h0
    obtain ⟨hg, _⟩ := speedsP_full e
    obtain ⟨_, hl, hp⟩ := givH_zero hg
    exact withinP_spec (rangedP_within hl hp) x hx
  clear wc
  generalize workP s h = X at *
  generalize workP s (h.map (· * n)) = Y at *
  obtain ⟨a, b, e⟩ := X
  obtain ⟨c, d, g⟩ := Y
  simp only at *
  by_cases he : e = 0
  rotate_left 1
  · have e1 : (e != 0) = true := by simpa using he
    obtain ⟨rfl, rfl⟩ := wn he
    ((refine ggb3 (F := _∧_) ⟨hh, e1⟩ awake13 hL hW ?_))
    ((repeat refine AW_seq ?_); (refine wta ?_); simp (disch := omega) only [retQ, resD, oneD, rsv, rs, rsL, rsL_eq_map, List.map_map, bb, bt, zDs, zD, eqCells, simprocAttr, Try.results9])
  subst he
  obtain rfl := ws rfl
  have hr := hrange rfl
  have x1 : (a.1 != a.1) = false := by simp
  have x2 : (a.2 != a.2) = false := by simp
  have hC := cloneInts h (by omega)
  have hz := mulK_zero h n
  have hend := mulK_end h n
  ((refine ggb3 (F := _∧_∧_) ⟨hh, x1, x2⟩ awake13 hL hW ?_))
  intro KR hKR
  ((first | refine awOps_nc fun KK hKK => ?_ | refine awOps_gc rfl fun KK hKK => ?_); simp (disch := omega) only [bb, bt, zDs, zD, eqCells, simprocAttr, goC, callO_fn, argsD, and_self]; refine ACall.of_fresh (hC) (by first | (simp only [List.map_cons, List.map_nil, List.append_nil, List.nil_append, List.cons_append, ufa, uf]; done) | rfl) ?_; simp (disch := omega) only [bb, bt, zDs, zD, eqCells, simprocAttr, afterC]; refine hKK _ ?_; clear hKK KK)
  ((refine wra ?_)); ((refine wea ?_); (try clear hKR KR))
  ((refine gga0 ?_))
  ((repeat refine AW_seq ?_))
  refine AW_mid (fun x : Nat => ⟨[(2, .v (.int .u8 n)), (3, .ptr 0 (t + 1) 0), (7, .ptr 1 (t + 1 + 1) 0), (10, .own 1 3 (t + 1 + 1 + 1 + 1) 0 h.length)], [some ⟨49, t + 1, [bks s.bs, rps s.rs]⟩, some ⟨37, t + 1 + 1, [int a.1, int a.2]⟩, none, some ⟨3, t + 1 + 1 + 1 + 1, (mulK h n h.length).map int⟩], x⟩) (fun _ => True) ?_ ?_
  · refine AW_block ?_
    refine AW_loop_w (fun x : Nat × Nat => ⟨[(2, .v (.int .u8 n)), (3, .ptr 0 (t + 1) 0), (7, .ptr 1 (t + 1 + 1) 0), (10, .own 1 3 (t + 1 + 1 + 1 + 1) 0 h.length), (49, int h.length), (50, int x.1)], [some ⟨49, t + 1, [bks s.bs, rps s.rs]⟩, some ⟨37, t + 1 + 1, [int a.1, int a.2]⟩, none, some ⟨3, t + 1 + 1 + 1 + 1, (mulK h n x.1).map int⟩], x.2⟩) (fun x => h.length - x.1) (fun x => x.1 ≤ h.length) (0, t + 1 + 1 + 1 + 1) (Nat.zero_le _) (by (simp (disch := omega) only [StLe, tmLe, hpLe_refl, hpLe, bl, bb, bt, zDs, zD, eqCells, simprocAttr, hz])) ?_
    rintro ⟨k, tt⟩ hk
    simp only at hk
    by_cases hlt : k < h.length
    · obtain ⟨x, hx⟩ : ∃ y, h[k]? = some y := ⟨_, List.getElem?_eq_getElem hlt⟩
      obtain ⟨r1, r2⟩ := hr x (List.mem_of_getElem? hx)
      have hat := mulK_at (n := n) hx
      have hlk := mulK_len h n k hk
      have hset : ((mulK h n k).map int).set k (int (x * n)) = (mulK h n (k + 1)).map int := by rw [← mulK_set hx, List.map_set]
      have c1 : ¬ (1099511627776 : Int) < x := by omega
      have c2 : ¬ x < -1099511627776 := by omega
      have b1 : -(67108864 * 255) ≤ x * n ∧ x * n ≤ 67108864 * 255 := by
        have p1 := Int.mul_le_mul_of_nonneg_right r1 hn.1
        have p2 := Int.mul_le_mul_of_nonneg_right r2 hn.1
        omega
      have hw := wr64 (x * n) (by omega)
      ((refine ggb0 (F := _∧_) ⟨@Int.ofNat_lt, hlt⟩ ?_))
      ((repeat refine AW_seq ?_))
      refine AW_block ?_
      ((refine ggb0 (F := _∧_∧_∧_∧_∧_∧_) ⟨hlt, hat, hlk, c1, c2, hw, hset⟩ ?_))
      refine ⟨(k + 1, tt), hlt, by show h.length - (k + 1) < h.length - k; omega, ?_⟩
      (simp (disch := omega) only [StLe, tmLe, hpLe_refl, hpLe, bl, bb, bt, zDs, zD, eqCells, simprocAttr])
    · have hke : k = h.length := by omega
      subst hke
      ((refine wqb @Int.lt_irrefl ?_))
      ((refine wia ?_))
      ((refine wxa ?_))
      exact ⟨tt, trivial, by (simp (disch := omega) only [StLe, tmLe, hpLe_refl, hpLe, bl, bb, bt, zDs, zD, eqCells, simprocAttr])⟩
  rintro tt -
  rw [hend]
  have hfin : List.take h.length ((h.map (· * n)).map int) = (h.map (· * n)).map int := List.take_of_length_le (by simp)
  have hle : h.length ≤ (h.map (· * n)).length := by simp
  ((refine AW.freeze (3) (by first | rfl | (simp only [setH, List.getElem?_cons_zero, List.getElem?_cons_succ, fzL_ints, fz_bk, fz_rp, hfin, hle, List.length_map, Nat.le_refl]; done)) ?_); simp (disch := omega) only [fzT, fz, fzL, fzL_ints, fzL_mat, fzH, fzB, eq_self, bb, bt, zDs, zD, eqCells, simprocAttr, fzL_ints, fz_bk, fz_rp, hfin, hle, List.length_map, Nat.le_refl])
  rcases wt rfl with ⟨h0, hm⟩ | h0 | h0
  rotate_left 1
  · subst h0
    ((refine gga1 hW2 ?_))
    ((repeat refine AW_seq ?_); (refine wta ?_); simp (disch := omega) only [retQ, resD, oneD, rsv, rs, rsL, rsL_eq_map, List.map_map, bb, bt, zDs, zD, eqCells, simprocAttr, Try.results9])
  · subst h0
    ((refine gga1 hW2 ?_))
    ((repeat refine AW_seq ?_); (refine wta ?_); simp (disch := omega) only [retQ, resD, oneD, rsv, rs, rsL, rsL_eq_map, List.map_map, bb, bt, zDs, zD, eqCells, simprocAttr, Try.results9])
  subst h0
  obtain rfl := ws2 rfl
  have hF := f13 n
  have hM := rMul a (n, 1)
  generalize mulP a (n, 1) = M at *
  have x3 : (c.1 == c.1) = true := by simp
  have x4 : (c.2 == c.2) = true := by simp
  ((refine gga1 hW2 ?_))
  ((repeat refine AW_seq ?_); (refine gdoa2_AWL hF hM ?_))
  by_cases hm0 : M.2 = 0
  · have x5 : (M.2 != 0) = false := by simpa using hm0
    rw [← hm hm0]
    ((refine ggb0 (F := _∧_∧_) ⟨x3, x4, x5⟩ ?_))
    ((repeat refine AW_seq ?_); (refine wta ?_); simp (disch := omega) only [retQ, resD, oneD, rsv, rs, rsL, rsL_eq_map, List.map_map, bb, bt, zDs, zD, eqCells, simprocAttr, Try.results9])
  · have x5 : (M.2 != 0) = true := by simpa using hm0
    ((refine ggb0 (F := _∧_∧_) ⟨x3, x4, x5⟩ ?_))
    ((repeat refine AW_seq ?_); (refine wta ?_); simp (disch := omega) only [retQ, resD, oneD, rsv, rs, rsL, rsL_eq_map, List.map_map, bb, bt, zDs, zD, eqCells, simprocAttr, Try.results9])
end Go.Proofs.Ytjjpjgnoanfaoaa.T

/- What the arguments of chapter 4's laws stand for. -/
section
namespace Go.Proofs.Ytjjpjgnoanfaoaa.T
open Go Go.RowKit Go.ChangeShapes

theorem slice_one {P : Program} {w : World} {r : Reach} {base : Nat} {t e : TypeId} {v : Value} (ht : P.underlying t = some (.slice e)) (h : Value.okWide P w r base t v) : v.cells = #[v] := by
  simp only [Value.okWide, ht, Cell.okWide] at h
  cases v <;> simp_all [Value.cells, Cell.ok]
theorem ints_of : ∀ {rows : List (List D)}, (∀ r ∈ rows, (∃ n, r = [int n] ∧ (Lit.int .i64 n).wf = true) ∧ r.length = 1) → ∃ l : List Int, rows.flatten = l.map int ∧ ∀ x ∈ l, (Lit.int .i64 x).wf = true
  | [], _ => ⟨[], rfl, by simp⟩
  | r :: rows, h => by
    obtain ⟨⟨n, rfl, hw⟩, _⟩ := h r (by simp)
    obtain ⟨l, e, hl⟩ := ints_of fun x hx => h x (List.mem_cons_of_mem _ hx)
    exact ⟨n :: l, by simp [e], fun x hx => by
      rcases List.mem_cons.1 hx with rfl | hx
      · exact hw
      · exact hl x hx⟩
theorem rows_of : ∀ {rows : List (List D)}, (∀ r ∈ rows, (∃ l : List Int, r = [ints l] ∧ ∀ x ∈ l, (Lit.int .i64 x).wf = true) ∧ r.length = 1) → ∃ m : List (List Int), rows.flatten = m.map ints ∧ ∀ l ∈ m, ∀ x ∈ l, (Lit.int .i64 x).wf = true
  | [], _ => ⟨[], rfl, by simp⟩
  | r :: rows, h => by
    obtain ⟨⟨n, rfl, hw⟩, _⟩ := h r (by simp)
    obtain ⟨l, e, hl⟩ := rows_of fun x hx => h x (List.mem_cons_of_mem _ hx)
    exact ⟨n :: l, by simp [e], fun x hx => by
      rcases List.mem_cons.1 hx with rfl | hx
      · exact hw
      · exact hl x hx⟩

theorem u8_of {x : Int} (h : (Lit.int .u8 x).wf = true) : 0 ≤ x ∧ x < 256 := by
  rw [Lit.wf, Bool.and_eq_true] at h
  have h1 := of_decide_eq_true h.1
  have h2 := of_decide_eq_true h.2
  have e1 : IntKind.u8.min = 0 := rfl
  have e2 : IntKind.u8.max = 255 := rfl
  rw [e1] at h1
  rw [e2] at h2
  exact ⟨h1, by omega⟩
theorem cellsInt : Try.prog.cellsOf 3 = 1 := by kernel_rfl
theorem cellsInts : Try.prog.cellsOf 81 = 1 := by kernel_rfl
section
variable {H : Type} {enc : TypeId × Value → H} {W : World}
theorem opn_ints : Opn enc Try.prog W 81 fun ds => ∃ l : List Int, ds = [ints l] ∧ ∀ x ∈ l, (Lit.int .i64 x).wf = true :=
  (Opn.slice Try.underlying81 cellsInt (by decide) (Opn.int Try.underlying3)).mono fun ds ⟨rows, e, h, _⟩ => by
    obtain ⟨l, e2, hl⟩ := ints_of h
    exact ⟨l, by rw [e, e2], hl⟩
theorem opn_mat : Opn enc Try.prog W 118 fun ds => ∃ m : List (List Int), ds = [mat m] ∧ ∀ l ∈ m, ∀ x ∈ l, (Lit.int .i64 x).wf = true :=
  (Opn.slice Try.underlying118 cellsInts (by decide) opn_ints).mono fun ds ⟨rows, e, h, _⟩ => by
    obtain ⟨l, e2, hl⟩ := rows_of h
    exact ⟨l, by rw [e, e2], hl⟩
end
end Go.Proofs.Ytjjpjgnoanfaoaa.T
end

/- Arguments that are lists of fractions. -/
section
namespace Go.Proofs.Ytjjpjgnoanfaoaa.T
open Go Go.RowKit Go.ChangeShapes

theorem fracs_of : ∀ {rows : List (List D)}, (∀ r ∈ rows, (∃ a b, r = [int a, int b]) ∧ r.length = 2) → ∃ l : List (Int × Int), rows.flatten = frC l
  | [], _ => ⟨[], rfl⟩
  | r :: rows, h => by
    obtain ⟨⟨a, b, rfl⟩, _⟩ := h r (by simp)
    obtain ⟨l, e⟩ := fracs_of fun x hx => h x (List.mem_cons_of_mem _ hx)
    exact ⟨(a, b) :: l, by simp [e, frC]⟩
theorem cellsFrac : Try.prog.cellsOf 37 = 2 := by kernel_rfl
section
variable {H : Type} {enc : TypeId × Value → H} {W : World}
theorem opn_frac : Opn enc Try.prog W 37 fun ds => ∃ a b, ds = [int a, int b] :=
  (Opn.struct Try.underlying37 ⟨_, _, rfl, rfl, Opn.int Try.underlying3, _, _, rfl, by simp only [cellsInt], Opn.int Try.underlying3, rfl⟩ (by kernel_rfl)).mono fun ds h => by
    obtain ⟨d1, r1, rfl, ⟨a, rfl, _⟩, d2, r2, rfl, ⟨b, rfl, _⟩, rfl⟩ := h
    exact ⟨a, b, rfl⟩
theorem opn_fracs : Opn enc Try.prog W 51 fun ds => ∃ l : List (Int × Int), ds = [frs l] ∧ True :=
  (Opn.slice Try.underlying51 cellsFrac (by decide) opn_frac).mono fun ds ⟨rows, e, h, _⟩ => by
    obtain ⟨l, e2⟩ := fracs_of h
    exact ⟨l, by rw [e, e2], trivial⟩
end
end Go.Proofs.Ytjjpjgnoanfaoaa.T
end

/- Arguments that are systems. -/
section
namespace Go.Proofs.Ytjjpjgnoanfaoaa.T
open Go Go.RowKit Go.ChangeShapes

theorem flats_of {α : Type} {f : α → List D} {n : Nat} : ∀ {rows : List (List D)}, (∀ r ∈ rows, (∃ x, r = f x) ∧ r.length = n) → ∃ l : List α, rows.flatten = l.flatMap f
  | [], _ => ⟨[], rfl⟩
  | r :: rows, h => by
    obtain ⟨⟨x, rfl⟩, _⟩ := h r (by simp)
    obtain ⟨l, e⟩ := flats_of fun x hx => h x (List.mem_cons_of_mem _ hx)
    exact ⟨x :: l, by simp [e]⟩
theorem cellsHold : Try.prog.cellsOf 66 = 4 := by kernel_rfl
theorem cellsRope : Try.prog.cellsOf 61 = 3 := by kernel_rfl
theorem cellsBlock : Try.prog.cellsOf 57 = 2 := by kernel_rfl
theorem agg_of {P : Program} {w : World} {r : Reach} {base : Nat} {t : TypeId} {fs : Array Field} {v : Value} (ht : P.underlying t = some (.struct fs)) (h : Value.okWide P w r base t v) : ∃ cs, v = .agg cs := by
  simp only [Value.okWide, ht] at h
  obtain ⟨cs, e, _⟩ := h
  exact ⟨cs, e⟩
section
variable {H : Type} {enc : TypeId × Value → H} {W : World}
theorem opn_hold : Opn enc Try.prog W 66 fun ds => ∃ h : Hd, ds = hd1 h :=
  (Opn.struct Try.underlying66 ⟨_, _, rfl, (by kernel_rfl), Opn.str Try.underlying9, _, _, rfl, (by kernel_rfl), Opn.int Try.underlying3, _, _, rfl, (by kernel_rfl), opn_frac, rfl⟩ (by kernel_rfl)).mono fun ds h => by
    obtain ⟨d1, r1, rfl, ⟨s, rfl, _⟩, d2, r2, rfl, ⟨p, rfl, _⟩, d3, r3, rfl, ⟨a, b, rfl⟩, rfl⟩ := h
    exact ⟨⟨s, p, a, b⟩, rfl⟩
theorem opn_holds : Opn enc Try.prog W 59 fun ds => ∃ l : List Hd, ds = [hds l] :=
  (Opn.slice Try.underlying59 cellsHold (by decide) opn_hold).mono fun ds ⟨rows, e, h, _⟩ => by
    obtain ⟨l, e2⟩ := flats_of h
    exact ⟨l, by rw [e, e2]; rfl⟩
theorem opn_rope : Opn enc Try.prog W 61 fun ds => ∃ r : Rp, ds = rp1 r :=
  (Opn.struct Try.underlying61 ⟨_, _, rfl, (by kernel_rfl), Opn.str Try.underlying9, _, _, rfl, (by kernel_rfl), opn_holds, _, _, rfl, (by kernel_rfl), Opn.bool Try.underlying4, rfl⟩ (by kernel_rfl)).mono fun ds h => by
    obtain ⟨d1, r1, rfl, ⟨s, rfl, _⟩, d2, r2, rfl, ⟨l, rfl⟩, d3, r3, rfl, ⟨b, rfl⟩, rfl⟩ := h
    exact ⟨⟨s, l, b⟩, rfl⟩
theorem opn_ropes : Opn enc Try.prog W 47 fun ds => ∃ l : List Rp, ds = [rps l] :=
  (Opn.slice Try.underlying47 cellsRope (by decide) opn_rope).mono fun ds ⟨rows, e, h, _⟩ => by
    obtain ⟨l, e2⟩ := flats_of h
    exact ⟨l, by rw [e, e2]; rfl⟩
theorem opn_block : Opn enc Try.prog W 57 fun ds => ∃ b : Bk, ds = bk1 b :=
  (Opn.struct Try.underlying57 ⟨_, _, rfl, (by kernel_rfl), Opn.str Try.underlying9, _, _, rfl, (by kernel_rfl), Opn.int Try.underlying3, rfl⟩ (by kernel_rfl)).mono fun ds h => by
    obtain ⟨d1, r1, rfl, ⟨s, rfl, _⟩, d2, r2, rfl, ⟨p, rfl, _⟩, rfl⟩ := h
    exact ⟨⟨s, p⟩, rfl⟩
theorem opn_blocks : Opn enc Try.prog W 46 fun ds => ∃ l : List Bk, ds = [bks l] :=
  (Opn.slice Try.underlying46 cellsBlock (by decide) opn_block).mono fun ds ⟨rows, e, h, _⟩ => by
    obtain ⟨l, e2⟩ := flats_of h
    exact ⟨l, by rw [e, e2]; rfl⟩
theorem opn_sys : Opn enc Try.prog W 49 fun ds => ∃ s : Sy, ds = [bks s.bs, rps s.rs] :=
  (Opn.struct Try.underlying49 ⟨_, _, rfl, (by kernel_rfl), opn_blocks, _, _, rfl, (by kernel_rfl), opn_ropes, rfl⟩ (by kernel_rfl)).mono fun ds h => by
    obtain ⟨d1, r1, rfl, ⟨a, rfl⟩, d2, r2, rfl, ⟨b, rfl⟩, rfl⟩ := h
    exact ⟨⟨a, b⟩, rfl⟩
theorem arg_sys {v : Value} {base : Nat} {r : Reach} {d : DataW H} {p : List MemPlace} (h : DataW.Trod enc Try.prog W 0 (fun _ => true) true 49 v d p) (hv : Value.okWide Try.prog W r base 49 v) : ∃ s : Sy, Rep (memOf W) [] (syD s) v := by
  obtain ⟨cs, rfl⟩ : ∃ cs, v = .agg cs := by
    simp only [Value.okWide, Try.underlying49] at hv
    obtain ⟨cs, e, _⟩ := hv
    exact ⟨cs, e⟩
  obtain ⟨ds, hr, s, rfl⟩ := arg_agg opn_sys h
  exact ⟨s, hr⟩
theorem cellsSys : Try.prog.cellsOf 49 = 2 := by kernel_rfl
theorem opn_syss : Opn enc Try.prog W 89 fun ds => ∃ l : List Sy, ds = [sys l] ∧ True :=
  (Opn.slice Try.underlying89 cellsSys (by decide) opn_sys).mono fun ds ⟨rows, e, h, _⟩ => by
    obtain ⟨l, e2⟩ := flats_of (f := sy1) h
    exact ⟨l, by rw [e, e2], trivial⟩
theorem arg_rope {v : Value} {base : Nat} {r : Reach} {d : DataW H} {p : List MemPlace} (h : DataW.Trod enc Try.prog W 0 (fun _ => true) true 61 v d p) (hv : Value.okWide Try.prog W r base 61 v) : ∃ s : Rp, Rep (memOf W) [] (.agg (rp1 s)) v := by
  obtain ⟨cs, rfl⟩ : ∃ cs, v = .agg cs := by
    simp only [Value.okWide, Try.underlying61] at hv
    obtain ⟨cs, e, _⟩ := hv
    exact ⟨cs, e⟩
  obtain ⟨ds, hr, s, rfl⟩ := arg_agg opn_rope h
  exact ⟨s, hr⟩
theorem arg_frac {v : Value} {base : Nat} {r : Reach} {d : DataW H} {p : List MemPlace} (h : DataW.Trod enc Try.prog W 0 (fun _ => true) true 37 v d p) (hv : Value.okWide Try.prog W r base 37 v) : ∃ s : Int × Int, Rep (memOf W) [] (frD s) v := by
  obtain ⟨cs, rfl⟩ : ∃ cs, v = .agg cs := by
    simp only [Value.okWide, Try.underlying37] at hv
    obtain ⟨cs, e, _⟩ := hv
    exact ⟨cs, e⟩
  obtain ⟨ds, hr, a, b, rfl⟩ := arg_agg opn_frac h
  exact ⟨(a, b), hr⟩
abbrev u16s (l : List Int) : D := .sl 1 (l.map fun n => .v (.int .u16 n)) false
theorem u16_of {x : Int} (h : (Lit.int .u16 x).wf = true) : 0 ≤ x ∧ x < 65536 := by
  rw [Lit.wf, Bool.and_eq_true] at h
  have h1 := of_decide_eq_true h.1
  have h2 := of_decide_eq_true h.2
  have e1 : IntKind.u16.min = 0 := rfl
  have e2 : IntKind.u16.max = 65535 := rfl
  rw [e1] at h1
  rw [e2] at h2
  exact ⟨h1, by omega⟩
theorem u16_rows : ∀ {rows : List (List D)}, (∀ r ∈ rows, (∃ n, r = [.v (.int .u16 n)] ∧ (Lit.int .u16 n).wf = true) ∧ r.length = 1) → ∃ l : List Int, rows.flatten = l.map (fun n => .v (.int .u16 n)) ∧ ∀ x ∈ l, (Lit.int .u16 x).wf = true
  | [], _ => ⟨[], rfl, by simp⟩
  | r :: rows, h => by
    obtain ⟨⟨n, rfl, hw⟩, _⟩ := h r (by simp)
    obtain ⟨l, e, hl⟩ := u16_rows fun x hx => h x (List.mem_cons_of_mem _ hx)
    exact ⟨n :: l, by simp [e], fun x hx => by
      rcases List.mem_cons.1 hx with rfl | hx
      · exact hw
      · exact hl x hx⟩
theorem cellsU16 : Try.prog.cellsOf 69 = 1 := by kernel_rfl
theorem opn_u16s : Opn enc Try.prog W 68 fun ds => ∃ l : List Int, ds = [u16s l] ∧ ∀ x ∈ l, (Lit.int .u16 x).wf = true :=
  (Opn.slice Try.underlying68 cellsU16 (by decide) (Opn.int Try.underlying69)).mono fun ds ⟨rows, e, h, _⟩ => by
    obtain ⟨l, e2, hl⟩ := u16_rows h
    exact ⟨l, by rw [e, e2], hl⟩
theorem opn_span : Opn enc Try.prog W 23 fun ds => ∃ a b, ds = [int a, int b] :=
  (Opn.struct Try.underlying23 ⟨_, _, rfl, rfl, Opn.int Try.underlying3, _, _, rfl, by simp only [cellsInt], Opn.int Try.underlying3, rfl⟩ (by kernel_rfl)).mono fun ds h => by
    obtain ⟨d1, r1, rfl, ⟨a, rfl, _⟩, d2, r2, rfl, ⟨b, rfl, _⟩, rfl⟩ := h
    exact ⟨a, b, rfl⟩
theorem arg_span {v : Value} {base : Nat} {r : Reach} {d : DataW H} {p : List MemPlace} (h : DataW.Trod enc Try.prog W 0 (fun _ => true) true 23 v d p) (hv : Value.okWide Try.prog W r base 23 v) : ∃ s : Int × Int, Rep (memOf W) [] (frD s) v := by
  obtain ⟨cs, rfl⟩ : ∃ cs, v = .agg cs := by
    simp only [Value.okWide, Try.underlying23] at hv
    obtain ⟨cs, e, _⟩ := hv
    exact ⟨cs, e⟩
  obtain ⟨ds, hr, a, b, rfl⟩ := arg_agg opn_span h
  exact ⟨(a, b), hr⟩
theorem u64_of {x : Int} (h : (Lit.int .u64 x).wf = true) : 0 ≤ x ∧ x ≤ 18446744073709551615 := by
  rw [Lit.wf, Bool.and_eq_true] at h
  have h1 := of_decide_eq_true h.1
  have h2 := of_decide_eq_true h.2
  have e1 : IntKind.u64.min = 0 := rfl
  have e2 : IntKind.u64.max = 18446744073709551615 := rfl
  rw [e1] at h1
  rw [e2] at h2
  exact ⟨h1, h2⟩
end
end Go.Proofs.Ytjjpjgnoanfaoaa.T
end

/- The signs of the head's word (printed by mkmake.py): the kernel need not take a long string apart. -/
namespace Go.Proofs.Ytjjpjgnoanfaoaa.T
open Go Go.RowKit Go.Joins
def wordSigns0 : List Char := [104,97,114,110,101,115,115,32,49,97,49,101,98,56,101,56,98,53,99,50,97,51,50,48,50,55,97,48,50,57,50,56,50,52,50,48,51,54,53,50,102,99,100,97,56,49,48,52,99,54,49,55,102,57,51,55,49,101,102,53,98,52,56,56].map Char.ofNat
def wordSigns1 : List Char := [51,100,51,102,57,52,53,98,32,99,117,116,32,97,116,32,108,111,102,116,98,108,111,99,107,47,108,111,102,116,98,108,111,99,107,108,97,119,48,51,46,83,112,97,110,78,97,114,114,111,119,32,108,111,102,116,98,108,111,99,107,47,108,111].map Char.ofNat
def wordSigns2 : List Char := [102,116,98,108,111,99,107,108,97,119,48,51,46,83,112,97,110,70,114,97,99,116,105,111,110,115,32,108,111,102,116,98,108,111,99,107,47,108,111,102,116,98,108,111,99,107,108,97,119,49,49,46,83,116,97,116,105,99,115,84,117,114,110,115].map Char.ofNat
def wordSigns3 : List Char := [32,108,111,102,116,98,108,111,99,107,47,108,111,102,116,98,108,111,99,107,108,97,119,49,49,46,83,116,97,116,105,99,115,65,100,100,115,32,108,111,102,116,98,108,111,99,107,47,108,111,102,116,98,108,111,99,107,108,97,119,49,54,46,77].map Char.ofNat
def wordSigns4 : List Char := [111,98,105,108,105,116,121,79,114,100,101,114,32,108,111,102,116,98,108,111,99,107,47,108,111,102,116,98,108,111,99,107,108,97,119,49,51,46,65,100,118,97,110,116,97,103,101,83,97,109,101,32,108,111,102,116,98,108,111,99,107,47,108,111].map Char.ofNat
def wordSigns5 : List Char := [102,116,98,108,111,99,107,108,97,119,49,51,46,65,100,118,97,110,116,97,103,101,69,113,117,97,108,32,108,111,102,116,98,108,111,99,107,47,108,111,102,116,98,108,111,99,107,108,97,119,49,51,46,65,100,118,97,110,116,97,103,101,79,119].map Char.ofNat
def wordSigns6 : List Char := [110,32,108,111,102,116,98,108,111,99,107,47,108,111,102,116,98,108,111,99,107,108,97,119,49,51,46,65,100,118,97,110,116,97,103,101,72,111,108,100,115,32,108,111,102,116,98,108,111,99,107,47,108,111,102,116,98,108,111,99,107,108,97,119].map Char.ofNat
def wordSigns7 : List Char := [49,52,46,76,111,115,115,101,115,84,119,105,99,101,32,108,111,102,116,98,108,111,99,107,47,108,111,102,116,98,108,111,99,107,108,97,119,49,52,46,76,111,115,115,101,115,65,108,111,110,103].map Char.ofNat
def wordSigns : List Char := wordSigns0 ++ wordSigns1 ++ wordSigns2 ++ wordSigns3 ++ wordSigns4 ++ wordSigns5 ++ wordSigns6 ++ wordSigns7
theorem word_is : Try.prog.initOrder.toList = wordSigns := by
  have h : Try.prog.initOrder = String.ofList wordSigns := by kernel_rfl
  rw [h, String.toList_ofList]
theorem word_cut : behindMainWord (wordsSigns wordSigns) = "cut".toList :: (behindMainWord (wordsSigns wordSigns)).tail := by kernel_rfl
theorem make_of (P : Program) (l : List Char) (h : P.initOrder.toList = l) (r : List (List Char)) (hr : behindMainWord (wordsSigns l) = "cut".toList :: r) : P.make = some .cut := by
  unfold Program.make
  rw [h, hr]
  rfl
theorem enter_of (P : Program) (l : List Char) (h : P.initOrder.toList = l) (r : List (List Char)) (hr : behindMainWord (wordsSigns l) = "cut".toList :: r) (h1 : P.laysLater = false) (h2 : P.bearsReflect = false) (h3 : P.doorFits [] = true) (hs : stripLifts liftWords ("cut".toList :: r) = ([], "cut".toList :: r)) : P.mayEnter = true := by
  unfold Program.mayEnter
  rw [h, hr]
  simp only [hs, h1, h2, h3]
  rfl
theorem word_make : Try.prog.make = some .cut := make_of _ wordSigns word_is _ word_cut
theorem word_enter : Try.prog.mayEnter = true := enter_of _ wordSigns word_is _ word_cut (by kernel_rfl) (by kernel_rfl) (by kernel_rfl) (by kernel_rfl)
theorem word_lifts : Try.prog.liftsFinal = false := by
  unfold Program.liftsFinal Program.headLifts
  rw [word_is]
  kernel_rfl
theorem word_enterP : Try.pinned.checked.prog.mayEnter = true := word_enter
theorem word_liftsP : Try.pinned.checked.prog.liftsFinal = false := word_lifts
theorem word_makeP : Try.pinned.checked.prog.make = some .cut := word_make
end Go.Proofs.Ytjjpjgnoanfaoaa.T

