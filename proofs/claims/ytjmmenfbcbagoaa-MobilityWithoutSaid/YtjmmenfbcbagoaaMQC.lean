import Derived.Test.YtjmmenfbcbagoaaMQA
import Derived.Test.YtjmmenfbcbagoaaWN
import Derived.Test.YtjmmenfbcbagoaaLHF
set_option linter.all false
section
namespace Go.Proofs.Ytjmmenfbcbagoaa.T
open Go Go.RowKit Lin
theorem gdzb3_MQC {F C1 C2 C3 P Q : Prop} (f : F) (c1 : C1) (c2 : C2) (c3 : C3) (q : Q) (h : F → C1 → C2 → C3 → Q → P := by
  intro ff cc1 cc2 cc3 hq
  (try with_reducible intro KR hKR)
  (repeat refine AW_seq ?_); (repeat refine AW_seq ?_); (refine AW_drawn_k tab_ok follows_mixed 0 fun KR hKR => ?_); simp only [List.replicate_succ, List.replicate_zero, List.append_nil, List.nil_append, List.cons_append, List.length_cons, List.length_nil, Nat.reduceAdd]; (repeat' ((first | refine awD_n rfl fun KK hKK => ?_ | refine awD_g rfl rfl fun KK hKK => ?_ | refine awD_gc rfl fun KK hKK => ?_ | refine awD_nc fun KK hKK => ?_); simp (disch := omega) only [bb, bt, zDs, zD, eqCells, simprocAttr, ff, bne_self_eq_false, Int.reduceBNe, Int.reduceBEq, Bool.bne_false, Bool.bne_true, Bool.false_bne, Bool.true_bne, goCDS, callDS_fn, argsZ, argsD, ufa, uf]; (try ((first | with_reducible refine PGive.ret (cc1) ?_ | with_reducible refine PGive.ret (cc2) ?_ | with_reducible refine PGive.ret (cc3) ?_); simp (disch := omega) only [bb, bt, zDs, zD, eqCells, simprocAttr, afterDS, ff, bne_self_eq_false, Int.reduceBNe, Int.reduceBEq, Bool.bne_false, Bool.bne_true, Bool.false_bne, Bool.true_bne])); refine hKK _ _ _ ?_; clear hKK KK)); (refine awD_nil ?_); simp only [List.reverse_cons, List.reverse_nil, List.nil_append, List.cons_append]; (refine hKR _ _ (by first | rfl | kernel_rfl) ?_); (try clear hKR KR); (repeat (with_reducible first | refine q1 ?_ | refine q2 ?_ | refine q3 ?_ | refine q4 ?_ | refine q5 ?_ | refine q6 ?_ | (refine q7 ?_ ?_; (focus (with_unfolding_all rfl)))))
  (first | exact hq | (revert hKR; revert KR; exact hq))) : P := h f c1 c2 c3 q
set_option linter.unusedSimpArgs false

/-! Chapter 16: find, without, modes, freedom, jammed. -/
def findM (s : Sy) (nm : ByteArray) : Int × Int := if validS s = true then (if findR s.rs nm < 0 then (0, 9) else (findR s.rs nm, 0)) else (0, 1)
theorem findM1 (r : Rp) (nm : ByteArray) : PRet Try.prog 97 [.agg (rp1 r), .rp [str nm] 0] (bool (decide (r.nm = nm))) := by
  refine PRet.intro 1 fun t => ACall.enter tab_ok Try.func97 rfl rfl Try.ntmps97 (by simp) ?_
  simp only [enterTM]
  ((refine gga0 ?_))
  ((repeat refine AW_seq ?_); (refine wta ?_); simp (disch := omega) only [retQ, resD, oneD, rsv, rs, rsL, rsL_eq_map, List.map_map, bb, bt, zDs, zD, eqCells, simprocAttr, Try.results97])
theorem find_mob (s : Sy) (hf : Fits s) (nm : ByteArray) : PRet Try.prog 61 [syD s, str nm] (.tup [int (findM s nm).1, int (findM s nm).2]) := by
  refine PRet.intro 1 fun t => ACall.enter tab_ok Try.func61 rfl rfl Try.ntmps61 (by simp) ?_
  simp only [enterTM]
  have hV := valid_prog s hf
  have hnr := hf.nr
  have hdr := rpC_div s.rs
  ((refine wqa ?_))
  ((refine AW.freeze (1) (by first | rfl | (simp only [setH, List.getElem?_cons_zero, List.getElem?_cons_succ, fz_bk, fz_rp]; done)) ?_); simp (disch := omega) only [fzT, fz, fzL, fzL_ints, fzL_mat, fzH, fzB, eq_self, bb, bt, zDs, zD, eqCells, simprocAttr, fz_bk, fz_rp])
  have hI := indexFuncRp s.rs 97 [.rp [str nm] 0] (fun b => decide (b.nm = nm)) hnr (fun x _ => findM1 x nm)
  have eI : idx (fun b : Rp => decide (b.nm = nm)) s.rs 0 = findR s.rs nm := rfl
  rw [eI] at hI
  cases hv : validS s
  · rw [hv] at hV
    have e : findM s nm = (0, 1) := by simp [findM, hv]
    ((refine gga1 hV ?_))
    ((repeat refine AW_seq ?_); (refine wta ?_); simp (disch := omega) only [retQ, resD, oneD, rsv, rs, rsL, rsL_eq_map, List.map_map, bb, bt, zDs, zD, eqCells, simprocAttr, Try.results61, e])
  rw [hv] at hV
  by_cases hb : findR s.rs nm < 0
  · have e : findM s nm = (0, 9) := by simp [findM, hv, hb]
    ((refine ggb2 hb hV hI ?_))
    ((repeat refine AW_seq ?_); (refine wta ?_); simp (disch := omega) only [retQ, resD, oneD, rsv, rs, rsL, rsL_eq_map, List.map_map, bb, bt, zDs, zD, eqCells, simprocAttr, Try.results61, e])
  have e : findM s nm = (findR s.rs nm, 0) := by simp [findM, hv, hb]
  ((refine ggb2 hb hV hI ?_))
  ((repeat refine AW_seq ?_); (refine wta ?_); simp (disch := omega) only [retQ, resD, oneD, rsv, rs, rsL, rsL_eq_map, List.map_map, bb, bt, zDs, zD, eqCells, simprocAttr, Try.results61, e])
theorem without_call (l : List Int) (m : List (List Int)) (k : Nat) (hk : k < m.length) (hm : m.length ≤ 1000) (t : Nat) : ACall Try.prog 60 [.agg [ints l, mat m], int k] [] t (fun d H' _ => ∃ b g, d = .own 1 b g 0 (m.length - 1) ∧ H'[b]? = some (some ⟨65, g, (m.eraseIdx k).map ints⟩)) := by
  refine ACall.enter tab_ok Try.func60 rfl rfl Try.ntmps60 (by simp) ?_
  simp only [enterTM]
  have hC := cloneRows m (by omega)
  ((refine wqa ?_))
  ((repeat refine AW_seq ?_); (refine AW_region_k tab_ok fun KR hKR => ?_)); ((refine wra ?_))
  ((first | refine awOps_nc fun KK hKK => ?_ | refine awOps_gc rfl fun KK hKK => ?_); simp (disch := omega) only [bb, bt, zDs, zD, eqCells, simprocAttr, goC, callO_fn, argsD, and_self]; refine ACall.of_fresh (hC) (by first | (simp only [List.map_cons, List.map_nil, List.append_nil, List.nil_append, List.cons_append, ufa, uf]; done) | rfl) ?_; simp (disch := omega) only [bb, bt, zDs, zD, eqCells, simprocAttr, afterC]; refine hKK _ ?_; clear hKK KK)
  ((refine wra ?_))
  ((try with_reducible intro KR hKR); (first | refine awOps_nc fun KK hKK => ?_ | refine awOps_gc rfl fun KK hKK => ?_); simp (disch := omega) only [bb, bt, zDs, zD, eqCells, simprocAttr, goC, callO_fn, argsD, and_self])
  refine delete_mat (bl := ⟨65, t + 1 + 1, m.map ints⟩) (l := m) rfl rfl rfl hk ?_
  (simp (disch := omega) only [bb, bt, zDs, zD, eqCells, simprocAttr, afterC]; refine hKK _ ?_; clear hKK KK)
  ((refine wra ?_)); ((refine wea ?_); (try clear hKR KR))
  ((repeat refine AW_seq ?_); (refine wta ?_); simp (disch := omega) only [retQ, resD, oneD, bb, bt, zDs, zD, eqCells, simprocAttr, Try.results60])
  exact ⟨1, t + 1 + 1 + 1, rfl, rfl⟩
theorem without_fresh (l : List Int) (m : List (List Int)) (k : Nat) (hk : k < m.length) (hm : m.length ≤ 1000) : PFresh Try.prog 60 [.agg [ints l, mat m], int k] 65 1 (m.length - 1) ((m.eraseIdx k).map ints) :=
  PFresh.intro (plainL_rows _) fun t => (without_call l m k hk hm t).mono fun _ _ _ h => .inr h
theorem without_ret (l : List Int) (m : List (List Int)) (k : Nat) (hk : k < m.length) (hm : m.length ≤ 1000) : PRet Try.prog 60 [.agg [ints l, mat m], int k] (mat (m.eraseIdx k)) := by
  refine PRet.intro 2 fun t => (without_call l m k hk hm t).mono ?_
  rintro d H' t' ⟨b, g, rfl, hb⟩
  have hl : (m.eraseIdx k).length = m.length - 1 := List.length_eraseIdx_of_lt hk
  simp only [rsv, rs, hb, if_true]
  have hfin : List.take (m.length - 1) ((m.eraseIdx k).map ints) = (m.eraseIdx k).map ints := List.take_of_length_le (by simp [hl])
  have ht : rsL (fun _ => D.any) H' ((m.eraseIdx k).map ints) = (m.eraseIdx k).map ints := rsL_tidy _ _ _ (tidyL_all fun d hd => by
    obtain ⟨x, _, rfl⟩ := List.mem_map.1 hd
    simp only [tidyD, tidy_ints, Bool.not_false, Bool.and_self])
  rw [rsL_eq_map] at ht
  simp [hfin, hl]
  intro a ha
  exact rs_tidy _ _ _ (by simp only [tidyD, tidy_ints, Bool.not_false, Bool.and_self])
/-! Lists of modes. -/
def unfr : List D → List (Int × Int)
  | .v (.int _ n) :: .v (.int _ d) :: r => (n, d) :: unfr r
  | _ => []
theorem unfr_frC : ∀ l : List (Int × Int), unfr (frC l) = l
  | [] => rfl
  | (n, d) :: l => by
    show (n, d) :: unfr (frC l) = _
    rw [unfr_frC l]
def D.frl : D → List (Int × Int)
  | .sl _ c _ => unfr c
  | _ => []
theorem any_frss (q : List (Int × Int) → Bool) (l : List (List (Int × Int))) : ((l.map frs).any fun d => q d.frl) = l.any q := by
  induction l with
  | nil => rfl
  | cons x r ih => rw [List.map_cons, List.any_cons, List.any_cons, ih]; simp only [D.frl, unfr_frC]
set_option maxHeartbeats 800000 in
theorem indexFuncFrss (l : List D) (g : FuncId) (caps : List D) (p : D → Bool) (hl : l.length ≤ 1000000) (hp : ∀ x ∈ l, PRet Try.prog g ((x :: caps).map ufa) (bool (p x))) : PRet Try.prog 106 [.sl 1 l false, .fn g caps] (int (idx p l 0)) := by
  refine PRet.intro 1 fun t => ACall.enter tab_ok Try.func106 rfl rfl Try.ntmps106 (by simp) ?_
  simp only [enterTM]
  ((refine wqa ?_))
  ((refine wqb @Nat.lt_one_iff ?_))
  refine AW_block ?_
  refine AW_loop_w (fun k : Nat => ⟨[(0, .sl 1 l false), (1, .fn g caps), (7, int l.length), (8, int k)], [], t⟩) (fun k => l.length - k) (fun k => k ≤ l.length ∧ idx p l 0 = idx p (l.drop k) k) 0 ⟨Nat.zero_le _, rfl⟩ (by (simp (disch := omega) only [StLe, tmLe, hpLe_refl, hpLe, bl, bb, bt, zDs, zD, eqCells, simprocAttr])) fun k ⟨hk, hi⟩ => ?_
  by_cases hlt : k < l.length
  · obtain ⟨x, hx⟩ : ∃ x, l[k]? = some x := ⟨_, List.getElem?_eq_getElem hlt⟩
    have hm := List.mem_of_getElem? hx
    have hd : l.drop k = x :: l.drop (k + 1) := by
      obtain ⟨h1, h2⟩ := List.getElem?_eq_some_iff.1 hx
      rw [List.drop_eq_getElem_cons h1, h2]
    rw [hd] at hi
    ((refine wqb (F := _∧_) ⟨@Int.ofNat_lt, hlt⟩ ?_))
    ((refine wia ?_))
    ((refine wsa ?_))
    ((repeat refine AW_seq ?_))
    refine AW_block ?_
    ((refine wqa ?_))
    ((repeat refine AW_seq ?_); (refine AW_region_k tab_ok fun KR hKR => ?_)); ((refine wrb (F := _∧_) ⟨hlt, hx⟩ ?_))
    ((refine wka1 (hp x hm) ?_))
    ((refine wea ?_); (try clear hKR KR))
    cases hpx : p x
    · ((refine wib hpx ?_))
      ((refine wsa ?_))
      ((refine wqa ?_))
      refine ⟨k + 1, ⟨hlt, by rw [hi]; simp [idx, hpx]⟩, by omega, ?_⟩
      (simp (disch := omega) only [StLe, tmLe, hpLe_refl, hpLe, bl, bb, bt, zDs, zD, eqCells, simprocAttr])
    · ((refine wib hpx ?_))
      ((refine wqa ?_))
      ((repeat refine AW_seq ?_); (refine wta ?_); simp (disch := omega) only [retQ, resD, oneD, rsv, rs, rsL, rsL_eq_map, List.map_map, bb, bt, zDs, zD, eqCells, simprocAttr, Try.results106, hi, idx, hpx])
  · ((refine wqb (F := _∧_) ⟨@Int.ofNat_lt, hlt⟩ ?_))
    ((refine wia ?_))
    ((refine wxa ?_))
    ((refine wqa ?_))
    ((repeat refine AW_seq ?_); (refine wta ?_); simp (disch := omega) only [retQ, resD, oneD, rsv, rs, rsL, rsL_eq_map, List.map_map, bb, bt, zDs, zD, eqCells, simprocAttr, Try.results106, hi])
    rw [List.drop_eq_nil_of_le (by omega)]; rfl
theorem containsFuncFrss (l : List D) (g : FuncId) (caps : List D) (p : D → Bool) (hl : l.length ≤ 1000000) (hp : ∀ x ∈ l, PRet Try.prog g ((x :: caps).map ufa) (bool (p x))) : PRet Try.prog 72 [.sl 1 l false, .fn g caps] (bool (l.any p)) := by
  refine PRet.intro 1 fun t => ACall.enter tab_ok Try.func72 rfl rfl Try.ntmps72 (by simp) ?_
  simp only [enterTM]
  ((refine wqa ?_))
  ((repeat refine AW_seq ?_); (refine AW_region_k tab_ok fun KR hKR => ?_)); ((refine wra ?_))
  ((refine wka1 (indexFuncFrss l g caps p hl hp) ?_))
  ((refine wra ?_)); ((refine wea ?_); (try clear hKR KR))
  ((repeat refine AW_seq ?_); (refine wta ?_); simp (disch := omega) only [retQ, resD, oneD, rsv, rs, rsL, rsL_eq_map, List.map_map, bb, bt, zDs, zD, eqCells, simprocAttr, Try.results72])
  rw [← idx_any p l 0]
theorem frC_get : ∀ (l : List (Int × Int)) (i : Nat) (p : Int × Int), l[i]? = some p → (frC l)[i * 2]? = some (int p.1)
  | [], i, p, h => by simp at h
  | x :: l, 0, p, h => by
    simp at h; subst h; rfl
  | x :: l, i + 1, p, h => by
    have := frC_get l i p (by simpa using h)
    show (int x.1 :: int x.2 :: frC l)[(i + 1) * 2]? = _
    rw [show (i + 1) * 2 = i * 2 + 1 + 1 by omega, List.getElem?_cons_succ, List.getElem?_cons_succ]
    exact this
theorem frC_one {l : List (Int × Int)} {i : Nat} {p : Int × Int} (h : l[i]? = some p) : ((frC l).drop (i * 2)).take 1 = [int p.1] := by
  have := frC_get l i p h
  obtain ⟨h1, h2⟩ := List.getElem?_eq_some_iff.1 this
  rw [List.drop_eq_getElem_cons h1, h2]
  rfl
def movB (k : Nat) (v : List (Int × Int)) : Bool := (v.getD k (0, 0)).1 != 0
theorem jammed1 (v : List (Int × Int)) (k : Nat) (hk : k < v.length) : PRet Try.prog 73 [frs v, .rp [int k] 0] (bool (movB k v)) := by
  refine PRet.intro 1 fun t => ACall.enter tab_ok Try.func73 rfl rfl Try.ntmps73 (by simp) ?_
  simp only [enterTM]
  obtain ⟨f, hf⟩ : ∃ y, v[k]? = some y := ⟨_, List.getElem?_eq_getElem hk⟩
  have hra := frC_get v k f hf
  have hrb := frC_one hf
  have hd := frC_div v
  have e : movB k v = (f.1 != 0) := by unfold movB; rw [List.getD_eq_getElem?_getD, hf]; rfl
  rw [e]
  ((refine ggb0 (F := _∧_∧_∧_) ⟨hk, hd, hra, hrb⟩ ?_))
  ((repeat refine AW_seq ?_); (refine wta ?_); simp (disch := omega) only [retQ, resD, oneD, rsv, rs, rsL, rsL_eq_map, List.map_map, bb, bt, zDs, zD, eqCells, simprocAttr, Try.results73])
theorem movesC (L : List (List (Int × Int))) (k : Nat) (hL : L.length ≤ 1000000) (hk : ∀ v ∈ L, k < v.length) : PRet Try.prog 72 [frss L, .fn 73 [.rp [int k] 0]] (bool (L.any (movB k))) := by
  have hc := containsFuncFrss (L.map frs) 73 [.rp [int k] 0] (fun d => movB k d.frl) (by simpa using hL) (fun x hx => by
    obtain ⟨v, hv, rfl⟩ := List.mem_map.1 hx
    simp only [D.frl, unfr_frC]
    exact jammed1 v k (hk v hv))
  rwa [any_frss (movB k)] at hc
/-! Modes. -/
def unitR (n i : Nat) : List (Int × Int) := (List.range n).map fun k => (if k = i then 1 else 0, 1)
def unitM (n : Nat) : List (List (Int × Int)) := (List.range n).map (unitR n)
def modesP (s : Sy) : List (List (Int × Int)) × Int := if validS s = true then (if fixA s = [] then (unitM s.bs.length, 0) else nullP (rowsF s (fixA s))) else ([], 1)
theorem fixP_lt {rs : List Rp} {but : Int} {k i : Nat} (h : i ∈ fixP rs but k) : i < k := (fixP_mem.1 h).1
theorem rowsF_valid {s : Sy} (ok : OkS s) {L : List Nat} (h0 : L ≠ []) (h1 : L.length ≤ 6) (h2 : ∀ i ∈ L, i < s.rs.length) : validP (rowsF s L) = true ∧ wid (rowsF s L) = s.bs.length ∧ ∀ r ∈ rowsF s L, r ∈ trS s ∧ r.length = s.bs.length := by
  obtain ⟨tv, tw⟩ := ok.tr_valid
  obtain ⟨m1, m2, m3⟩ := validP_iff.1 tv
  have hm : ∀ r ∈ rowsF s L, r ∈ trS s ∧ r.length = s.bs.length := fun r hr => by
    unfold rowsF at hr
    obtain ⟨i, hi, rfl⟩ := List.mem_map.1 hr
    have hlt : i < (trS s).length := by rw [ok.tr_len]; exact h2 i hi
    have e : (trS s).getD i [] = (trS s)[i] := by rw [List.getD_eq_getElem?_getD, List.getElem?_eq_getElem hlt]; rfl
    rw [e]
    exact ⟨List.getElem_mem _, by rw [(m3 _ (List.getElem_mem _)).1, tw]⟩
  have hw : wid (rowsF s L) = s.bs.length := by
    cases hL : L with
    | nil => exact absurd hL h0
    | cons i L' =>
      have := (hm ((trS s).getD i []) (by rw [hL]; simp [rowsF])).2
      rw [← this]
      rfl
  refine ⟨validP_iff.2 ⟨⟨?_, ?_⟩, ?_, fun r hr => ⟨?_, ?_⟩⟩, hw, hm⟩
  · rw [rowsF_len]
    exact List.length_pos_iff.2 h0
  · rw [rowsF_len]
    exact h1
  · rw [hw, ← tw]
    exact m2
  · rw [hw]
    exact (hm r hr).2
  · exact (m3 r (hm r hr).1).2
end Go.Proofs.Ytjmmenfbcbagoaa.T
end

section
namespace Go.Proofs.Ytjmmenfbcbagoaa.T
open Go Go.RowKit Lin
set_option linter.unusedSimpArgs false

/-! Chapter 16: modes, freedom, jammed. -/
def unitC (k j : Nat) : List (Int × Int) := (List.range j).map fun i => (if i = k then 1 else 0, 1)
theorem unitC_succ (k j : Nat) : unitC k (j + 1) = unitC k j ++ [(if j = k then 1 else 0, 1)] := by simp [unitC, List.range_succ]
theorem unitC_len (k j : Nat) : (unitC k j).length = j := by simp [unitC]
def unitL (n k : Nat) : List (List (Int × Int)) := (List.range k).map (unitR n)
theorem unitL_succ (n k : Nat) : unitL n (k + 1) = unitL n k ++ [unitC k n] := by simp [unitL, List.range_succ, unitR, unitC]
theorem unitL_len (n k : Nat) : (unitL n k).length = k := by simp [unitL]
theorem frC_push (l : List (Int × Int)) (x : Int × Int) : frC (l ++ [x]) = frC l ++ [int x.1, int x.2] := by simp [frC]
theorem fzS_fr (b g : Nat) (cs : List D) : ∀ l : List (Int × Int), fzL b g cs (frC l) = frC l
  | [] => rfl
  | x :: l => by
    show fzL b g cs (int x.1 :: int x.2 :: frC l) = _
    simp only [fzL, fz, fzS_fr b g cs l]
    rfl
theorem fzS_frss (b g : Nat) (cs : List D) : ∀ l : List (List (Int × Int)), fzL b g cs (l.map frs) = l.map frs
  | [] => rfl
  | x :: l => by simp only [List.map_cons, fzL, fz, fzS_fr, fzS_frss b g cs l]
abbrev nilF : D := .sl 2 [] true
theorem nilsF (n : Nat) : (List.replicate n [nilF]).flatten = List.replicate n nilF := by simp
theorem colF_push {cells : List D} {n k : Nat} (hc : cells.length = k) (hk : k < n) (c d : D) : (cells ++ c :: List.replicate (n - (k + 1)) nilF).set k d = cells ++ d :: List.replicate (n - (k + 1)) nilF := by
  rw [List.set_append_right _ _ (by omega), hc, Nat.sub_self, List.set_cons_zero]
theorem colF_get {cells : List D} {n k : Nat} (hc : cells.length = k) (c : D) : (cells ++ c :: List.replicate (n - (k + 1)) nilF)[k]? = some c := by
  rw [List.getElem?_append_right (by omega), hc, Nat.sub_self, List.getElem?_cons_zero]
theorem colF_nil {cells : List D} {n k : Nat} (hk : k < n) : cells ++ List.replicate (n - k) nilF = cells ++ nilF :: List.replicate (n - (k + 1)) nilF := by
  rw [show n - k = (n - (k + 1)) + 1 by omega, List.replicate_succ]
theorem fz_nilsF (b g : Nat) (cs : List D) : ∀ k, fzL b g cs (List.replicate k nilF) = List.replicate k nilF
  | 0 => rfl
  | k + 1 => by simp only [List.replicate_succ, fzL, fz, fz_nilsF b g cs k]
set_option maxHeartbeats 4000000 in
theorem modes_prog (s : Sy) (hf : Fits s) : PRet Try.prog 52 [syD s] (.tup [frss (modesP s).1, int (modesP s).2]) := by
  refine PRet.intro 1 fun t => ACall.enter tab_ok Try.func52 rfl rfl Try.ntmps52 (by simp) ?_
  simp only [enterTM]
  have hO := of_prog s hf
  have hdb := bkC_div s.bs
  cases hv : validS s
  · rw [hv] at hO
    simp only [Bool.false_eq_true, if_false] at hO
    have e : modesP s = ([], 1) := by simp [modesP, hv]
    ((refine gga1 hO ?_))
    ((repeat refine AW_seq ?_); (refine wta ?_); simp (disch := omega) only [retQ, resD, oneD, rsv, rs, rsL, rsL_eq_map, List.map_map, bb, bt, zDs, zD, eqCells, simprocAttr, Try.results52, e])
    rfl
  rw [hv] at hO
  simp only [if_true] at hO
  have ok := validS_ok hv
  have hb6 := ok.b6
  have hr6 := ok.r6
  by_cases h0 : fixA s = []
  rotate_left 1
  · have hfl := fixP_len s.rs (-1) s.rs.length
    obtain ⟨rv, rw', rm⟩ := rowsF_valid ok h0 (by unfold fixA; omega) (fun i hi => fixP_lt hi)
    have hN := null (rowsF s (fixA s)) (by rw [rowsF_len]; unfold fixA; omega) (fun r hr => by rw [(rm r hr).2]; omega)
    have e : modesP s = nullP (rowsF s (fixA s)) := by simp [modesP, hv, h0]
    have hp : (0 : Int) < ((rowsF s (fixA s)).length : Int) := by
      rw [rowsF_len]
      have := List.length_pos_iff.2 h0
      omega
    rw [e]
    generalize nullP (rowsF s (fixA s)) = Y at *
    ((refine ggb2 hp hO hN ?_))
    ((repeat refine AW_seq ?_); (refine wta ?_); simp (disch := omega) only [retQ, resD, oneD, bb, bt, zDs, zD, eqCells, simprocAttr, Try.results52])
    exact rsv_tidy _ _ (by simp only [tidyD, tidyL, tidy_frss, Bool.not_false, Bool.and_self])
  have e : modesP s = (unitM s.bs.length, 0) := by simp [modesP, hv, h0]
  rw [h0] at hO
  have e1 : nums [] = [] := rfl
  have e2 : rowsF s [] = [] := rfl
  rw [e1, e2] at hO
  rw [e]
  have eM : unitM s.bs.length = unitL s.bs.length s.bs.length := rfl
  simp only [eM]
  generalize hn : s.bs.length = n at *
  ((refine ggb1 hdb hO ?_))
  rw [nilsF]
  ((repeat refine AW_seq ?_))
  refine AW_mid (fun x : Nat => ⟨[(6, .own 1 2 (t + 1 + 1 + 1) 0 n)], [none, none, some ⟨28, t + 1 + 1 + 1, (unitL n n).map frs⟩], x⟩) (fun _ => True) ?_ ?_
  · refine AW_block ?_
    refine AW_loop_w (fun x : Nat × Nat => ⟨[(1, .ptr 0 (t + 1) 0), (6, .own 1 2 (t + 1 + 1 + 1) 0 n), (32, int n), (33, int x.1)], [some ⟨25, t + 1, [bks s.bs, rps s.rs]⟩, none, some ⟨28, t + 1 + 1 + 1, (unitL n x.1).map frs ++ List.replicate (n - x.1) nilF⟩], x.2⟩) (fun x => n - x.1) (fun x => x.1 ≤ n) (0, t + 1 + 1 + 1) (Nat.zero_le _) (by (simp (disch := omega) only [StLe, tmLe, hpLe_refl, hpLe, bl, bb, bt, zDs, zD, eqCells, simprocAttr, unitL, List.range_zero, List.map_nil, Nat.sub_zero])) ?_
    rintro ⟨k, tt⟩ hk
    simp only at hk
    have htl : ((unitL n k).map frs).length = k := by rw [List.length_map, unitL_len]
    by_cases hlt : k < n
    · rw [colF_nil hlt]
      ((refine ggb0 (F := _∧_) ⟨@Int.ofNat_lt, hlt⟩ ?_))
      ((repeat refine AW_seq ?_))
      refine AW_block ?_
      ((refine ggb0 hdb ?_))
      have hg1 := colF_get (n := n) htl nilF
      have hs1 := fun c d => colF_push (n := n) htl hlt c d
      refine AW.begin_cell 2 k 2 42 rfl hg1 (by decide) ?_
      simp only [List.set_cons_succ, List.set_cons_zero, List.length_cons, List.length_nil, List.cons_append, List.nil_append, Nat.zero_add, Nat.reduceAdd, hs1]
      have htl2 : (unitL n k).length = k := unitL_len n k
      have hrl : (List.replicate (n - (k + 1)) nilF).length = n - (k + 1) := by simp
      have hkn : k < k + (n - (k + 1) + 1) := by omega
      refine AW_block ?_
      refine AW_loop_w (fun x : Nat × Nat × Nat => ⟨[(1, .ptr 0 (t + 1) 0), (6, .own 1 2 (t + 1 + 1 + 1) 0 n), (7, int k), (32, int n), (33, int k), (38, int n), (39, int x.1)], [some ⟨25, t + 1, [bks s.bs, rps s.rs]⟩, none, some ⟨28, t + 1 + 1 + 1, (unitL n k).map frs ++ .own 2 3 x.2.1 0 x.1 :: List.replicate (n - (k + 1)) nilF⟩, some ⟨42, x.2.1, frC (unitC k x.1)⟩], x.2.2⟩) (fun x => n - x.1) (fun x => x.1 ≤ n) (0, tt + 1, tt + 1) (Nat.zero_le _) (by (simp (disch := omega) only [StLe, tmLe, hpLe_refl, hpLe, bl, bb, bt, zDs, zD, eqCells, simprocAttr, unitC, List.range_zero, List.map_nil, frC, List.flatMap_nil])) ?_
      rintro ⟨j, g, t2⟩ hj
      simp only at hj
      by_cases hlj : j < n
      · have hct := unitC_succ k j
        have hcl := unitC_len k j
        have hfl : (frC (unitC k j)).length = j * 2 := by rw [frC_len, hcl]
        have hg2 := fun c => colF_get (n := n) htl c
        ((refine ggb0 (F := _∧_) ⟨@Int.ofNat_lt, hlj⟩ ?_))
        ((repeat refine AW_seq ?_))
        refine AW_block ?_
        by_cases hjk : j = k
        · have ejk : ((j : Int) == (k : Int)) = true := by simp [hjk]
          rw [if_pos hjk] at hct
          ((refine ggb0 ejk ?_))
          ((repeat refine AW_seq ?_); (refine gdzb (F := _∧_∧_∧_∧_∧_∧_) ⟨hg2, hs1, hcl, hfl, hkn, htl2, hrl⟩ ?_))
          ((refine gga0 ?_))
          refine ⟨(j + 1, t2 + 1 + 1, t2 + 1 + 1), hlj, by show n - (j + 1) < n - j; omega, ?_⟩
          simp only [hct, frC_push]
          (simp (disch := omega) only [StLe, tmLe, hpLe_refl, hpLe, bl, bb, bt, zDs, zD, eqCells, simprocAttr])
        · have ejk : ((j : Int) == (k : Int)) = false := by simp; omega
          rw [if_neg hjk] at hct
          ((refine ggb0 ejk ?_))
          ((repeat refine AW_seq ?_); (refine gdzb (F := _∧_∧_∧_∧_∧_∧_) ⟨hg2, hs1, hcl, hfl, hkn, htl2, hrl⟩ ?_))
          ((refine gga0 ?_))
          refine ⟨(j + 1, t2 + 1 + 1, t2 + 1 + 1), hlj, by show n - (j + 1) < n - j; omega, ?_⟩
          simp only [hct, frC_push]
          (simp (disch := omega) only [StLe, tmLe, hpLe_refl, hpLe, bl, bb, bt, zDs, zD, eqCells, simprocAttr])
      · have hje : j = n := by omega
        subst hje
        have hcl := unitC_len k j
        have hfl : (frC (unitC k j)).length = j * 2 := by rw [frC_len, hcl]
        have hfin : List.take (j * 2) (frC (unitC k j)) = frC (unitC k j) := List.take_of_length_le (by omega)
        ((refine wqb @Int.lt_irrefl ?_))
        ((refine wia ?_))
        ((refine wxa ?_))
        ((refine AW.freeze (3) (by first | rfl | (simp only [setH, List.getElem?_cons_zero, List.getElem?_cons_succ, fzL_app, fz_nilsF, fzS_frss, fz_bk, fz_rp, hcl, hfl, hfin, List.length_map, Nat.le_refl]; done)) ?_); simp (disch := omega) only [fzT, fz, fzL, fzL_ints, fzL_mat, fzH, fzB, eq_self, bb, bt, zDs, zD, eqCells, simprocAttr, fzL_app, fz_nilsF, fzS_frss, fz_bk, fz_rp, hcl, hfl, hfin, List.length_map, Nat.le_refl])
        ((refine gga0 ?_))
        refine ⟨(k + 1, t2), hlt, by show j - (k + 1) < j - k; omega, ?_⟩
        simp only [unitL_succ, List.map_append, List.map_cons, List.map_nil, List.append_assoc, List.cons_append, List.nil_append]
        (simp (disch := omega) only [StLe, tmLe, hpLe_refl, hpLe, bl, bb, bt, zDs, zD, eqCells, simprocAttr])
    · have hke : k = n := by omega
      subst hke
      ((refine ggb0 @Int.lt_irrefl ?_))
      exact ⟨tt, trivial, by (simp (disch := omega) only [StLe, tmLe, hpLe_refl, hpLe, bl, bb, bt, zDs, zD, eqCells, simprocAttr, Nat.sub_self, List.replicate_zero, List.append_nil])⟩
  rintro tt -
  have hfin : List.take n ((unitL n n).map frs) = (unitL n n).map frs := List.take_of_length_le (by simp [unitL_len])
  have htl := unitL_len n n
  ((refine AW.freeze (2) (by first | rfl | (simp only [setH, List.getElem?_cons_zero, List.getElem?_cons_succ, hfin, htl, fzS_frss, List.length_map, Nat.le_refl]; done)) ?_); simp (disch := omega) only [fzT, fz, fzL, fzL_ints, fzL_mat, fzH, fzB, eq_self, bb, bt, zDs, zD, eqCells, simprocAttr, hfin, htl, fzS_frss, List.length_map, Nat.le_refl])
  ((refine gga0 ?_))
  ((repeat refine AW_seq ?_); (refine wta ?_); simp (disch := omega) only [retQ, resD, oneD, bb, bt, zDs, zD, eqCells, simprocAttr, Try.results52])
  refine rsv_tidy _ _ ?_
  have := tidy_frss (unitL n n)
  simp only [tidyD, tidyL, Bool.not_false, Bool.and_true, Bool.true_and] at this ⊢
  exact this
theorem freedom_prog (s : Sy) (hf : Fits s) : PRet Try.prog 31 [syD s] (.tup [int (modesP s).1.length, int (modesP s).2]) := by
  refine PRet.intro 1 fun t => ACall.enter tab_ok Try.func31 rfl rfl Try.ntmps31 (by simp) ?_
  simp only [enterTM]
  have hM := modes_prog s hf
  generalize modesP s = Y at *
  ((refine gga1 hM ?_))
  ((repeat refine AW_seq ?_); (refine wta ?_); simp (disch := omega) only [retQ, resD, oneD, rsv, rs, rsL, rsL_eq_map, List.map_map, bb, bt, zDs, zD, eqCells, simprocAttr, Try.results31])
/-- Modes are as long as the blocks are many. -/
theorem modesP_facts (s : Sy) : (∀ v ∈ (modesP s).1, v.length = s.bs.length) ∧ (modesP s).1.length ≤ 12 ∧ ((modesP s).2 = 0 ↔ validS s = true) := by
  unfold modesP
  cases hv : validS s
  · simp
  have ok := validS_ok hv
  have hr6 := ok.r6
  have hb6 := ok.b6
  simp only [if_true]
  by_cases h0 : fixA s = []
  · rw [if_pos h0]
    refine ⟨fun v hv => ?_, by simp [unitM]; omega, by simp⟩
    obtain ⟨i, _, rfl⟩ := List.mem_map.1 hv
    simp [unitR]
  · rw [if_neg h0]
    have hfl := fixP_len s.rs (-1) s.rs.length
    obtain ⟨rv, rw', rm⟩ := rowsF_valid ok h0 (by unfold fixA; omega) (fun i hi => fixP_lt hi)
    unfold nullP
    rw [if_pos rv]
    refine ⟨fun v hv => ?_, ?_, by simp⟩
    · obtain ⟨c, _, _, rfl⟩ := nulls_mem _ _ _ v hv
      rw [nvec_len, rw']
    · have := nulls_len (elim (rowsF s (fixA s)) (wid (rowsF s (fixA s)))) (wid (rowsF s (fixA s))) (wid (rowsF s (fixA s)))
      simp only
      omega
abbrev strsD (l : List ByteArray) : D := .sl 1 (l.map str) false
def jamN (bs : List Bk) (L : List (List (Int × Int))) (k : Nat) : List ByteArray := ((List.range k).filter fun i => !L.any (movB i)).map fun i => (bs.getD i ⟨ByteArray.empty, 0⟩).nm
theorem jamN_step {bs : List Bk} {L : List (List (Int × Int))} {k : Nat} {b : Bk} (hb : bs[k]? = some b) : jamN bs L (k + 1) = if L.any (movB k) = true then jamN bs L k else jamN bs L k ++ [b.nm] := by
  unfold jamN
  rw [List.range_succ, List.filter_append, List.map_append]
  have e : (bs.getD k ⟨ByteArray.empty, 0⟩).nm = b.nm := by rw [List.getD_eq_getElem?_getD, hb]; rfl
  cases h : L.any (movB k)
  · rw [List.filter_cons_of_pos (by simp [h]), List.filter_nil, List.map_cons, List.map_nil, e]
    simp
  · rw [List.filter_cons_of_neg (by simp [h])]
    simp
theorem jamN_len (bs : List Bk) (L : List (List (Int × Int))) (k : Nat) : (jamN bs L k).length ≤ k := by
  have := List.length_filter_le (fun i => !L.any (movB i)) (List.range k)
  simpa [jamN] using this
def jamP (s : Sy) : List ByteArray × Int := if (modesP s).2 = 0 then (jamN s.bs (modesP s).1 s.bs.length, 0) else ([], (modesP s).2)
theorem fzS_str (b g : Nat) (cs : List D) : ∀ l : List ByteArray, fzL b g cs (l.map str) = l.map str
  | [] => rfl
  | x :: l => by simp only [List.map_cons, fzL, fz, fzS_str b g cs l]
theorem tidy_strs (l : List ByteArray) : tidyL (l.map str) = true := tidyL_all fun d hd => by obtain ⟨x, _, rfl⟩ := List.mem_map.1 hd; rfl
set_option maxHeartbeats 4000000 in
theorem jammed_prog (s : Sy) (hf : Fits s) : PRet Try.prog 32 [syD s] (.tup [strsD (jamP s).1, int (jamP s).2]) := by
  refine PRet.intro 1 fun t => ACall.enter tab_ok Try.func32 rfl rfl Try.ntmps32 (by simp) ?_
  simp only [enterTM]
  have hM := modes_prog s hf
  have hdb := bkC_div s.bs
  obtain ⟨ml, mn, mv⟩ := modesP_facts s
  unfold jamP
  generalize modesP s = Y at *
  obtain ⟨L, ey⟩ := Y
  simp only at *
  cases hy : (ey == 0)
  · have hy' : (ey != 0) = true := by simpa using hy
    rw [if_neg (by simpa using hy)]
    ((refine ggb1 hy' hM ?_))
    ((repeat refine AW_seq ?_); (refine wta ?_); simp (disch := omega) only [retQ, resD, oneD, rsv, rs, rsL, rsL_eq_map, List.map_map, bb, bt, zDs, zD, eqCells, simprocAttr, Try.results32])
    rfl
  have hy' : (ey != 0) = false := by simpa using hy
  rw [if_pos (by simpa using hy)]
  ((refine ggb1 (F := _∧_) ⟨hy', hdb⟩ hM ?_))
  refine AW.begin 6 1 9 rfl (by decide) ?_
  simp only [putTM, List.length_cons, List.length_nil, Nat.reduceEqDiff, ↓reduceIte, List.cons_append, List.nil_append]
  refine AW_mid (fun x : Nat × Nat => ⟨[(6, .own 1 1 x.1 0 (jamN s.bs L s.bs.length).length)], [none, some ⟨9, x.1, (jamN s.bs L s.bs.length).map str⟩], x.2⟩) (fun _ => True) ?_ ?_
  · refine AW_block ?_
    refine AW_loop_w (fun x : Nat × Nat × Nat => ⟨[(1, .ptr 0 (t + 1) 0), (4, frss L), (6, .own 1 1 x.2.1 0 (jamN s.bs L x.1).length), (18, bks s.bs), (19, int s.bs.length), (20, int x.1)], [some ⟨25, t + 1, [bks s.bs, rps s.rs]⟩, some ⟨9, x.2.1, (jamN s.bs L x.1).map str⟩], x.2.2⟩) (fun x => s.bs.length - x.1) (fun x => x.1 ≤ s.bs.length) (0, t + 1 + 1, t + 1 + 1) (Nat.zero_le _) (by (simp (disch := omega) only [StLe, tmLe, hpLe_refl, hpLe, bl, bb, bt, zDs, zD, eqCells, simprocAttr, jamN, List.range_zero, List.filter_nil, List.map_nil, List.length_nil])) ?_
    rintro ⟨k, g, tt⟩ hk
    simp only at hk
    by_cases hlt : k < s.bs.length
    · obtain ⟨b, hb⟩ : ∃ y, s.bs[k]? = some y := ⟨_, List.getElem?_eq_getElem hlt⟩
      have hra := bkC_read s.bs k b hb
      have hst := jamN_step (L := L) hb
      have hjl := jamN_len s.bs L k
      have hC := movesC L k (by omega) (fun v hv => by rw [ml v hv]; exact hlt)
      have hnl := hf.nb
      generalize jamN s.bs L k = J at *
      ((refine ggb0 (F := _∧_∧_) ⟨@Int.ofNat_lt, hlt, hdb⟩ ?_))
      ((repeat refine AW_seq ?_))
      refine AW_block ?_
      ((refine wqb (F := _∧_∧_) ⟨hlt, hdb, hra⟩ ?_))
      ((refine AW.freeze (2) (by first | rfl | (simp only [setH, List.getElem?_cons_zero, List.getElem?_cons_succ, fz_bk, fz_rp, fzS_str, fzS_frss]; done)) ?_); simp (disch := omega) only [fzT, fz, fzL, fzL_ints, fzL_mat, fzH, fzB, eq_self, bb, bt, zDs, zD, eqCells, simprocAttr, fz_bk, fz_rp, fzS_str, fzS_frss])
      cases hj : L.any (movB k)
      · rw [hj] at hC hst
        ((refine gga1 hC ?_))
        refine ⟨(k + 1, tt + 1 + 1 + 1, tt + 1 + 1 + 1), hlt, by show s.bs.length - (k + 1) < s.bs.length - k; omega, ?_⟩
        simp only [hst, Bool.false_eq_true, if_false, List.length_append, List.length_cons, List.length_nil, List.map_append, List.map_cons, List.map_nil]
        (simp (disch := omega) only [StLe, tmLe, hpLe_refl, hpLe, bl, bb, bt, zDs, zD, eqCells, simprocAttr])
      · rw [hj] at hC hst
        ((refine gga1 hC ?_))
        refine ⟨(k + 1, g, tt + 1 + 1), hlt, by show s.bs.length - (k + 1) < s.bs.length - k; omega, ?_⟩
        simp only [hst, if_true]
        (simp (disch := omega) only [StLe, tmLe, hpLe_refl, hpLe, bl, bb, bt, zDs, zD, eqCells, simprocAttr])
    · have hke : k = s.bs.length := by omega
      subst hke
      ((refine wqb (F := _∧_) ⟨@Int.lt_irrefl, hdb⟩ ?_))
      ((refine wia ?_))
      ((refine wxa ?_))
      exact ⟨(g, tt), trivial, by (simp (disch := omega) only [StLe, tmLe, hpLe_refl, hpLe, bl, bb, bt, zDs, zD, eqCells, simprocAttr])⟩
  rintro ⟨g, tt⟩ -
  generalize jamN s.bs L s.bs.length = J at *
  have hfin : List.take J.length (J.map str) = J.map str := List.take_of_length_le (by simp)
  ((refine AW.freeze (1) (by first | rfl | (simp only [setH, List.getElem?_cons_zero, List.getElem?_cons_succ, hfin, fzS_str, List.length_map, Nat.le_refl]; done)) ?_); simp (disch := omega) only [fzT, fz, fzL, fzL_ints, fzL_mat, fzH, fzB, eq_self, bb, bt, zDs, zD, eqCells, simprocAttr, hfin, fzS_str, List.length_map, Nat.le_refl])
  ((refine gga0 ?_))
  ((repeat refine AW_seq ?_); (refine wta ?_); simp (disch := omega) only [retQ, resD, oneD, bb, bt, zDs, zD, eqCells, simprocAttr, Try.results32])
  exact rsv_tidy _ _ (by simp only [tidyD, tidyL, tidy_strs, Bool.not_false, Bool.and_self])
end Go.Proofs.Ytjmmenfbcbagoaa.T
end

section
namespace Go.Proofs.Ytjmmenfbcbagoaa.T
open Go Go.RowKit Lin
set_option linter.unusedSimpArgs false

/-! Chapter 16: witnesses. -/
theorem idxN_hit (x : Int) : ∀ (l : List Int) (n : Nat), ¬ idxN x l n < 0 → ∃ k : Nat, idxN x l n = (n + k : Nat) ∧ l[k]? = some x
  | [], n, h => by simp [idxN] at h
  | y :: r, n, h => by
    by_cases e : x = y
    · subst e
      exact ⟨0, by simp [idxN], by simp⟩
    · simp only [idxN, if_neg e] at h ⊢
      obtain ⟨k, h1, h2⟩ := idxN_hit x r (n + 1) h
      exact ⟨k + 1, by rw [h1]; omega, by simpa using h2⟩
theorem findM_ok {s : Sy} {nm : ByteArray} (h : (findM s nm).2 = 0) : validS s = true ∧ ∃ (i : Nat) (r : Rp), findM s nm = ((i : Int), 0) ∧ s.rs[i]? = some r ∧ r.nm = nm := by
  unfold findM at h ⊢
  cases hv : validS s
  · rw [hv] at h; simp at h
  rw [hv] at h
  simp only [if_true] at h ⊢
  by_cases hb : findR s.rs nm < 0
  · rw [if_pos hb] at h; simp at h
  rw [if_neg hb]
  refine ⟨trivial, ?_⟩
  obtain ⟨h1, h2⟩ := idx_lt (fun r : Rp => decide (r.nm = nm)) s.rs 0
  cases ha : s.rs.any fun r : Rp => decide (r.nm = nm)
  · exact absurd (h2 ha) (by unfold findR at hb; omega)
  · obtain ⟨k, x, e1, e2, e3⟩ := h1 ha
    refine ⟨k, x, ?_, e2, by simpa using e3⟩
    unfold findR
    rw [e1]
    simp
theorem turn_valid {C : List (List Int)} (hv : validP C = true) (h6 : wid C ≤ 6) : validP (turnP C (wid C)) = true ∧ wid (turnP C (wid C)) = C.length := by
  obtain ⟨m1, m2, m3⟩ := validP_iff.1 hv
  have hrow : ∀ r ∈ turnP C (wid C), r.length = C.length ∧ ∀ x ∈ r, -32 ≤ x ∧ x ≤ 32 := fun r hr => by
    obtain ⟨j, hj, rfl⟩ := List.mem_map.1 hr
    refine ⟨by simp [colP], fun x hx => ?_⟩
    obtain ⟨q, hq, rfl⟩ := List.mem_map.1 hx
    exact at_bound (by decide) (m3 q hq).2 j
  have hl := turnP_len C (wid C)
  have hw : wid (turnP C (wid C)) = C.length := by
    obtain ⟨r, rs, e⟩ : ∃ r rs, turnP C (wid C) = r :: rs := by
      cases hr : turnP C (wid C) with
      | nil => rw [hr] at hl; simp at hl; omega
      | cons a b => exact ⟨a, b, rfl⟩
    unfold wid
    unfold wid at e hrow
    rw [e, List.headD_cons]
    exact (hrow r (by rw [e]; simp)).1
  exact ⟨validP_iff.2 ⟨by omega, by omega, fun r hr => ⟨by rw [hw]; exact (hrow r hr).1, (hrow r hr).2⟩⟩, hw⟩
def rkF (s : Sy) (L : List Nat) : Nat := rankP (rowsF s L) (wid (rowsF s L))
def colsW (s : Sy) (L : List Nat) (k i : Nat) : List (List Int) := turnP (rowsF s (L.eraseIdx k ++ [i])) s.bs.length
def putW (v : List (Int × Int)) (os : List Nat) (n : Nat) : Nat → List (Int × Int)
  | 0 => List.replicate n (0, 1)
  | j + 1 => (putW v os n j).set (os.getD j 0) (v.getD j (0, 0))
theorem putW_len (v : List (Int × Int)) (os : List Nat) (n : Nat) : ∀ j, (putW v os n j).length = n
  | 0 => by simp [putW]
  | j + 1 => by simp [putW, putW_len v os n j]
def witV (s : Sy) (L : List Nat) (k i : Nat) (v : List (Int × Int)) : List (Int × Int) := (putW v (L.eraseIdx k) s.rs.length (L.eraseIdx k).length).set i (v.getD (v.length - 1) (0, 0))
def witK (s : Sy) (L : List Nat) (k i : Nat) : List (Int × Int) × Int :=
  if rkF s (L.eraseIdx k) < rkF s L then ([], 12)
  else if (nullP (colsW s L k i)).1 = [] then ([], 12)
  else (witV s L k i ((nullP (colsW s L k i)).1.getD ((nullP (colsW s L k i)).1.length - 1) []), 0)
def witP (s : Sy) (nm : ByteArray) : List (Int × Int) × Int :=
  if (findM s nm).2 ≠ 0 then ([], (findM s nm).2)
  else if idxN (findM s nm).1 (nums (fixA s)) 0 < 0 then ([], 12)
  else witK s (fixA s) (idxN (findM s nm).1 (nums (fixA s)) 0).toNat (findM s nm).1.toNat
theorem rowsF_erase (s : Sy) (L : List Nat) (k : Nat) : (rowsF s L).eraseIdx k = rowsF s (L.eraseIdx k) := erase_map _ _ _
theorem nums_erase (L : List Nat) (k : Nat) : (nums L).eraseIdx k = nums (L.eraseIdx k) := erase_map _ _ _
theorem rank_rows {s : Sy} (ok : OkS s) {L : List Nat} (h1 : L.length ≤ 6) (h2 : ∀ i ∈ L, i < s.rs.length) : PRet Try.prog 59 [mat (rowsF s L)] (int (rkF s L)) := by
  have hb6 := ok.b6
  refine rank_mob _ (by rw [rowsF_len]; omega) (fun r hr => ?_) (fun h => ?_)
  · have h0 : L ≠ [] := fun e => by subst e; simp [rowsF] at hr
    rw [((rowsF_valid ok h0 h1 h2).2.2 r hr).2]
    omega
  · exact (rowsF_valid ok (fun e => h (by subst e; rfl)) h1 h2).1
set_option maxHeartbeats 8000000 in
theorem witness_prog (s : Sy) (hf : Fits s) (nm : ByteArray) : PRet Try.prog 24 [syD s, str nm] (.tup [frs (witP s nm).1, int (witP s nm).2]) := by
  refine PRet.intro 1 fun t => ACall.enter tab_ok Try.func24 rfl rfl Try.ntmps24 (by simp) ?_
  simp only [enterTM]
  have hF := find_mob s hf nm
  have hO := of_prog s hf
  have hdb := bkC_div s.bs
  have hdr := rpC_div s.rs
  by_cases h0 : (findM s nm).2 = 0
  rotate_left 1
  · have h0' : ((findM s nm).2 != 0) = true := by simpa using h0
    have e : witP s nm = ([], (findM s nm).2) := by simp [witP, h0]
    generalize findM s nm = Z at *
    ((refine ggb1 h0' hF ?_))
    ((repeat refine AW_seq ?_); (refine wta ?_); simp (disch := omega) only [retQ, resD, oneD, rsv, rs, rsL, rsL_eq_map, List.map_map, bb, bt, zDs, zD, eqCells, simprocAttr, Try.results24, e])
    rfl
  obtain ⟨hv, i, r, hZ, hri, hrn⟩ := findM_ok h0
  rw [hv] at hO
  simp only [if_true] at hO
  rw [hZ] at hF
  have ok := validS_ok hv
  have hb6 := ok.b6
  have hr6 := ok.r6
  have hfl := fixP_len s.rs (-1) s.rs.length
  have hlt : ∀ j ∈ fixA s, j < s.rs.length := fun j hj => fixP_lt hj
  have hil := (List.getElem?_eq_some_iff.1 hri).1
  have e : witP s nm = if idxN (i : Int) (nums (fixA s)) 0 < 0 then ([], 12) else witK s (fixA s) (idxN (i : Int) (nums (fixA s)) 0).toNat i := by
    unfold witP
    rw [hZ]
    simp
  rw [e]
  clear e
  replace hfl : (fixA s).length ≤ 6 := Nat.le_trans hfl hr6
  generalize fixA s = L at *
  have hnl := nums_len L
  have hX := indexInts (nums L) (i : Int) (by omega)
  by_cases hk : idxN (i : Int) (nums L) 0 < 0
  · rw [if_pos hk]
    generalize idxN (i : Int) (nums L) 0 = K at *
    ((refine gga3 hF hO hX ?_))
    ((repeat refine AW_seq ?_); (refine gdzb hk ?_))
    ((refine gga0 ?_))
    ((repeat refine AW_seq ?_); (refine wta ?_); simp (disch := omega) only [retQ, resD, oneD, rsv, rs, rsL, rsL_eq_map, List.map_map, bb, bt, zDs, zD, eqCells, simprocAttr, Try.results24])
    rfl
  rw [if_neg hk]
  obtain ⟨k, hk1, hk2⟩ := idxN_hit (i : Int) (nums L) 0 hk
  rw [Nat.zero_add] at hk1
  rw [hk1, Int.toNat_natCast]
  rw [hk1] at hX
  have hkn : k < (nums L).length := (List.getElem?_eq_some_iff.1 hk2).1
  have hkl : k < L.length := by omega
  have hLk : L[k]? = some i := by
    unfold nums at hk2
    rw [List.getElem?_map] at hk2
    cases hq : L[k]? with
    | none => rw [hq] at hk2; simp at hk2
    | some y => rw [hq] at hk2; simp at hk2; exact congrArg some (by omega)
  have hrl := rowsF_len s L
  have hMk : (rowsF s L)[k]? = some ((trS s).getD i []) := by unfold rowsF; rw [List.getElem?_map, hLk]; rfl
  have hel : (L.eraseIdx k).length = L.length - 1 := List.length_eraseIdx_of_lt hkl
  have helt : ∀ j ∈ L.eraseIdx k, j < s.rs.length := fun j hj => hlt j (List.mem_of_mem_eraseIdx hj)
  have hW := without_ret (nums L) (rowsF s L) k (by omega) (by omega)
  have hWf := without_fresh (nums L) (rowsF s L) k (by omega) (by omega)
  rw [rowsF_erase] at hW hWf
  have hR1 := rank_rows ok (by omega) helt
  have hR2 := rank_rows ok hfl hlt
  have hk0 : ¬ ((k : Int) < 0) := by omega
  unfold witK
  generalize rkF s (L.eraseIdx k) = A at *
  generalize rkF s L = B at *
  by_cases hab : A < B
  · have hab' : (A : Int) < B := by omega
    rw [if_pos hab]
    ((refine gga3 hF hO hX ?_))
    ((repeat refine AW_seq ?_); (refine gdzb3_MQC (F := _∧_) ⟨hk0, hab'⟩ hW hR1 hR2 ?_))
    ((refine gga0 ?_))
    ((repeat refine AW_seq ?_); (refine wta ?_); simp (disch := omega) only [retQ, resD, oneD, rsv, rs, rsL, rsL_eq_map, List.map_map, bb, bt, zDs, zD, eqCells, simprocAttr, Try.results24])
    rfl
  have hab' : ¬ (A : Int) < B := by omega
  rw [if_neg hab]
  have hkM : k < (rowsF s L).length := by omega
  have hro : (rowsF s (L.eraseIdx k)).map ints ++ [ints ((trS s).getD i [])] = (rowsF s (L.eraseIdx k ++ [i])).map ints := by simp [rowsF]
  have hrel := rowsF_len s (L.eraseIdx k)
  ((refine gga3 hF hO hX ?_))
  ((repeat refine AW_seq ?_); (refine gdzb3_MQC (F := _∧_) ⟨hk0, hab'⟩ hW hR1 hR2 ?_))
  ((refine gga0 ?_))
  ((repeat refine AW_seq ?_); (refine AW_drawn_i tab_ok follows_mixed 1 fun KR hKR => ?_); simp only [List.replicate_succ, List.replicate_zero, List.append_nil, List.nil_append, List.cons_append, List.length_cons, List.length_nil, Nat.reduceAdd])
  ((refine wda ?_))
  ((first | refine awD_nc fun KK hKK => ?_ | refine awD_gc rfl fun KK hKK => ?_); simp (disch := omega) only [bb, bt, zDs, zD, eqCells, simprocAttr, goCDS, callDS_fn, argsZ, argsD, ufa, uf]; refine PGive.fresh (2) (hWf) ?_ ?_; (focus (first | omega | (simp (disch := omega) only [List.length_cons, List.length_nil, List.length_append]; done) | (simp (disch := omega) only [List.length_cons, List.length_nil, List.length_append]; omega))); simp (disch := omega) only [bb, bt, zDs, zD, eqCells, simprocAttr, afterDS]; refine hKK _ _ _ ?_; clear hKK KK)
  ((refine wdb (F := _∧_∧_∧_∧_) ⟨hkM, hMk, hrel, hel, hrl⟩ ?_))
  ((refine awD_nil ?_); simp only [List.reverse_cons, List.reverse_nil, List.nil_append, List.cons_append]; (refine hKR _ _ (by exact anyB_map (clamp 2) (by kernel_rfl)) ?_); (try clear hKR KR); (repeat (with_reducible first | refine q1 ?_ | refine q2 ?_ | refine q3 ?_ | refine q4 ?_ | refine q5 ?_ | refine q6 ?_ | (refine q7 ?_ ?_; (focus (with_unfolding_all rfl))))))
  obtain ⟨cv, cw, cm⟩ := rowsF_valid ok (L := L.eraseIdx k ++ [i]) (by simp) (by simp; omega) (fun j hj => by
    rcases List.mem_append.1 hj with h | h
    · exact helt j h
    · rw [List.mem_singleton.1 h]; exact hil)
  obtain ⟨uv, uw⟩ := turn_valid cv (by omega)
  have hcl : (rowsF s (L.eraseIdx k ++ [i])).length = L.length := by rw [rowsF_len]; simp; omega
  have hN := null (turnP (rowsF s (L.eraseIdx k ++ [i])) (wid (rowsF s (L.eraseIdx k ++ [i])))) (by rw [turnP_len]; omega) (fun r hr => by
    rw [((validP_iff.1 uv).2.2 r hr).1, uw]
    omega)
  rw [cw] at hN uw uv
  have ec : colsW s L k i = turnP (rowsF s (L.eraseIdx k ++ [i])) s.bs.length := rfl
  rw [ec]
  generalize rowsF s (L.eraseIdx k ++ [i]) = C at *
  have hlm : L.length - 1 + 1 = L.length := by omega
  have hfin : List.take (C.map ints).length (C.map ints) = C.map ints := List.take_length
  rw [List.length_map, hcl] at hfin
  ((refine AW.freeze (2) (by first | rfl | (simp only [setH, List.getElem?_cons_zero, List.getElem?_cons_succ, fzL_ints, fzL_mat, fz_bk, fz_rp, hro, hfin, hcl, hlm, hrl, List.length_map, Nat.le_refl]; done)) ?_); simp (disch := omega) only [fzT, fz, fzL, fzL_ints, fzL_mat, fzH, fzB, eq_self, bb, bt, zDs, zD, eqCells, simprocAttr, fzL_ints, fzL_mat, fz_bk, fz_rp, hro, hfin, hcl, hlm, hrl, List.length_map, Nat.le_refl])
  ((refine ggb0 hdb ?_))
  rw [nilsI]
  generalize t + 1 + 1 + 1 + 1 + 11 + 1 = gm
  generalize hn : s.bs.length = n at *
  have hcr : ∀ q ∈ C, q.length = n := fun q hq => (cm q hq).2
  have hC1 : 1 ≤ C.length := by omega
  ((repeat refine AW_seq ?_))
  refine AW_mid (fun x : Nat => ⟨[(2, .ptr 0 (t + 1) 0), (6, int i), (8, .ptr 1 (t + 1 + 1) 0), (9, int k), (11, .own 1 3 gm 0 n)], [some ⟨25, t + 1, [bks s.bs, rps s.rs]⟩, some ⟨102, t + 1 + 1, [ints (nums L), mat (rowsF s L)]⟩, none, some ⟨65, gm, (turnP C n).map ints⟩], x⟩) (fun _ => True) ?_ ?_
  · refine AW_block ?_
    refine AW_loop_w (fun x : Nat × Nat => ⟨[(2, .ptr 0 (t + 1) 0), (6, int i), (8, .ptr 1 (t + 1 + 1) 0), (9, int k), (10, mat C), (11, .own 1 3 gm 0 n), (70, int n), (71, int x.1)], [some ⟨25, t + 1, [bks s.bs, rps s.rs]⟩, some ⟨102, t + 1 + 1, [ints (nums L), mat (rowsF s L)]⟩, none, some ⟨65, gm, (turnP C x.1).map ints ++ List.replicate (n - x.1) nilI⟩], x.2⟩) (fun x => n - x.1) (fun x => x.1 ≤ n) (0, gm) (Nat.zero_le _) (by (simp (disch := omega) only [StLe, tmLe, hpLe_refl, hpLe, bl, bb, bt, zDs, zD, eqCells, simprocAttr, turnP, List.range_zero, Nat.sub_zero])) ?_
    rintro ⟨p, tt⟩ hp
    simp only at hp
    have htl : ((turnP C p).map ints).length = p := by rw [List.length_map, turnP_len]
    by_cases hlt : p < n
    · rw [col_nil hlt]
      ((refine ggb0 (F := _∧_) ⟨@Int.ofNat_lt, hlt⟩ ?_))
      ((repeat refine AW_seq ?_))
      refine AW_block ?_
      ((refine gga0 ?_))
      have hg1 := col_get (n := n) htl nilI
      have hs1 := fun c d => col_push (n := n) htl hlt c d
      refine AW.begin_cell 3 p 1 3 rfl hg1 (by decide) ?_
      simp only [List.set_cons_succ, List.set_cons_zero, List.length_cons, List.length_nil, List.cons_append, List.nil_append, Nat.zero_add, Nat.reduceAdd, hs1]
      have htl2 : (turnP C p).length = p := turnP_len C p
      have hrl : (List.replicate (n - (p + 1)) nilI).length = n - (p + 1) := by simp
      have hkn : p < p + (n - (p + 1) + 1) := by omega
      refine AW_block ?_
      refine AW_loop_w (fun x : Nat × Nat × Nat => ⟨[(2, .ptr 0 (t + 1) 0), (6, int i), (8, .ptr 1 (t + 1 + 1) 0), (9, int k), (10, mat C), (11, .own 1 3 gm 0 n), (12, int p), (70, int n), (71, int p), (74, mat C), (75, int C.length), (76, int x.1)], [some ⟨25, t + 1, [bks s.bs, rps s.rs]⟩, some ⟨102, t + 1 + 1, [ints (nums L), mat (rowsF s L)]⟩, none, some ⟨65, gm, (turnP C p).map ints ++ .own 1 4 x.2.1 0 x.1 :: List.replicate (n - (p + 1)) nilI⟩, some ⟨3, x.2.1, (colP (C.take x.1) p).map int⟩], x.2.2⟩) (fun x => C.length - x.1) (fun x => x.1 ≤ C.length) (0, tt + 1, tt + 1) (Nat.zero_le _) (by (simp (disch := omega) only [StLe, tmLe, hpLe_refl, hpLe, bl, bb, bt, zDs, zD, eqCells, simprocAttr, colP])) ?_
      rintro ⟨j, g, t2⟩ hj
      simp only at hj
      by_cases hlj : j < C.length
      · obtain ⟨q, hq⟩ : ∃ y, C[j]? = some y := ⟨_, List.getElem?_eq_getElem hlj⟩
        have hql := hcr q (List.mem_of_getElem? hq)
        have hkr : p < q.length := by omega
        obtain ⟨v, hv⟩ : ∃ y, q[p]? = some y := ⟨_, List.getElem?_eq_getElem hkr⟩
        have hct := colP_take hq hv
        have hcl2 : (colP (C.take j) p).length = j := by simp [colP]; omega
        have hg2 := fun c => col_get (n := n) htl c
        ((refine ggb0 (F := _∧_) ⟨@Int.ofNat_lt, hlj⟩ ?_))
        ((repeat refine AW_seq ?_))
        refine AW_block ?_
        ((refine ggb0 (F := _∧_) ⟨hlj, hq⟩ ?_))
        ((repeat refine AW_seq ?_); (refine gdzb (F := _∧_∧_∧_∧_∧_∧_∧_) ⟨hg2, hs1, hkr, hv, hcl2, hkn, htl2, hrl⟩ ?_))
        ((refine gga0 ?_))
        refine ⟨(j + 1, t2 + 1, t2 + 1), hlj, by show C.length - (j + 1) < C.length - j; omega, ?_⟩
        simp only [hct, List.map_append, List.map_cons, List.map_nil]
        (simp (disch := omega) only [StLe, tmLe, hpLe_refl, hpLe, bl, bb, bt, zDs, zD, eqCells, simprocAttr])
      · have hje : j = C.length := by omega
        subst hje
        rw [List.take_length]
        have hcl2 : (colP C p).length = C.length := by simp [colP]
        have hfin2 : List.take C.length ((colP C p).map int) = (colP C p).map int := List.take_of_length_le (by simp [hcl2])
        ((refine wqb @Int.lt_irrefl ?_))
        ((refine wia ?_))
        ((refine wxa ?_))
        ((refine AW.freeze (4) (by first | rfl | (simp only [setH, List.getElem?_cons_zero, List.getElem?_cons_succ, fzL_app, fz_nils, fzL_ints, fzL_mat, fz_bk, fz_rp, hcl2, hfin2, List.length_map, Nat.le_refl]; done)) ?_); simp (disch := omega) only [fzT, fz, fzL, fzL_ints, fzL_mat, fzH, fzB, eq_self, bb, bt, zDs, zD, eqCells, simprocAttr, fzL_app, fz_nils, fzL_ints, fzL_mat, fz_bk, fz_rp, hcl2, hfin2, List.length_map, Nat.le_refl])
        ((refine gga0 ?_))
        refine ⟨(p + 1, t2), hlt, by show n - (p + 1) < n - p; omega, ?_⟩
        simp only [turnP_succ, List.map_append, List.map_cons, List.map_nil, List.append_assoc, List.cons_append, List.nil_append]
        (simp (disch := omega) only [StLe, tmLe, hpLe_refl, hpLe, bl, bb, bt, zDs, zD, eqCells, simprocAttr])
    · have hke : p = n := by omega
      subst hke
      ((refine ggb0 @Int.lt_irrefl ?_))
      exact ⟨tt, trivial, by (simp (disch := omega) only [StLe, tmLe, hpLe_refl, hpLe, bl, bb, bt, zDs, zD, eqCells, simprocAttr, Nat.sub_self, List.replicate_zero, List.append_nil])⟩
  rintro tt -
  have hfin3 : List.take n ((turnP C n).map ints) = (turnP C n).map ints := List.take_of_length_le (by simp [turnP_len])
  have htl := turnP_len C n
  have hY2 : (nullP (turnP C n)).2 = 0 := by unfold nullP; rw [if_pos uv]
  have hYl : ∀ v ∈ (nullP (turnP C n)).1, v.length = C.length := fun v hv => by
    unfold nullP at hv
    rw [if_pos uv] at hv
    obtain ⟨c, _, _, rfl⟩ := nulls_mem _ _ _ v hv
    rw [nvec_len, uw]
  have hYn : (nullP (turnP C n)).1.length ≤ 12 := by
    unfold nullP
    rw [if_pos uv]
    have := nulls_len (elim (turnP C n) (wid (turnP C n))) (wid (turnP C n)) (wid (turnP C n))
    simp only
    omega
  ((refine AW.freeze (3) (by first | rfl | (simp only [setH, List.getElem?_cons_zero, List.getElem?_cons_succ, hfin3, htl, fzL_mat, fzL_ints, fz_bk, fz_rp, List.length_map, Nat.le_refl]; done)) ?_); simp (disch := omega) only [fzT, fz, fzL, fzL_ints, fzL_mat, fzH, fzB, eq_self, bb, bt, zDs, zD, eqCells, simprocAttr, hfin3, htl, fzL_mat, fzL_ints, fz_bk, fz_rp, List.length_map, Nat.le_refl])
  generalize nullP (turnP C n) = Y at *
  obtain ⟨N, ye⟩ := Y
  simp only at hY2 hYl hYn hN ⊢
  subst hY2
  by_cases hY : N = []
  · rw [if_pos hY]
    subst hY
    ((refine gga1 hN ?_))
    ((repeat refine AW_seq ?_); (refine wta ?_); simp (disch := omega) only [retQ, resD, oneD, rsv, rs, rsL, rsL_eq_map, List.map_map, bb, bt, zDs, zD, eqCells, simprocAttr, Try.results24])
    rfl
  rw [if_neg hY]
  have hNp := List.length_pos_iff.2 hY
  have hl0 : ((N.length : Int) == 0) = false := by simp; omega
  obtain ⟨v, hv1⟩ : ∃ y, N[N.length - 1]? = some y := ⟨_, List.getElem?_eq_getElem (by omega)⟩
  have hvl := hYl v (List.mem_of_getElem? hv1)
  have hsub : (N.length : Int) - 1 = ((N.length - 1 : Nat) : Int) := by omega
  have hlt1 : N.length - 1 < N.length := by omega
  rw [List.getD_eq_getElem?_getD, hv1, Option.getD_some]
  ((refine ggb1 (F := _∧_∧_∧_∧_) ⟨hl0, hsub, hlt1, hv1, hdr⟩ hN ?_))
  generalize hnr : s.rs.length = nr at *
  have hfz : (List.replicate nr [int 0, int 0]).flatten = frC (fillF nr 0) := by
    rw [fillF_zero]; exact pairC_frC 0 0 nr
  rw [hfz]
  ((repeat refine AW_seq ?_))
  refine AW_mid (fun x : Nat => ⟨[(6, int i), (8, .ptr 1 (t + 1 + 1) 0), (9, int k), (16, frs v), (17, .own 2 4 (tt + 1) 0 nr)], [none, some ⟨102, t + 1 + 1, [ints (nums L), mat (rowsF s L)]⟩, none, none, some ⟨42, tt + 1, frC (fillF nr nr)⟩], x⟩) (fun _ => True) ?_ ?_
  · refine AW_block ?_
    refine AW_loop_w (fun x : Nat × Nat => ⟨[(6, int i), (8, .ptr 1 (t + 1 + 1) 0), (9, int k), (16, frs v), (17, .own 2 4 (tt + 1) 0 nr), (118, int nr), (119, int x.1)], [none, some ⟨102, t + 1 + 1, [ints (nums L), mat (rowsF s L)]⟩, none, none, some ⟨42, tt + 1, frC (fillF nr x.1)⟩], x.2⟩) (fun x => nr - x.1) (fun x => x.1 ≤ nr) (0, tt + 1) (Nat.zero_le _) (by (simp (disch := omega) only [StLe, tmLe, hpLe_refl, hpLe, bl, bb, bt, zDs, zD, eqCells, simprocAttr])) ?_
    rintro ⟨p, t3⟩ hp
    simp only at hp
    by_cases hpn : p < nr
    · have hl0 := frC_len (fillF nr p)
      rw [fillF_len hp] at hl0
      have hle0 : p * 2 + 2 ≤ nr * 2 := by omega
      have hset0 := frC_set (fillF nr p) p 0 1 (by rw [fillF_len hp]; exact hpn)
      rw [fillF_set hpn] at hset0
      simp only [List.append_assoc, List.cons_append, List.nil_append] at hset0
      ((refine ggb0 (F := _∧_) ⟨@Int.ofNat_lt, hpn⟩ ?_))
      ((repeat refine AW_seq ?_))
      refine AW_block ?_
      ((refine ggb0 (F := _∧_∧_∧_) ⟨hl0, hpn, hle0, hset0⟩ ?_))
      refine ⟨(p + 1, t3), hpn, by show nr - (p + 1) < nr - p; omega, ?_⟩
      (simp (disch := omega) only [StLe, tmLe, hpLe_refl, hpLe, bl, bb, bt, zDs, zD, eqCells, simprocAttr])
    · have hpe : p = nr := by omega
      subst hpe
      ((refine ggb0 @Int.lt_irrefl ?_))
      exact ⟨t3, trivial, by (simp (disch := omega) only [StLe, tmLe, hpLe_refl, hpLe, bl, bb, bt, zDs, zD, eqCells, simprocAttr])⟩
  rintro t3 -
  rw [fillF_end, show List.replicate nr ((0 : Int), (1 : Int)) = putW v (L.eraseIdx k) nr 0 from rfl]
  ((repeat refine AW_seq ?_); (refine AW_region_k tab_ok fun KR hKR => ?_)); ((refine wra ?_))
  ((first | refine awOps_nc fun KK hKK => ?_ | refine awOps_gc rfl fun KK hKK => ?_); simp (disch := omega) only [bb, bt, zDs, zD, eqCells, simprocAttr, goC, callO_fn, argsD, and_self]; refine ACall.of_fresh (cloneInts (nums L) (by omega)) (by first | (simp only [List.map_cons, List.map_nil, List.append_nil, List.nil_append, List.cons_append, ufa, uf]; done) | rfl) ?_; simp (disch := omega) only [bb, bt, zDs, zD, eqCells, simprocAttr, afterC]; refine hKK _ ?_; clear hKK KK)
  ((refine wra ?_))
  ((try with_reducible intro KR hKR); (first | refine awOps_nc fun KK hKK => ?_ | refine awOps_gc rfl fun KK hKK => ?_); simp (disch := omega) only [bb, bt, zDs, zD, eqCells, simprocAttr, goC, callO_fn, argsD, and_self])
  refine delete_row (bl := ⟨3, t3 + 1, (nums L).map int⟩) (l := nums L) rfl rfl rfl hkn ?_
  (simp (disch := omega) only [bb, bt, zDs, zD, eqCells, simprocAttr, afterC]; refine hKK _ ?_; clear hKK KK)
  ((refine wra ?_)); ((refine wea ?_); (try clear hKR KR))
  have hfin5 : List.take ((nums L).length - 1) (((nums L).eraseIdx k).map int) = ((nums L).eraseIdx k).map int := List.take_of_length_le (by rw [List.length_map, List.length_eraseIdx_of_lt hkn]; omega)
  have hle5 : (nums L).length - 1 ≤ ((nums L).eraseIdx k).length := by rw [List.length_eraseIdx_of_lt hkn]; omega
  ((refine AW.freeze (5) (by first | rfl | (simp only [setH, List.getElem?_cons_zero, List.getElem?_cons_succ, fzL_ints, fzL_mat, fzS_fr, hfin5, hle5, List.length_map, Nat.le_refl]; done)) ?_); simp (disch := omega) only [fzT, fz, fzL, fzL_ints, fzL_mat, fzH, fzB, eq_self, bb, bt, zDs, zD, eqCells, simprocAttr, fzL_ints, fzL_mat, fzS_fr, hfin5, hle5, List.length_map, Nat.le_refl])
  rw [nums_erase]
  unfold witV
  rw [hnr]
  generalize hO' : L.eraseIdx k = O at *
  have hol := nums_len O
  have hvn : v.length = O.length + 1 := by omega
  have hO6 : O.length ≤ 6 := by omega
  ((refine ggb0 hol ?_))
  ((repeat refine AW_seq ?_))
  refine AW_mid (fun x : Nat => ⟨[(6, int i), (16, frs v), (17, .own 2 4 (tt + 1) 0 nr)], [none, none, none, none, some ⟨42, tt + 1, frC (putW v O nr O.length)⟩], x⟩) (fun _ => True) ?_ ?_
  · refine AW_block ?_
    refine AW_loop_w (fun x : Nat × Nat => ⟨[(6, int i), (16, frs v), (17, .own 2 4 (tt + 1) 0 nr), (134, ints (nums O)), (135, int O.length), (136, int x.1)], [none, none, none, none, some ⟨42, tt + 1, frC (putW v O nr x.1)⟩], x.2⟩) (fun x => O.length - x.1) (fun x => x.1 ≤ O.length) (0, t3 + 1 + 1) (Nat.zero_le _) (by (simp (disch := omega) only [StLe, tmLe, hpLe_refl, hpLe, bl, bb, bt, zDs, zD, eqCells, simprocAttr])) ?_
    rintro ⟨j, t4⟩ hj
    simp only at hj
    by_cases hjn : j < O.length
    · obtain ⟨o, ho⟩ : ∃ y, O[j]? = some y := ⟨_, List.getElem?_eq_getElem hjn⟩
      obtain ⟨f, hfj⟩ : ∃ y, v[j]? = some y := ⟨_, List.getElem?_eq_getElem (by omega)⟩
      have hon := helt o (List.mem_of_getElem? ho)
      have hno : (nums O)[j]? = some (o : Int) := by unfold nums; rw [List.getElem?_map, ho]; rfl
      have hjn2 : j < (nums O).length := by omega
      have hjv : j < v.length := by omega
      have hra := frC_read v j f hfj
      have hvd := frC_div v
      have hl0 := frC_len (putW v O nr j)
      rw [putW_len] at hl0
      have hle0 : o * 2 + 2 ≤ nr * 2 := by omega
      have hset0 := frC_set (putW v O nr j) o f.1 f.2 (by rw [putW_len]; exact hon)
      have hpu : putW v O nr (j + 1) = (putW v O nr j).set o (f.1, f.2) := by simp only [putW]; rw [List.getD_eq_getElem?_getD, ho, List.getD_eq_getElem?_getD, hfj]; rfl
      rw [← hpu] at hset0
      simp only [List.append_assoc, List.cons_append, List.nil_append] at hset0
      ((refine ggb0 (F := _∧_) ⟨@Int.ofNat_lt, hjn⟩ ?_))
      ((repeat refine AW_seq ?_))
      refine AW_block ?_
      ((refine ggb0 (F := _∧_∧_∧_∧_∧_∧_∧_∧_∧_∧_) ⟨hl0, hon, hle0, hset0, hno, hjn, hjn2, hjv, hra, hvd, hol⟩ ?_))
      refine ⟨(j + 1, t4), hjn, by show O.length - (j + 1) < O.length - j; omega, ?_⟩
      (simp (disch := omega) only [StLe, tmLe, hpLe_refl, hpLe, bl, bb, bt, zDs, zD, eqCells, simprocAttr])
    · have hje : j = O.length := by omega
      subst hje
      ((refine ggb0 @Int.lt_irrefl ?_))
      exact ⟨t4, trivial, by (simp (disch := omega) only [StLe, tmLe, hpLe_refl, hpLe, bl, bb, bt, zDs, zD, eqCells, simprocAttr])⟩
  rintro t4 -
  obtain ⟨f, hfj⟩ : ∃ y, v[v.length - 1]? = some y := ⟨_, List.getElem?_eq_getElem (by omega)⟩
  have hsub2 : (v.length : Int) - 1 = ((v.length - 1 : Nat) : Int) := by omega
  have hjv : v.length - 1 < v.length := by omega
  have hra := frC_read v (v.length - 1) f hfj
  have hvd := frC_div v
  have hl0 := frC_len (putW v O nr O.length)
  rw [putW_len] at hl0
  have hle0 : i * 2 + 2 ≤ nr * 2 := by omega
  have hset0 := frC_set (putW v O nr O.length) i f.1 f.2 (by rw [putW_len]; exact hil)
  have hpu : (putW v O nr O.length).set i (v.getD (v.length - 1) (0, 0)) = (putW v O nr O.length).set i (f.1, f.2) := by rw [List.getD_eq_getElem?_getD, hfj]; rfl
  rw [hpu]
  have hwl : ((putW v O nr O.length).set i (f.1, f.2)).length = nr := by rw [List.length_set, putW_len]
  simp only [List.append_assoc, List.cons_append, List.nil_append] at hset0
  have hvl12 : v.length ≤ 12 := by omega
  generalize (putW v O nr O.length).set i (f.1, f.2) = W at *
  ((refine wqb (F := _∧_∧_∧_∧_∧_∧_∧_) ⟨hl0, hil, hle0, hset0, hsub2, hjv, hra, hvd⟩ ?_))
  have hwl2 := frC_len W
  rw [hwl] at hwl2
  have hfin6 : List.take (nr * 2) (frC W) = frC W := List.take_of_length_le (by omega)
  ((refine AW.freeze (4) (by first | rfl | (simp only [setH, List.getElem?_cons_zero, List.getElem?_cons_succ, fzS_fr, hfin6, hwl2, Nat.le_refl]; done)) ?_); simp (disch := omega) only [fzT, fz, fzL, fzL_ints, fzL_mat, fzH, fzB, eq_self, bb, bt, zDs, zD, eqCells, simprocAttr, fzS_fr, hfin6, hwl2, Nat.le_refl])
  ((refine gga0 ?_))
  ((repeat refine AW_seq ?_); (refine wta ?_); simp (disch := omega) only [retQ, resD, oneD, bb, bt, zDs, zD, eqCells, simprocAttr, Try.results24])
  exact rsv_tidy _ _ (by simp only [tidyD, tidyL, tidy_fr, Bool.not_false, Bool.and_self])
end Go.Proofs.Ytjmmenfbcbagoaa.T
end
