import Derived.Test.YtalhegbjlfkipaaTN
set_option linter.all false
/- Two operations of queues: append to what is left of a block of one's own, and a literal that is a block of one's own from the first on. -/
section
namespace Go.Proofs.Ytalhegbjlfkipaa.T
open Go Go.RowKit
section
variable {P : Program} {w0 : World} {F : Mem} {G : Ghost} {H : Hp} {tk : Nat} {w : World}

/-- append to a slice that does not begin where its block does. -/
theorem app_off (R : Rel w0 F G H tk w) {t et ty : TypeId} {i e : TI} (ok : TI.Ok P t i) (hd : i.kind = .slice et) (oe : TI.Ok P et e) (h1 : e.sz = 1) {b lo n : Nat} {x : D} {u v : Value} {bl : Blk} {xs : List D} (hb : H[b]? = some (some bl)) (hs : Rep F G (.own 1 b bl.g lo n) u) (hx : Rep F G x v)
    (hsl : slCells H x = some (1, xs)) (hxs : xs ≠ []) (hone : xs.all isCell = true) (hn : 0 < n) (hlo : lo + n = bl.cells.length) (hty : bl.ty = et) (hby1 : (bl.cells.length + xs.length) * e.bytes ≤ 140737488355328) (hbig : bl.cells.length + xs.length ≤ 4611686018427387903) :
    ∃ v' w' p' lo' cs', (Builtin.append_ #[t, t] ty #[u, v]).run P w = .ok v' w' ∧ cs'.drop lo' = bl.cells.drop lo ++ xs ∧ lo' + (n + xs.length) = cs'.length ∧ lo' ≤ lo ∧ Ghost.le G.length G (G.set b p') ∧ Rel w0 F (G.set b p') (setH H b ⟨et, tk + 1, cs'⟩) (tk + 1) w' ∧ Rep F (G.set b p') (.own 1 b (tk + 1) lo' (n + xs.length)) v' := by
  obtain ⟨info, z, hi, hsi, hby, hz, hzv⟩ := oe.info
  obtain ⟨hu, _⟩ := ok.slice hd
  have hzs : z.cells.size = 1 := by rw [← Array.length_toList, hzv, oe.lens.1, h1]
  rw [h1] at hsi
  obtain ⟨a, m, c, vs, rfl, hm, hcells, hL⟩ := slCells_real R hx hsl (by omega) hxs
  have hvl : vs.length = m := by rw [hL.length]; omega
  have hm0 : 0 < m := by
    rcases Nat.eq_zero_or_pos m with h0 | h0
    · subst h0; simp at hm; exact absurd (List.eq_nil_of_length_eq_zero hm.symm) hxs
    · exact h0
  have hmx : m = xs.length := by omega
  have R2 : Rel w0 F G H (tk + 1) w := R.more (Nat.le_succ tk)
  rcases R.own_some hs hb rfl with ⟨_, h0, _⟩ | ⟨r, size, cap, vs0, junk, hG, rfl, hcap, hcm, hsz, hbr, hh, hlv, hL0⟩
  · omega
  have hlt : (⟨some (r, size), bl.g, false⟩ : Pl).g < tk + 1 := Nat.lt_succ_of_le (R.top _ _ hG)
  have hbH : b ≤ H.length := Nat.le_of_lt (List.getElem?_eq_some_iff.1 hb).1
  have hv0 : vs0.length = lo + n := by rw [hL0.length, hlo]
  by_cases hroom : n + m ≤ cap
  · -- there is room: the whole block is one slice
    have hst := run_storeCells_at P r (lo + n) et vs 0 (vs0 ++ junk).toArray w (by rw [← hty]; exact hh) (by simp; omega) (hL.oneCell hone)
    simp only [Nat.add_zero] at hst
    have hf := run_firstCells_some (P := P) w 1 m a m c vs (by omega) hcells
    have hrun : (Builtin.append_ #[t, t] ty #[.slice (some ⟨r, lo, none⟩) n cap, .slice (some a) m c]).run P w = .ok (.slice (some ⟨r, lo, none⟩) (n + m) cap) (w.setRow r ((vs0 ++ junk).toArray.toList.take (lo + n) ++ vs ++ (vs0 ++ junk).toArray.toList.drop (lo + n + vs.length)).toArray) := by
      simp [Builtin.append_, run_underlying hu, sizeOf, typeInfo, hi, hsi, Builtin.lenOf, hroom, hf, Addr.add_lit]
      simp at hst
      simp [hst]
    obtain ⟨q, hq, hl⟩ := R.own b bl hb
    rw [hG] at hq; cases hq
    obtain ⟨_, hl⟩ := hl
    simp only at hl
    obtain ⟨_, hFr, _⟩ := hl
    have hle := Ghost.le_set (p' := ⟨some (r, size), tk + 1, false⟩) hG (.inr hlt) G.length
    have hrow : (vs0 ++ junk).toArray.toList.take (lo + n) ++ vs ++ (vs0 ++ junk).toArray.toList.drop (lo + n + vs.length) = vs0 ++ vs ++ junk.drop m := by
      simp only [← hv0, hvl]
      rw [List.take_left, ← List.drop_drop, List.drop_left]
    rw [hrow] at hrun
    refine ⟨_, _, ⟨some (r, size), tk + 1, false⟩, lo, bl.cells ++ xs, hrun, ?_, ?_, Nat.le_refl _, hle, ?_, ?_⟩
    · rw [List.drop_append_of_le_length (by omega)]
    · rw [List.length_append]; omega
    · refine R.put (Nat.le_succ tk) (Nat.le_refl _) hbH hG (.inr hlt) ⟨rfl, rfl, rfl, by simp, fun k hk => setRow_other w r k _ (by omega)⟩ (.refl _) (fun c o x e => ?_) (fun i bi q r' s' hi hbi hq hrs => ?_) ⟨rfl, ?_⟩
      · have hne : c ≠ r := fun e' => by subst e'; rw [hFr o] at e; cases e
        rw [World.cell?_of_block (w := w) (setRow_other w r c _ hne)]
        exact R.mem c o x e
      · have hne := R.inj i b bi bl q _ r' s' r size hi hbi hb hq hG hrs rfl
        obtain ⟨q', hq', hl⟩ := R.own i bi hbi
        rw [hq] at hq'; cases hq'
        refine ⟨setRow_other w r r' _ hne, ?_, fun r'' s'' e => by cases e; exact hne⟩
        obtain ⟨_, h⟩ := hl; rw [hrs] at h; exact h.2.1
      · refine ⟨hbr, hFr, vs0 ++ vs, junk.drop m, ?_, ?_, RepL.mono (.refl _) (Ghost.le_set hG (.inr hlt) _) _ _ (hL0.append hL)⟩
        · exact setRow_heap w r _ _ _ _ (by rw [← hty]; exact hh)
        · simp only [List.length_append, List.length_drop]; omega
    · simp only [Rep]
      refine ⟨rfl, _, by rw [List.getElem?_set_self (List.getElem?_eq_some_iff.1 hG).1], Nat.le_refl _, fun _ => ?_⟩
      exact ⟨rfl, cap, by rw [hmx], by omega, hcm, hsz⟩
  · -- a new row
    have hge := grownCap_ge w (n + m) cap et
    have hgm := grownCap_le_maxLen w (n + m) cap et (by rw [maxLen_eq]; omega)
    have hb1 : (n + m) * info.bytes ≤ 140737488355328 := by
      rw [hby]
      exact Nat.le_trans (Nat.mul_le_mul_right _ (by omega)) hby1
    have hdl : (vs0.drop lo).length = n := by rw [List.length_drop]; omega
    have hrun : (Builtin.append_ #[t, t] ty #[.slice (some ⟨r, lo, none⟩) n cap, .slice (some a) m c]).run P w = .ok (.slice (some ⟨w.heap.size, 0, none⟩) (n + m) (grownCap w (n + m) cap et)) (w.drew.alloc (.cells ((vs0.drop lo).toArray ++ vs.toArray ++ Builtin.zeroCells z.cells (grownCap w (n + m) cap et - (n + m))) et)) :=
      run_append_grow (P := P) w t ty et info z hu hi hz ⟨r, lo, none⟩ n cap (vs0.drop lo) (by rw [hdl, hsi, Nat.mul_one]) (fun j y hy => by
        rw [List.getElem?_drop] at hy
        rw [Addr_add, cell_of_row w r (lo + j) _ _ _ hh]
        have hlt' : lo + j < vs0.length := (List.getElem?_eq_some_iff.1 hy).1
        simp only [List.getElem?_toArray]
        rw [List.getElem?_append_left hlt']
        exact hy) a m c vs (by rw [hsi, Nat.mul_one]; exact hvl) hcells (by omega) (by omega) (growslice_fits (by omega) hb1)
    have hown : (w.drew.alloc (.cells ((vs0.drop lo).toArray ++ vs.toArray ++ Builtin.zeroCells z.cells (grownCap w (n + m) cap et - (n + m))) et)).ownsRow w0.heap.size et 1 (.slice (some ⟨w.heap.size, 0, none⟩) (n + m) (grownCap w (n + m) cap et)) (n + m) (vs0.drop lo ++ vs) := by
      refine ⟨by rw [List.length_append, hdl, hvl, Nat.mul_one], .inr ⟨w.heap.size, _, _, rfl, R.below.size, heap_alloc_new w.drew _, hge, hgm, ?_, ?_⟩⟩
      · simp only [Array.size_append, List.size_toArray, size_zeroCells, hzs, hdl, hvl, Nat.mul_one]
        omega
      · simp only [Array.toList_append, List.append_assoc]
        rw [← List.append_assoc]
        have : (n + m) * 1 = (vs0.drop lo ++ vs).length := by rw [List.length_append, hdl, hvl, Nat.mul_one]
        rw [this]
        exact List.take_left
    obtain ⟨⟨k1, _⟩, k2, k3⟩ := owned_after (cs := bl.cells.drop lo ++ xs) R2 hbH hG (Nat.le_refl _) hlt (by omega : 0 < 1) hown (by omega) (row := none) ⟨rfl, rfl, rfl, by simp, fun k hk _ => heap_alloc_old w.drew _ hk⟩ (.inr rfl) (.inl rfl) ((hL0.drop lo).append hL)
    refine ⟨_, _, _, 0, bl.cells.drop lo ++ xs, hrun, List.drop_zero, ?_, Nat.zero_le _, k1, k2, ?_⟩
    · simp only [List.length_append, List.length_drop]; omega
    · rw [← hmx]; exact k3
end

theorem awOps_may {P : Program} {tab : Tab} {n : Nat} {all : List Oper} {K : St → Prop} {rest : List Oper} {st : St} {dst : Option Tmp} {op : Op} {ty : TypeId} {pos : String} {aft : Array Edge} (ho : isCallV op = false) (hk : dst.getD 0 < n) (S : D → Hp → Nat → Prop) (hm : MayBe P n st ⟨dst, op, ty, pos, aft, none⟩ S)
    (h : ∀ d H t, S d H t → awOps P tab n all K rest (St.put ⟨st.tm, H, t⟩ dst d)) : awOps P tab n all K (⟨dst, op, ty, pos, aft, none⟩ :: rest) st := by
  unfold awOps
  refine ⟨.inl hk, ?_⟩
  rw [wantedA_n]
  simp only
  split
  · simp [isCallV] at ho
  · exact .inr (.inr ⟨S, hm, h⟩)

/-- append to what is left of a block. -/
theorem awOps_off {P : Program} {tab : Tab} (hT : Tab.Ok P tab) {n : Nat} {all : List Oper} {K : St → Prop} {rest : List Oper} {st : St} {dst : Option Tmp} {s x : Operand} {t et ty : TypeId} {pos : String} {aft : Array Edge} {i e : TI} {b lo m : Nat} {bl : Blk} {xs : List D}
    (hk : dst.getD 0 < n) (ht : tab t = some i) (hd : i.kind = .slice et) (he : tab et = some e) (h1 : e.sz = 1) (hs : evalD tab st.tm t s = .own 1 b bl.g lo m) (hb : st.H[b]? = some (some bl)) (hsl : slCells st.H (evalD tab st.tm t x) = some (1, xs)) (hxs : xs ≠ []) (hone : xs.all isCell = true)
    (hm : 0 < m) (hlo : lo + m = bl.cells.length) (hty : bl.ty = et) (hby : (bl.cells.length + xs.length) * e.bytes ≤ 140737488355328) (hbig : bl.cells.length + xs.length ≤ 4611686018427387903)
    (h : ∀ KK : St → Prop, (∀ s, awOps P tab n all K rest s → KK s) → ∀ lo' cs', cs'.drop lo' = bl.cells.drop lo ++ xs → lo' + (m + xs.length) = cs'.length → lo' ≤ lo → KK (St.put ⟨st.tm, setH st.H b ⟨et, st.t + 1, cs'⟩, st.t + 1⟩ dst (.own 1 b (st.t + 1) lo' (m + xs.length)))) :
    awOps P tab n all K (⟨dst, .call { callee := .builtin .append, args := ⟨[s, x]⟩, argTypes := ⟨[t, t]⟩ }, ty, pos, aft, none⟩ :: rest) st := by
  have h := h _ fun _ h => h
  refine awOps_may rfl hk (fun d H t' => ∃ lo' cs', cs'.drop lo' = bl.cells.drop lo ++ xs ∧ lo' + (m + xs.length) = cs'.length ∧ lo' ≤ lo ∧ d = .own 1 b (st.t + 1) lo' (m + xs.length) ∧ H = setH st.H b ⟨et, st.t + 1, cs'⟩ ∧ t' = st.t + 1) (fun w0 F G a w ⟨R, hTR, _⟩ => ?_) fun d H t' ⟨lo', cs', e1, e2, e0, e3, e4, e5⟩ => by subst e3; subst e4; subst e5; exact h lo' cs' e1 e2 e0
  obtain ⟨v', w', p', lo', cs', r1, r2, r3, r0, r4, r5, r6⟩ := app_off (ty := ty) R (hT _ _ ht) hd (hT _ _ he) h1 hb (by rw [← hs]; exact hTR.eval tab t s) (hTR.eval tab t x) hsl hxs hone hm hlo hty hby hbig
  exact ⟨v', F, _, w', _, _, _, by { simp [execOp, resolve, invoke, builtin]; show (Sem.run P (Builtin.append_ #[t, t] ty #[a.eval s, a.eval x]) w).andThen _ = _; rw [r1]; rfl }, ⟨.refl _, fun _ _ _ => rfl, r4, by simp⟩, r5, r6, lo', cs', r2, r3, r0, rfl, rfl, rfl⟩

/-- A literal that is a block of one's own. -/
theorem awOps_lit {P : Program} {tab : Tab} (hT : Tab.Ok P tab) {n : Nat} {all : List Oper} {K : St → Prop} {rest : List Oper} {st : St} {dst : Option Tmp} {t et ty : TypeId} {k : Nat} {parts : Array (Nat × Operand)} {pos : String} {aft : Array Edge} {i e : TI} {cs : List D}
    (hk : dst.getD 0 < n) (ht : tab t = some i) (hd : i.kind = .slice et) (he : tab et = some e) (hsz : k * e.sz ≤ 65536 ∧ 0 < e.sz) (hk0 : 0 < k) (hf : fillD (fun k => some (k * e.sz, e.sz)) (List.replicate k e.zero).flatten (parts.toList.map fun p => (p.1, evalD tab st.tm et p.2)) = some cs)
    (h : ∀ KK : St → Prop, (∀ s, awOps P tab n all K rest s → KK s) → KK (St.put ⟨st.tm, st.H ++ [some ⟨et, st.t + 1, cs⟩], st.t + 1⟩ dst (.own e.sz st.H.length (st.t + 1) 0 k))) :
    awOps P tab n all K (⟨dst, .buildSlice t k parts, ty, pos, aft, none⟩ :: rest) st := by
  have h := h _ fun _ h => h
  refine awOps_may rfl hk (fun d H t' => d = .own e.sz st.H.length (st.t + 1) 0 k ∧ H = st.H ++ [some ⟨et, st.t + 1, cs⟩] ∧ t' = st.t + 1) (fun w0 F G a w ⟨R, hTR, _⟩ => ?_) fun d H t' ⟨e3, e4, e5⟩ => by subst e3; subst e4; subst e5; exact h
  have go : ∀ G1, Ghost.le G.length G G1 → G.length ≤ G1.length → Rel w0 F G1 st.H st.t w → (∃ p, G1[st.H.length]? = some p) → ∃ u F' G' w' d H' t', (execOp a.eval ⟨dst, .buildSlice t k parts, ty, pos, aft, none⟩).run P w = .ok (.value u) w' ∧ Onw w0 F G F' G' ∧ Rel w0 F' G' H' t' w' ∧ Rep F' G' d u ∧ d = .own e.sz st.H.length (st.t + 1) 0 k ∧ H' = st.H ++ [some ⟨et, st.t + 1, cs⟩] ∧ t' = st.t + 1 := fun G1 hG1 hl1 R1 ⟨p, hp⟩ => by
    have hTR1 := hTR.mono (.refl F) hG1
    obtain ⟨vs, hrun, hL, hlen⟩ := buildSlice_run R1 (hT _ _ ht) hd (hT _ _ he) (fun x => hTR1.eval tab et x) hsz (.inl hk0) hf
    have hlt : p.g < st.t + 1 := Nat.lt_succ_of_le (R1.top _ _ hp)
    have hle := Ghost.le_set (p' := ⟨some (w.heap.size, cs.length), st.t + 1, false⟩) hp (.inr hlt) G1.length
    have hset : setH st.H st.H.length ⟨et, st.t + 1, cs⟩ = st.H ++ [some ⟨et, st.t + 1, cs⟩] := by unfold setH; rw [if_pos rfl]
    have hbytes : k ≤ maxLen := by rw [maxLen_eq]; have := Nat.le_mul_of_pos_right k hsz.2; omega
    have hnew := R1.new (ty := et) (Nat.le_succ _) (Nat.le_refl _) (Nat.le_refl _) hp hlt hL
    rw [hset, hL.length] at hnew
    refine ⟨_, F, _, _, _, _, _, by { simp [execOp]; rw [hrun]; rfl }, ⟨.refl _, fun _ _ _ => rfl, hG1.trans (hle.less hl1), by simpa using hl1⟩, hnew, ?_, rfl, rfl, rfl⟩
    simp only [Rep]
    refine ⟨rfl, _, by rw [List.getElem?_set_self (List.getElem?_eq_some_iff.1 hp).1], Nat.le_refl _, fun _ => ?_⟩
    exact ⟨rfl, k, rfl, Nat.le_refl _, hbytes, by rw [hlen]; omega⟩
  rcases Nat.lt_or_ge st.H.length G.length with hlt | hge
  · exact go G (.refl _ _) (Nat.le_refl _) R ⟨_, List.getElem?_eq_getElem hlt⟩
  · have heq : st.H.length = G.length := by have := R.len; omega
    refine go (G ++ [⟨none, 0, false⟩]) (fun i p hi hp => ⟨p, by rw [List.getElem?_append_left hi]; exact hp, .refl p⟩) (by simp) R.extend ⟨⟨none, 0, false⟩, ?_⟩
    rw [heq]; simp
end Go.Proofs.Ytalhegbjlfkipaa.T
end
