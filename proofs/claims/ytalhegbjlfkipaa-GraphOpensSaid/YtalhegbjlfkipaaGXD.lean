import Derived.Test.YtalhegbjlfkipaaGXA
import Derived.Test.YtalhegbjlfkipaaTTab
import Derived.Shelf.SlicesE.Delete
set_option linter.all false
section
namespace Go.Proofs.Ytalhegbjlfkipaa.T
open Go Go.RowKit Go.Shelf Go.Lib Go.Sort
set_option linter.unusedSimpArgs false

/-! slices.Delete of one pair, in the caller's block (after the kit's proof for elements of one cell). -/
theorem clear_pair (w : World) (b o c : Nat) (ty : TypeId) (hc : ∀ j, j < 2 → (w.cell? ⟨b, o + j, none⟩).isSome = true) (hf : ∀ j, j < 2 → w.frozen? ⟨b, o + j, none⟩ = false) :
    (Builtin.clear_ #[22] ty #[.slice (some ⟨b, o, none⟩) 1 c]).run Try.prog w = .ok (.tuple #[]) (w.setCells b o [.int .i64 0, .int .i64 0]) := by
  have hzc : (Builtin.zeroCells (Value.agg #[.int .i64 0, .int .i64 0]).cells 1).toList = [.int .i64 0, .int .i64 0] := by simp [Builtin.zeroCells, Value.cells, Array.range_succ]
  have hst := run_storeCells_cells (P := Try.prog) b o [.int .i64 0, .int .i64 0] 0 w (by simpa using hc) (by simpa using hf) (by intro v hv'; simp at hv'; subst hv'; rfl)
  simp only [Nat.add_zero] at hst
  simp [Builtin.clear_, run_underlying Try.underlying22, Try.zeroValue43, hzc, hst]
set_option maxHeartbeats 4000000 in
set_option maxRecDepth 1000000 in
theorem delP_run (r n cap k : Nat) (news : List Value) (w : World) (hlen : news.length = (n - (k + 1)) * 2) (hk : k < n) (hcap : n ≤ cap) (hm : cap ≤ 9223372036854775807)
    (hget : ∀ j u, news[j]? = some u → w.cell? ⟨r, (k + 1) * 2 + j, none⟩ = some u) (h1 : ∀ u ∈ news, u.oneCell' = true) (hth : ∀ j, j < n * 2 → (w.cell? ⟨r, j, none⟩).isSome = true ∧ w.frozen? ⟨r, j, none⟩ = false) :
    Calls Try.prog 35 #[.slice (some ⟨r, 0, none⟩) n cap, .int .i64 k, .int .i64 ((k + 1 : Nat) : Int)] w fun e w' => e = .returned (.slice (some ⟨r, 0, none⟩) (n - 1) cap) ∧ w' = (w.drew.setCells r (0 + k * 2) news).setCells r ((n - 1) * 2) [.int .i64 0, .int .i64 0] := by
  obtain ⟨j, hj⟩ : ∃ j, j = k + 1 := ⟨_, rfl⟩
  rw [← hj] at hlen hget
  rw [← hj]
  have hlt : k < j := by omega
  have heq : ¬ k = j := by omega
  have hn1 : n - 1 = k + (n - j) := by omega
  rw [hn1]
  have hjn : j ≤ n := by omega
  obtain ⟨A, hA, hsrc⟩ : ∃ A : Addr, (if cap = j then some (⟨r, 0, none⟩ : Addr) else some ⟨r, j * 2, none⟩) = some A ∧ Hid (∀ t u, news[t]? = some u → w.drew.cell? (A.add t) = some u) := by
    by_cases h : cap = j
    · refine ⟨⟨r, 0, none⟩, by simp [h], fun t u hu => ?_⟩
      have h0 : news.length = 0 := by rw [hlen]; omega
      rw [List.length_eq_zero_iff.1 h0] at hu
      simp at hu
    · refine ⟨⟨r, j * 2, none⟩, by simp [h], fun t u hu => ?_⟩
      rw [Addr.add_lit]
      exact hget t u hu
  have s1 : Hid (news.length = (n - j) * 2) := hlen
  have s2 : Hid (∀ u ∈ news, u.oneCell' = true) := h1
  have s3 : Hid (∀ t, t < news.length → (w.drew.cell? ⟨r, 0 + k * 2 + t, none⟩).isSome = true ∧ w.drew.frozen? ⟨r, 0 + k * 2 + t, none⟩ = false) := by
    intro t ht
    rw [hlen] at ht
    exact hth _ (by omega)
  obtain ⟨W1, hW1⟩ : ∃ W1, W1 = w.drew.setCells r (0 + k * 2) news := ⟨_, rfl⟩
  have hcl : ∀ ty, (Builtin.clear_ #[22] ty #[.slice (some ⟨r, (k + (n - j)) * 2, none⟩) (n - (k + (n - j))) (cap - (k + (n - j)))]).run Try.prog W1 = .ok (.tuple #[]) (W1.setCells r ((k + (n - j)) * 2) [.int .i64 0, .int .i64 0]) := fun ty => by
    rw [show n - (k + (n - j)) = 1 by omega]
    exact clear_pair W1 r _ _ ty (fun j hj => by rw [hW1]; exact World.isSome_setCells r _ _ _ _ (hth _ (by omega)).1) (fun j hj => by rw [hW1, World.frozen?_setCells]; exact (hth _ (by omega)).2)
  have hW : Hid (W1 = w.drew.setCells r (0 + k * 2) news) := hW1
  have hic : k ≤ cap := by omega
  have hjc : j ≤ cap := by omega
  rw [← hW1]
  clear hW1 hth hget hlen hj hn1 hk h1
  have mixed := follows_mixed
  go_enter Try.func35, Try.ntmps35
  go_wp2_with fail
  go_region_law_o (refine step_append_room rfl (.tmp 22) (.tmp 25) 22 rfl 43 Try.t43 2 Try.underlying22 (by kernel_rfl) rfl r 0 k cap (by simp [Act.eval, Act.put]) A (n - j) (cap - j) news (by simp [Act.eval, Act.put]) s1.out hsrc.out s2.out (by omega) s3.out ?_; rw [← hW.out])
  go_wp2
  go_ret
  exact ⟨rfl, rfl⟩
theorem setCells_row {w : World} {r o : Nat} {ty : TypeId} {cs : Array Value} {vs : List Value} (hh : w.heap[r]? = some (.cells cs ty (0, 0))) (hs : o + vs.length ≤ cs.size) (h1 : ∀ v ∈ vs, v.oneCell' = true) : w.setCells r o vs = w.setRow r (cs.toList.take o ++ vs ++ cs.toList.drop (o + vs.length)).toArray := by
  have a := run_storeCells_at Try.prog r o ty vs 0 cs w hh (by simpa using hs) h1
  have b := run_storeCells_cells (P := Try.prog) r o vs 0 w (fun j hj => by
    have : o + j < cs.size := by omega
    simp [World.cell?, hh, this]) (fun j _ => by simp [World.frozen?, hh]) h1
  rw [a] at b
  have := (Result.ok.inj b).2
  simp only [Nat.add_zero] at this
  exact this.symm
/-- Values of one cell. -/
def cellE : D → Bool
  | .v x => x.oneCell'
  | _ => false
theorem cellE_all {F : Mem} {G : Ghost} : ∀ {ds : List D} {us : List Value}, ds.all cellE = true → RepL F G ds us → ∀ u ∈ us, u.oneCell' = true
  | [], us, _, h, u, hu => by simp only [RepL] at h; subst h; simp at hu
  | d :: ds, us, hc, h, u, hu => by
    simp only [RepL] at h
    obtain ⟨v, us', rfl, h1, h2⟩ := h
    simp only [List.all_cons, Bool.and_eq_true] at hc
    rcases List.mem_cons.1 hu with rfl | hu
    · cases d with
      | v x => simp only [Rep] at h1; subst h1; exact hc.1
      | _ => cases hc.1
    · exact cellE_all hc.2 h2 u hu
theorem edC_cellE (l : List (Int × Int)) : (edC l).all cellE = true := by
  induction l with
  | nil => rfl
  | cons a l ih =>
    simp only [edC, List.flatMap_cons, List.all_append, Bool.and_eq_true] at ih ⊢
    exact ⟨rfl, ih⟩
theorem edC_erase : ∀ (l : List (Int × Int)) (k : Nat), edC (l.eraseIdx k) = (edC l).take (k * 2) ++ (edC l).drop ((k + 1) * 2)
  | [], k => by simp [edC]
  | a :: l, 0 => by simp [edC]
  | a :: l, k + 1 => by
    have ih := edC_erase l k
    have e1 : (k + 1) * 2 = k * 2 + 1 + 1 := by omega
    have e2 : (k + 1 + 1) * 2 = (k + 1) * 2 + 1 + 1 := by omega
    rw [e1, e2]
    simp only [List.eraseIdx_cons_succ, edC, List.flatMap_cons, List.cons_append, List.nil_append, List.take_succ_cons, List.drop_succ_cons] at ih ⊢
    rw [ih]
theorem delete_pair {H : Hp} {t b n k : Nat} {bl : Blk} {l : List (Int × Int)} {K : D → Hp → Nat → Prop} (hb : H[b]? = some (some bl)) (hc : bl.cells = edC l) (hn : l.length = n) (hk : k < n)
    (hK : K (.own 2 b (t + 1) 0 (n - 1)) (setH H b ⟨bl.ty, t + 1, edC (l.eraseIdx k)⟩) (t + 1)) :
    ACall Try.prog 35 [.own 2 b bl.g 0 n, .v (.int .i64 k), .v (.int .i64 (k + 1))] H t K := by
  have hcl : Callable Try.prog 35 := ⟨_, Try.func35, rfl, by decide⟩
  refine fun w0 F G w us R hL => .inl ⟨hcl, ?_⟩
  simp only [RepL] at hL
  obtain ⟨u0, _, rfl, hu, u1, _, rfl, hu1, u2, _, rfl, hu2, rfl⟩ := hL
  simp only [Rep] at hu1 hu2
  subst hu1
  subst hu2
  rcases R.own_some hu hb rfl with ⟨_, rfl, _⟩ | ⟨r, size, cap, vs, junk, hG, rfl, hcap, hmax, hsz, hr0, hh, hjl, hrep⟩
  · omega
  rw [hc] at hrep
  have hvl : vs.length = n * 2 := by rw [hrep.length, edC_len, hn]
  have hvo := cellE_all (edC_cellE l) hrep
  have hds : (vs.drop ((k + 1) * 2)).length = (n - (k + 1)) * 2 := by rw [List.length_drop, hvl]; omega
  have hdo : ∀ u ∈ vs.drop ((k + 1) * 2), u.oneCell' = true := fun u hu => hvo u (List.mem_of_mem_drop hu)
  have hcell : ∀ j, j < n * 2 → (w.cell? ⟨r, j, none⟩).isSome = true ∧ w.frozen? ⟨r, j, none⟩ = false := fun j hj => by
    have : j < (vs ++ junk).length := by rw [List.length_append]; omega
    constructor
    · simp [World.cell?, hh]; simpa using this
    · simp [World.frozen?, hh]
  have hC := delP_run r n cap k (vs.drop ((k + 1) * 2)) w hds hk hcap (by rw [maxLen_eq] at hmax; exact hmax) (fun j u hu => by
    rw [List.getElem?_drop] at hu
    have hlt : (k + 1) * 2 + j < vs.length := (List.getElem?_eq_some_iff.1 hu).1
    have : (vs ++ junk)[(k + 1) * 2 + j]? = some u := by rw [List.getElem?_append_left hlt]; exact hu
    simpa [World.cell?, hh] using this) hdo hcell
  have hd1 : w.drew.heap[r]? = some (.cells (vs ++ junk).toArray bl.ty (0, 0)) := hh
  have hW1 := setCells_row (o := 0 + k * 2) hd1 (by simp only [List.size_toArray, List.length_append, hds, hvl]; omega) hdo
  have hrow1 : ((vs ++ junk).toArray.toList.take (0 + k * 2) ++ vs.drop ((k + 1) * 2) ++ (vs ++ junk).toArray.toList.drop (0 + k * 2 + (vs.drop ((k + 1) * 2)).length)) = (vs.take (k * 2) ++ vs.drop ((k + 1) * 2)) ++ (vs ++ junk).drop ((n - 1) * 2) := by
    simp only [Nat.zero_add]
    rw [List.take_append_of_le_length (by omega), hds, show k * 2 + (n - (k + 1)) * 2 = (n - 1) * 2 by omega]
  rw [hrow1] at hW1
  have hel : (vs.take (k * 2) ++ vs.drop ((k + 1) * 2)).length = (n - 1) * 2 := by rw [List.length_append, hds, List.length_take]; omega
  have hh1 := setRow_heap w.drew r _ ((vs.take (k * 2) ++ vs.drop ((k + 1) * 2)) ++ (vs ++ junk).drop ((n - 1) * 2)).toArray bl.ty (0, 0) hd1
  have hW2 := setCells_row (o := (n - 1) * 2) (vs := [.int .i64 0, .int .i64 0]) hh1 (by simp only [List.size_toArray, List.length_append, List.length_drop, hds, hvl, List.length_take, List.length_cons, List.length_nil]; omega) (by intro v hv; simp at hv; subst hv; rfl)
  have hrow2 : (((vs.take (k * 2) ++ vs.drop ((k + 1) * 2)) ++ (vs ++ junk).drop ((n - 1) * 2)).toArray.toList.take ((n - 1) * 2) ++ [Value.int .i64 0, Value.int .i64 0] ++ ((vs.take (k * 2) ++ vs.drop ((k + 1) * 2)) ++ (vs ++ junk).drop ((n - 1) * 2)).toArray.toList.drop ((n - 1) * 2 + [Value.int .i64 0, Value.int .i64 0].length)) = (vs.take (k * 2) ++ vs.drop ((k + 1) * 2)) ++ (Value.int .i64 0 :: Value.int .i64 0 :: junk) := by
    simp only []
    rw [← hel, List.take_left, ← List.drop_drop, List.drop_left, hel, List.drop_drop, List.append_assoc]
    rw [show (n - 1) * 2 + [Value.int .i64 0, Value.int .i64 0].length = vs.length by simp; omega, List.drop_left]
    rfl
  rw [hrow2] at hW2
  rw [hW1, hW2, show ((k + 1 : Nat) : Int) = (k : Int) + 1 by omega] at hC
  have hA2 : ∃ A2 : Array Value, A2 = ((vs.take (k * 2) ++ vs.drop ((k + 1) * 2)) ++ (Value.int .i64 0 :: Value.int .i64 0 :: junk)).toArray := ⟨_, rfl⟩
  obtain ⟨A2, hA2⟩ := hA2
  rw [← hA2] at hC
  generalize ((vs.take (k * 2) ++ vs.drop ((k + 1) * 2)) ++ (vs ++ junk).drop ((n - 1) * 2)).toArray = A1 at hC hh1
  refine hC.mono ?_
  rintro e w' ⟨rfl, rfl⟩
  have hrr : ((w.drew.setRow r A1).setRow r A2).heap[r]? = some (.cells A2 bl.ty (0, 0)) := setRow_heap _ r _ _ bl.ty (0, 0) hh1
  have hro : ∀ j, j ≠ r → ((w.drew.setRow r A1).setRow r A2).heap[j]? = w.heap[j]? := fun j hj => (setRow_other _ r j _ hj).trans (setRow_other _ r j _ hj)
  have hws : w.heap.size ≤ ((w.drew.setRow r A1).setRow r A2).heap.size := by simp [World.setRow]
  obtain ⟨q0, hq0, hl0⟩ := R.own b bl hb
  rw [hG] at hq0
  cases hq0
  obtain ⟨hg0, hl0⟩ := hl0
  have hgt : bl.g ≤ t := R.top _ _ hG
  have hFr : ∀ o, F r o = none := hl0.2.1
  refine ⟨F, G.set b ⟨some (r, size), t + 1, false⟩, _, _, _, _, rfl, ⟨.refl _, fun _ _ _ => rfl, Ghost.le_set hG (.inr (by show bl.g < t + 1; omega)) _, by simp⟩, R.put (p' := ⟨some (r, size), t + 1, false⟩) (Nat.le_succ t) (Nat.le_refl _) (Nat.le_of_lt (List.getElem?_eq_some_iff.1 hb).1) hG (.inr (by show bl.g < t + 1; omega)) ⟨rfl, rfl, rfl, hws, fun j hj => ?_⟩ (.refl _) (fun c o x e => ?_) (fun i bi q' r' s' hi hbi hq hrs => ?_) ⟨rfl, ?_⟩, ?_, hK⟩
  · exact hro j (by omega)
  · have hlt := R.mem.lt e
    have hne : c ≠ r := fun e' => by subst e'; rw [hFr o] at e; cases e
    rw [World.cell?_of_block (w := w) (hro c hne)]
    exact R.mem c o x e
  · obtain ⟨q'', hq', hl⟩ := R.own i bi hbi
    rw [hq] at hq'; cases hq'
    have hne := R.inj i b bi bl q' _ r' s' r size hi hbi hb hq hG hrs rfl
    refine ⟨hro r' hne, ?_, fun r'' s'' e => ?_⟩
    · obtain ⟨_, h⟩ := hl; rw [hrs] at h; exact h.2.1
    · cases e; exact hne
  · refine ⟨hr0, hFr, vs.take (k * 2) ++ vs.drop ((k + 1) * 2), Value.int .i64 0 :: Value.int .i64 0 :: junk, by rw [hrr, hA2], ?_, ?_⟩
    · rw [hel, List.length_cons, List.length_cons]
      omega
    · refine RepL.mono (.refl _) (Ghost.le_set hG (.inr (by show bl.g < t + 1; omega)) _) _ _ ?_
      rw [edC_erase]
      exact (hrep.take _).append (hrep.drop _)
  · simp only [Rep]
    exact ⟨rfl, ⟨some (r, size), t + 1, false⟩, by rw [List.getElem?_set_self (List.getElem?_eq_some_iff.1 hG).1], Nat.le_refl _, fun _ => ⟨rfl, cap, rfl, by omega, hmax, by omega⟩⟩
end Go.Proofs.Ytalhegbjlfkipaa.T
end
