import Derived.Test.YtpcakodemleoiaaRVJ
import Derived.Test.YtpcakodemleoiaaTB
import Derived.Test.YtpcakodemleoiaaTTab
import Derived.Test.YtpcakodemleoiaaTN
import Derived.Shelf.SlicesE.Delete
import Derived.Test.YtpcakodemleoiaaRMJA
import Derived.Test.YtpcakodemleoiaaWN
import Derived.Test.YtpcakodemleoiaaRLHF
import Derived.Test.YtpcakodemleoiaaWRS
import Derived.Test.YtpcakodemleoiaaRAVQALG
import Derived.Test.YtpcakodemleoiaaSG
set_option linter.all false
section
namespace Go.Proofs.Ytpcakodemleoiaa.T
open Go Go.RowKit
set_option linter.unusedSimpArgs false

theorem plainL_intsV (l : List Int) : plainL (l.map int) = true := by
  induction l with
  | nil => rfl
  | cons x r ih => simp [plainL, plainD, ih]
theorem plainL_rows (m : List (List Int)) : plainL (m.map ints) = true := by
  induction m with
  | nil => rfl
  | cons x r ih => simp [plainL, plainD, ih, plainL_intsV]
theorem isCell_rows (m : List (List Int)) : (m.map ints).all isCell = true := by
  induction m with
  | nil => rfl
  | cons x r ih => rw [List.map_cons, List.all_cons, ih]; rfl
end Go.Proofs.Ytpcakodemleoiaa.T
end

section
namespace Go.Proofs.Ytpcakodemleoiaa.T
open Go Go.RowKit Go.Shelf Go.Sort
set_option linter.unusedSimpArgs false

/-! slices.Delete of one element, in the caller's block. -/
/-- A value, if it has one cell. -/
def encV (v : Value) : Value := if v.oneCell' = true then v else .int .i64 0
theorem encV_one : OneCell encV := fun v => by
  unfold encV
  split
  · assumption
  · rfl
theorem encV_of {v : Value} (h : v.oneCell' = true) : encV v = v := if_pos h
theorem putCells_encV (xs junk vs : List Value) (h : xs.length = vs.length) (hx : ∀ v ∈ xs, v.oneCell' = true) : putCells encV 0 xs.toArray (vs ++ junk).toArray = (xs ++ junk).toArray := by
  apply Array.ext_getElem?
  intro k
  simp only [putCells, Array.getElem?_mapIdx, List.getElem?_toArray, List.size_toArray, Nat.zero_le, true_and, Nat.zero_add, Nat.sub_zero]
  by_cases hk : k < xs.length
  · have h1 : (vs ++ junk)[k]? = some (vs[k]'(by omega)) := by rw [List.getElem?_append_left (by omega), List.getElem?_eq_getElem]
    have h2 : (xs ++ junk)[k]? = some (xs[k]) := by rw [List.getElem?_append_left hk, List.getElem?_eq_getElem]
    rw [h1, h2]
    simp only [Option.map_some, hk, if_true]
    have h3 : xs.toArray[k]! = xs[k] := by simp [hk]
    rw [h3, encV_of (hx _ (List.getElem_mem _))]
  · rw [List.getElem?_append_right (by omega), List.getElem?_append_right (by omega), h]
    cases junk[k - vs.length]? with
    | none => rfl
    | some y => simp [show ¬ k < vs.length by omega]
theorem erase_map {α β : Type} (f : α → β) : ∀ (l : List α) (k : Nat), (l.map f).eraseIdx k = (l.eraseIdx k).map f
  | [], k => by simp
  | x :: l, 0 => by simp
  | x :: l, k + 1 => by simp [erase_map f l k]
theorem RepL.erase {F : Mem} {G : Ghost} : ∀ {ds : List D} {us : List Value} (k : Nat), RepL F G ds us → RepL F G (ds.eraseIdx k) (us.eraseIdx k)
  | [], us, k, h => by simp only [RepL] at h; subst h; simp [RepL]
  | d :: ds, us, 0, h => by
    simp only [RepL] at h
    obtain ⟨u, us', rfl, h1, h2⟩ := h
    simpa using h2
  | d :: ds, us, k + 1, h => by
    simp only [RepL] at h
    obtain ⟨u, us', rfl, h1, h2⟩ := h
    simp only [List.eraseIdx_cons_succ, RepL]
    exact ⟨u, _, rfl, h1, h2.erase k⟩
/-- Values of one cell. -/
def cellD : D → Bool
  | .v x => x.oneCell'
  | .sl .. => true
  | _ => false
theorem cellD_one {F : Mem} {G : Ghost} {d : D} {u : Value} (h : cellD d = true) (hr : Rep F G d u) : u.oneCell' = true := by
  cases d with
  | v x => simp only [Rep] at hr; subst hr; exact h
  | sl sz cs full =>
    simp only [Rep] at hr
    obtain ⟨a, len, cap, rfl, _⟩ := hr
    rfl
  | _ => cases h
theorem cellD_all {F : Mem} {G : Ghost} : ∀ {ds : List D} {us : List Value}, ds.all cellD = true → RepL F G ds us → ∀ u ∈ us, u.oneCell' = true
  | [], us, _, h, u, hu => by simp only [RepL] at h; subst h; simp at hu
  | d :: ds, us, hc, h, u, hu => by
    simp only [RepL] at h
    obtain ⟨v, us', rfl, h1, h2⟩ := h
    simp only [List.all_cons, Bool.and_eq_true] at hc
    rcases List.mem_cons.1 hu with rfl | hu
    · exact cellD_one hc.1 h1
    · exact cellD_all hc.2 h2 u hu
theorem delete_run {P : Program} {ρ : Ren} (L : SlLaysE.n45 P ρ) (hcl : Callable P (ρ.f 45)) (zr : Value) (hzr : zr.oneCell' = true) (v23 : ∀ w, (zeroValue (ρ.t 23)).run P w = .ok zr w) (i0 : TypeInfo) (hi0 : P.info? (ρ.t 23) = some i0) (hz1 : i0.size = 1)
    {H : Hp} {t b n k : Nat} {bl : Blk} {K : D → Hp → Nat → Prop} (hb : H[b]? = some (some bl)) (hn : bl.cells.length = n) (hk : k < n) (one : bl.cells.all cellD = true)
    (hK : K (.own 1 b (t + 1) 0 (n - 1)) (setH H b ⟨bl.ty, t + 1, bl.cells.eraseIdx k⟩) (t + 1)) :
    ACall P (ρ.f 45) [.own 1 b bl.g 0 n, .v (.int .i64 k), .v (.int .i64 (k + 1))] H t K := by
  refine fun w0 F G w us R hL => .inl ⟨hcl, ?_⟩
  simp only [RepL] at hL
  obtain ⟨u0, _, rfl, hu, u1, _, rfl, hu1, u2, _, rfl, hu2, rfl⟩ := hL
  simp only [Rep] at hu1 hu2
  subst hu1
  subst hu2
  rcases R.own_some hu hb rfl with ⟨_, rfl, _⟩ | ⟨r, size, cap, vs, junk, hG, rfl, hcap, hmax, hsz, hr0, hh, hjl, hrep⟩
  · omega
  have hvl : vs.length = n := by rw [hrep.length]; exact hn
  have hvo := cellD_all one hrep
  have hfr : ∀ j, w.frozen? ⟨r, j, none⟩ = false := fun j => by simp [World.frozen?, hh]
  have hH : Sort.Holds encV w r 0 vs.toArray := fun j hj => by
    have hj' : j < vs.length := by simpa using hj
    refine ⟨?_, hfr _⟩
    have h3 : vs.toArray[j]! = vs[j] := by simp [hj']
    rw [h3, encV_of (hvo _ (List.getElem_mem _))]
    simp [World.cell?, hh, List.getElem?_append_left hj', hj']
  have hC := AnyE.slices_Delete L encV encV_one zr (by rw [encV_of hzr]; exact v23) i0 hi0 hz1 r 0 cap k (k + 1) vs.toArray w hH (by simp; omega) (by rw [maxLen_eq] at hmax; exact hmax) (Nat.le_succ k) (by simp; omega)
  simp only [List.size_toArray, hvl] at hC
  have e1 : k + 1 - k = 1 := by omega
  have hew : (vs.take k ++ vs.drop (k + 1) ++ List.replicate 1 zr) = vs.eraseIdx k ++ [zr] := by rw [List.eraseIdx_eq_take_drop_succ]; rfl
  rw [e1, hew] at hC
  refine Calls.mono (by simpa using hC) ?_
  rintro e w' ⟨rfl, q, rfl⟩
  have hel : (vs.eraseIdx k ++ [zr]).length = vs.length := by
    rw [List.length_append, List.length_eraseIdx_of_lt (by omega)]
    simp
    omega
  have heo : ∀ v ∈ vs.eraseIdx k ++ [zr], v.oneCell' = true := fun v hv => by
    rcases List.mem_append.1 hv with hv | hv
    · exact hvo v (List.mem_of_mem_eraseIdx hv)
    · rw [List.mem_singleton.1 hv]; exact hzr
  have hw' : ∀ j, (putRow encV (Sort.ahead w q) r 0 (vs.eraseIdx k ++ [zr]).toArray).heap[j]? = if j = r then some (.cells (vs.eraseIdx k ++ (zr :: junk)).toArray bl.ty (0, 0)) else w.heap[j]? := fun j => by
    show (w.heap.modify r _)[j]? = _
    rw [Array.getElem?_modify]
    by_cases e : r = j
    · subst e
      rw [if_pos rfl, if_pos rfl, hh]
      simp only [Option.map_some, onCells]
      rw [putCells_encV _ _ _ hel heo, List.append_assoc]
      rfl
    · rw [if_neg e, if_neg (Ne.symm e)]
  have hws : w.heap.size ≤ (putRow encV (Sort.ahead w q) r 0 (vs.eraseIdx k ++ [zr]).toArray).heap.size := by
    show w.heap.size ≤ (w.heap.modify r _).size
    rw [Array.size_modify]
    exact Nat.le_refl _
  obtain ⟨q0, hq0, hg0, hl0⟩ := R.own b bl hb
  rw [hG] at hq0
  cases hq0
  have hgt : bl.g ≤ t := R.top _ _ hG
  have hFr : ∀ o, F r o = none := hl0.2.1
  refine ⟨F, G.set b ⟨some (r, size), t + 1, false⟩, _, _, _, _, rfl, ⟨.refl _, fun _ _ _ => rfl, Ghost.le_set hG (.inr (by show bl.g < t + 1; omega)) _, by simp⟩, R.put (p' := ⟨some (r, size), t + 1, false⟩) (Nat.le_succ t) (Nat.le_refl _) (Nat.le_of_lt (List.getElem?_eq_some_iff.1 hb).1) hG (.inr (by show bl.g < t + 1; omega)) ⟨rfl, rfl, rfl, hws, fun j hj => ?_⟩ (.refl _) (fun c o x e => ?_) (fun i bi q' r' s' hi hbi hq hrs => ?_) ⟨rfl, ?_⟩, ?_, hK⟩
  · rw [hw', if_neg (by omega)]
  · have hlt := R.mem.lt e
    have hne : c ≠ r := fun e' => by subst e'; rw [hFr o] at e; cases e
    rw [World.cell?_of_block (w := w) (by rw [hw', if_neg hne])]
    exact R.mem c o x e
  · obtain ⟨q'', hq', hl⟩ := R.own i bi hbi
    rw [hq] at hq'; cases hq'
    have hne := R.inj i b bi bl q' _ r' s' r size hi hbi hb hq hG hrs rfl
    refine ⟨by rw [hw', if_neg hne], ?_, fun r'' s'' e => ?_⟩
    · obtain ⟨_, h⟩ := hl; rw [hrs] at h; exact h.2.1
    · cases e; exact hne
  · refine ⟨hr0, hFr, vs.eraseIdx k, zr :: junk, by rw [hw', if_pos rfl], ?_, RepL.mono (.refl _) (Ghost.le_set hG (.inr (by show bl.g < t + 1; omega)) _) _ _ (hrep.erase k)⟩
    rw [List.length_eraseIdx_of_lt (by omega), List.length_cons]
    omega
  · simp only [Rep]
    exact ⟨rfl, ⟨some (r, size), t + 1, false⟩, by rw [List.getElem?_set_self (List.getElem?_eq_some_iff.1 hG).1], Nat.le_refl _, fun _ => ⟨rfl, cap, rfl, by omega, hmax, by omega⟩⟩

/-! Its two instances. -/
end Go.Proofs.Ytpcakodemleoiaa.T
end

section
namespace Go.Proofs.Ytpcakodemleoiaa.T
open Go Go.RowKit Lin
set_option linter.unusedSimpArgs false

/-! Chapter 16: the fixed ropes. -/
def fixB (rs : List Rp) (but : Int) (i : Nat) : Bool := (match rs[i]? with | some r => !r.hl | none => false) && !((i : Int) == but)
def fixP (rs : List Rp) (but : Int) (k : Nat) : List Nat := (List.range k).filter (fixB rs but)
theorem fixP_step {rs : List Rp} {but : Int} {k : Nat} {r : Rp} (hr : rs[k]? = some r) : fixP rs but (k + 1) = if (!r.hl && !((k : Int) == but)) = true then fixP rs but k ++ [k] else fixP rs but k := by
  unfold fixP
  rw [List.range_succ, List.filter_append]
  have h : fixB rs but k = (!r.hl && !((k : Int) == but)) := by simp [fixB, hr]
  by_cases e : (!r.hl && !((k : Int) == but)) = true
  · rw [if_pos e, List.filter_cons_of_pos (by rw [h]; exact e)]; rfl
  · rw [if_neg e, List.filter_cons_of_neg (by rw [h]; exact e)]; simp
theorem fixP_mem {rs : List Rp} {but : Int} {k i : Nat} : i ∈ fixP rs but k ↔ i < k ∧ fixB rs but i = true := by simp [fixP]
theorem fixP_len (rs : List Rp) (but : Int) (k : Nat) : (fixP rs but k).length ≤ k := by
  have := List.length_filter_le (fixB rs but) (List.range k)
  simpa [fixP] using this
def nums (l : List Nat) : List Int := l.map fun i : Nat => (i : Int)
theorem nums_len (l : List Nat) : (nums l).length = l.length := by simp [nums]
def rowsF (s : Sy) (l : List Nat) : List (List Int) := l.map fun i => (trS s).getD i []
theorem rowsF_len (s : Sy) (l : List Nat) : (rowsF s l).length = l.length := by simp [rowsF]
def fixA (s : Sy) : List Nat := fixP s.rs (-1) s.rs.length
theorem trS_at (s : Sy) {i : Nat} (h : i < s.rs.length) : (trS s)[i]? = some (colP (matS s) i) := by
  unfold trS turnP
  rw [List.getElem?_map, List.getElem?_range h]
  rfl
theorem trS_getD (s : Sy) {i : Nat} (h : i < s.rs.length) : (trS s).getD i [] = colP (matS s) i := by rw [List.getD_eq_getElem?_getD, trS_at s h]; rfl
theorem plain_rp1 (r : Rp) : plainL (rp1 r) = true := by
  simp only [rp1, plainL, plainD, Bool.true_and, Bool.and_true, plain_hd]
end Go.Proofs.Ytpcakodemleoiaa.T
end

section
section
namespace Go.Proofs.Ytpcakodemleoiaa.T
open Go Go.RowKit Lin
set_option linter.unusedSimpArgs false

/-! Chapter 16: find, without, modes, freedom, jammed. -/
/-! Lists of modes. -/
/-! Modes. -/
def unitR (n i : Nat) : List (Int × Int) := (List.range n).map fun k => (if k = i then 1 else 0, 1)
def unitM (n : Nat) : List (List (Int × Int)) := (List.range n).map (unitR n)
def modesP (s : Sy) : List (List (Int × Int)) × Int := if validS s = true then (if fixA s = [] then (unitM s.bs.length, 0) else nullP (rowsF s (fixA s))) else ([], 1)
theorem fixP_lt {rs : List Rp} {but : Int} {k i : Nat} (h : i ∈ fixP rs but k) : i < k := (fixP_mem.1 h).1
theorem rowsF_valid {s : Sy} (ok : OkS s) {L : List Nat} (h0 : L ≠ []) (h1 : L.length ≤ 6) (h2 : ∀ i ∈ L, i < s.rs.length) : validP (rowsF s L) = true ∧ wid (rowsF s L) = s.bs.length ∧ ∀ r ∈ rowsF s L, r ∈ trS s ∧ r.length = s.bs.length := by
  obtain ⟨tv, tw⟩ := ok.tr_valid
  obtain ⟨m1, m2, m3⟩ := validP_iff.1 tv
  have hm : ∀ r ∈ rowsF s L, r ∈ trS s ∧ r.length = s.bs.length := fun r hr => by
    unfold rowsF at hr
    obtain ⟨i, hi, rfl⟩ := List.mem_map.1 hr
    have hlt : i < (trS s).length := by rw [ok.tr_len]; exact h2 i hi
    have e : (trS s).getD i [] = (trS s)[i] := by rw [List.getD_eq_getElem?_getD, List.getElem?_eq_getElem hlt]; rfl
    rw [e]
    exact ⟨List.getElem_mem _, by rw [(m3 _ (List.getElem_mem _)).1, tw]⟩
  have hw : wid (rowsF s L) = s.bs.length := by
    cases hL : L with
    | nil => exact absurd hL h0
    | cons i L' =>
      have := (hm ((trS s).getD i []) (by rw [hL]; simp [rowsF])).2
      rw [← this]
      rfl
  refine ⟨validP_iff.2 ⟨⟨?_, ?_⟩, ?_, fun r hr => ⟨?_, ?_⟩⟩, hw, hm⟩
  · rw [rowsF_len]
    exact List.length_pos_iff.2 h0
  · rw [rowsF_len]
    exact h1
  · rw [hw, ← tw]
    exact m2
  · rw [hw]
    exact (hm r hr).2
  · exact (m3 r (hm r hr).1).2
end Go.Proofs.Ytpcakodemleoiaa.T
end

section
namespace Go.Proofs.Ytpcakodemleoiaa.T
open Go Go.RowKit Lin
set_option linter.unusedSimpArgs false

/-! Chapter 16: modes, freedom, jammed. -/
def unitC (k j : Nat) : List (Int × Int) := (List.range j).map fun i => (if i = k then 1 else 0, 1)
theorem unitC_len (k j : Nat) : (unitC k j).length = j := by simp [unitC]
def unitL (n k : Nat) : List (List (Int × Int)) := (List.range k).map (unitR n)
theorem unitL_succ (n k : Nat) : unitL n (k + 1) = unitL n k ++ [unitC k n] := by simp [unitL, List.range_succ, unitR, unitC]
theorem unitL_len (n k : Nat) : (unitL n k).length = k := by simp [unitL]
theorem fzS_fr (b g : Nat) (cs : List D) : ∀ l : List (Int × Int), fzL b g cs (frC l) = frC l
  | [] => rfl
  | x :: l => by
    show fzL b g cs (int x.1 :: int x.2 :: frC l) = _
    simp only [fzL, fz, fzS_fr b g cs l]
    rfl
theorem fzS_frss (b g : Nat) (cs : List D) : ∀ l : List (List (Int × Int)), fzL b g cs (l.map frs) = l.map frs
  | [] => rfl
  | x :: l => by simp only [List.map_cons, fzL, fz, fzS_fr, fzS_frss b g cs l]
/-- Modes are as long as the blocks are many. -/
theorem modesP_facts (s : Sy) : (∀ v ∈ (modesP s).1, v.length = s.bs.length) ∧ (modesP s).1.length ≤ 12 ∧ ((modesP s).2 = 0 ↔ validS s = true) := by
  unfold modesP
  cases hv : validS s
  · simp
  have ok := validS_ok hv
  have hr6 := ok.r6
  have hb6 := ok.b6
  simp only [if_true]
  by_cases h0 : fixA s = []
  · rw [if_pos h0]
    refine ⟨fun v hv => ?_, by simp [unitM]; omega, by simp⟩
    obtain ⟨i, _, rfl⟩ := List.mem_map.1 hv
    simp [unitR]
  · rw [if_neg h0]
    have hfl := fixP_len s.rs (-1) s.rs.length
    obtain ⟨rv, rw', rm⟩ := rowsF_valid ok h0 (by unfold fixA; omega) (fun i hi => fixP_lt hi)
    unfold nullP
    rw [if_pos rv]
    refine ⟨fun v hv => ?_, ?_, by simp⟩
    · obtain ⟨c, _, _, rfl⟩ := nulls_mem _ _ _ v hv
      rw [nvec_len, rw']
    · have := nulls_len (elim (rowsF s (fixA s)) (wid (rowsF s (fixA s)))) (wid (rowsF s (fixA s))) (wid (rowsF s (fixA s)))
      simp only
      omega
end Go.Proofs.Ytpcakodemleoiaa.T
end

section
namespace Go.Proofs.Ytpcakodemleoiaa.T
open Go Go.RowKit Lin
set_option linter.unusedSimpArgs false

/-! Chapter 16: witnesses. -/
end Go.Proofs.Ytpcakodemleoiaa.T
end
end

section
section
namespace Go.Proofs.Ytpcakodemleoiaa.T
open Go Go.RowKit Lin
set_option linter.unusedSimpArgs false

/-! Chapter 16: the examples. -/
end Go.Proofs.Ytpcakodemleoiaa.T
end

section
namespace Go.Proofs.Ytpcakodemleoiaa.T
open Go Go.RowKit Lin
set_option linter.unusedSimpArgs false

/-! Chapter 16: what its laws' own functions return. -/
end Go.Proofs.Ytpcakodemleoiaa.T
end

section
namespace Go.Proofs.Ytpcakodemleoiaa.T
open Go Go.RowKit Lin
set_option linter.unusedSimpArgs false

/-! Chapter 16: sums of numbers times fractions. -/
/-! What the modes are (plain). -/
theorem modes_val {m : List (List Int)} (hv : validP m = true) {v : List (Int × Int)} (hmem : v ∈ (nullP m).1) : (v.any fun x => x.1 != 0) = true ∧ ∃ Z D, D ≠ 0 ∧ Ker m Z ∧ ∀ (k : Nat) (f : Int × Int), v[k]? = some f → Val f (Z k) D := by
  unfold nullP at hmem
  rw [if_pos hv] at hmem
  simp only at hmem
  obtain ⟨h1, h2, h3⟩ := validP_iff.1 hv
  have hs := valid_small hv
  have iv := elim_inv (ups_mover m (wid m)) hs.lens (wid m) (Nat.le_refl _)
  rw [← elim_by] at iv
  have in2 := iv.small2 hs (Nat.le_refl _)
  have hd2 := iv.den_small2 hs (Nat.le_refl _)
  generalize elim m (wid m) = f at *
  obtain ⟨c, hcn, hc, rfl⟩ := nulls_mem f (wid m) (wid m) v hmem
  have ok : ∀ k c, k < f.pivots.length → c < wid m → (makeP (-(Lin.at_ (Lin.row f.rows k) c)) f.den).2 = 0 := fun k c hk hc => by
    have := in2 k c hk hc
    exact makeP_ok (by omega) hd2 iv.den0
  obtain ⟨q1', q2'⟩ := nvec_q iv ok hcn f.pivots.length (Nat.le_refl _)
  have ho := nvec_one iv hcn hc f.pivots.length (Nat.le_refl _)
  refine ⟨List.any_eq_true.2 ⟨_, List.mem_of_getElem? ho, by decide⟩, nX f c f.pivots.length, f.den, iv.den0, fun r hr => ?_, fun k p hp => ⟨allV_at q1' hp, iv.den0, q2' k p hp⟩⟩
  rw [nX_sum iv hcn hc (Lin.at_ r) f.pivots.length (Nat.le_refl _), van_sum iv hcn (iv.van_lt hcn) hr]
  omega
end Go.Proofs.Ytpcakodemleoiaa.T
end
end

section
namespace Go.Proofs.Ytpcakodemleoiaa.T
open Go Go.RowKit Lin
set_option linter.unusedSimpArgs false

/-! Chapter 16: redundant ropes. -/
/-! Chapter 16: a witness proves that a rope is redundant (plain). -/
/-! MobilityProves. -/
theorem fixA_mem {s : Sy} {j : Nat} {r : Rp} (hr : s.rs[j]? = some r) : j ∈ fixA s ↔ r.hl = false := by
  have hj := (List.getElem?_eq_some_iff.1 hr).1
  unfold fixA
  rw [fixP_mem]
  unfold fixB
  rw [hr]
  have : ((j : Int) == -1) = false := by simp
  simp only [this, Bool.not_false, Bool.and_true, hj, true_and]
  cases r.hl <;> simp
end Go.Proofs.Ytpcakodemleoiaa.T
end

namespace Go.Proofs.Ytpcakodemleoiaa.T
open Go Go.RowKit Lin
set_option linter.unusedSimpArgs false

/-! Chapter 14's program: the motions. -/
theorem unitC_set {n k : Nat} (hk : k < n) : (List.replicate n ((0 : Int), (1 : Int))).set k (1, 1) = unitC k n := by
  refine List.ext_getElem? fun i => ?_
  unfold unitC
  rw [List.getElem?_set, List.getElem?_map]
  by_cases hi : i < n
  · by_cases hki : k = i
    · subst hki
      simp [hi]
    · have : ¬ i = k := fun h => hki h.symm
      simp [hi, hki, this]
  · have h1 : n ≤ i := by omega
    have h2 : ¬ k = i := by omega
    simp [h1, h2]
theorem mot_uniq {s : Sy} (hv : validS s = true) {h : Nat} (hh : hix s = (h : Int)) : (∃ q, s.rs[h]? = some q ∧ q.hl = true) ∧ ∀ (k : Nat) (r : Rp), s.rs[k]? = some r → r.hl = true → k = h := by
  obtain ⟨i, q, hi, hq, hqh⟩ := hix_hit (s := s) (by omega)
  have e : i = h := by omega
  subst e
  have hone : hauls s.rs ≤ 1 := by
    unfold validS at hv
    rw [Bool.and_eq_true, decide_eq_true_eq] at hv
    exact hv.2
  exact ⟨⟨q, hq, hqh⟩, fun k r hr hrl => filt_one (p := fun r : Rp => r.hl) s.rs k i r q hone hr hq hrl hqh⟩
set_option maxRecDepth 100000 in
set_option maxHeartbeats 16000000 in
theorem motions14 (s : Sy) (hf : Fits s) (hv : validS s = true) {h : Nat} (hh : hix s = (h : Int)) : PRet Try.prog 109 [syD s, int h] (.tup [frss (modesP s).1, int (modesP s).2]) := by
  refine PRet.intro 1 fun t => ACall.enter tab_ok Try.func109 rfl rfl Try.ntmps109 (by simp) ?_
  simp only [enterTM]
  have ok := validS_ok hv
  have hb1 := ok.b1
  have hb6 := ok.b6
  have hr6 := ok.r6
  have hr1 := ok.r1
  have hdb := bkC_div s.bs
  have hdr := rpC_div s.rs
  have hw0 := whole14 0
  have hw1 := whole14 1
  obtain ⟨⟨q, hq, hqh⟩, huniq⟩ := mot_uniq hv hh
  have hhr := (List.getElem?_eq_some_iff.1 hq).1
  by_cases h1 : s.rs.length = 1
  · have hfx : fixA s = [] := by
      cases hL : fixA s with
      | nil => rfl
      | cons a l =>
        have ha : a ∈ fixA s := by rw [hL]; simp
        have hal : a < s.rs.length := fixP_lt ha
        obtain ⟨r, hr⟩ : ∃ y, s.rs[a]? = some y := ⟨_, List.getElem?_eq_getElem hal⟩
        have hrl := (fixA_mem hr).1 ha
        have e : a = h := by omega
        subst e
        rw [hq, Option.some.injEq] at hr
        subst hr
        rw [hqh] at hrl
        cases hrl
    have e : modesP s = (unitL s.bs.length s.bs.length, 0) := by
      unfold modesP
      rw [if_pos hv, if_pos hfx]
      rfl
    have c1 : ((s.rs.length : Int) == 1) = true := by rw [h1]; rfl
    rw [e]
    have hz0 : ∀ n, unitL n 0 = [] := fun n => rfl
    ((refine ggb0 (F := _∧_∧_) ⟨hdb, hdr, c1⟩ ?_))
    generalize hn : s.bs.length = n at *
    have hRep := repeatFr 0 1 n (by omega) (by omega)
    rw [pairC_frC] at hRep
    refine AW.begin 7 1 28 rfl (by decide) ?_
    simp only [putTM, List.length_cons, List.length_nil, Nat.reduceEqDiff, ↓reduceIte, List.cons_append, List.nil_append]
    refine AW_mid (fun x : Nat × Nat => ⟨[(7, .own 1 1 x.1 0 n)], [none, some ⟨28, x.1, (unitL n n).map frs⟩], x.2⟩) (fun _ => True) ?_ ?_
    · refine AW_block ?_
      refine AW_loop_w (fun x : Nat × Nat × Nat => ⟨[(6, int n), (7, .own 1 1 x.2.1 0 x.1), (23, int n), (24, int x.1)], [none, some ⟨28, x.2.1, (unitL n x.1).map frs⟩], x.2.2⟩) (fun x => n - x.1) (fun x => x.1 ≤ n) (0, t + 1 + 1, t + 1 + 1) (Nat.zero_le _) (by (simp (disch := omega) only [StLe, tmLe, hpLe_refl, hpLe, bl, bb, bt, zDs, zD, eqCells, simprocAttr, hz0, List.map_nil])) ?_
      rintro ⟨k, g, tt⟩ hk
      simp only at hk
      have htl : (unitL n k).length = k := unitL_len n k
      by_cases hlt : k < n
      · have hset0 := frC_set (List.replicate n ((0 : Int), (1 : Int))) k 1 1 (by rw [List.length_replicate]; exact hlt)
        rw [unitC_set hlt] at hset0
        simp only [List.append_assoc, List.cons_append, List.nil_append] at hset0
        have hl0 := frC_len (List.replicate n ((0 : Int), (1 : Int)))
        rw [List.length_replicate] at hl0
        have hle0 : k * 2 + 2 ≤ n * 2 := by omega
        have hul := unitL_succ n k
        have hcl := unitC_len k n
        have hfl2 : (frC (unitC k n)).length = n * 2 := by rw [frC_len, hcl]
        have hfin : List.take (n * 2) (frC (unitC k n)) = frC (unitC k n) := List.take_of_length_le (by omega)
        ((refine ggb0 (F := _∧_) ⟨@Int.ofNat_lt, hlt⟩ ?_))
        ((repeat refine AW_seq ?_))
        refine AW_block ?_
        ((refine gga1 hw0 ?_))
        intro KR hKR
        ((first | refine awOps_nc fun KK hKK => ?_ | refine awOps_gc rfl fun KK hKK => ?_); simp (disch := omega) only [bb, bt, zDs, zD, eqCells, simprocAttr, goC, callO_fn, argsD, and_self]; refine ACall.of_fresh (hRep) (by first | (simp only [List.map_cons, List.map_nil, List.append_nil, List.nil_append, List.cons_append, ufa, uf]; done) | rfl) ?_; simp (disch := omega) only [bb, bt, zDs, zD, eqCells, simprocAttr, afterC]; refine hKK _ ?_; clear hKK KK)
        ((refine wra ?_)); ((refine wea ?_); (try clear hKR KR))
        ((repeat refine AW_seq ?_); (refine AW_region_k tab_ok fun KR hKR => ?_)); ((refine wra ?_)); ((refine wka1 hw1 ?_)); ((refine wrb (F := _∧_∧_∧_) ⟨hl0, hlt, hle0, hset0⟩ ?_)); ((refine wea ?_); (try clear hKR KR))
        generalize unitC k n = U at *
        ((refine AW.freeze (2) (by first | rfl | (simp only [setH, List.getElem?_cons_zero, List.getElem?_cons_succ, fzS_frss, fz_bk, fz_rp, hfl2, hfin, Nat.le_refl]; done)) ?_); simp (disch := omega) only [fzT, fz, fzL, fzL_ints, fzL_mat, fzH, fzB, eq_self, bb, bt, zDs, zD, eqCells, simprocAttr, fzS_frss, fz_bk, fz_rp, hfl2, hfin, Nat.le_refl])
        ((refine ggb0 htl ?_))
        refine ⟨(k + 1, tt + 1 + 1, tt + 1 + 1), hlt, by show n - (k + 1) < n - k; omega, ?_⟩
        simp only [hul, List.map_append, List.map_cons, List.map_nil]
        (simp (disch := omega) only [StLe, tmLe, hpLe_refl, hpLe, bl, bb, bt, zDs, zD, eqCells, simprocAttr])
      · have hke : k = n := by omega
        subst hke
        ((refine wqb @Int.lt_irrefl ?_))
        ((refine wia ?_))
        ((refine wxa ?_))
        exact ⟨(g, tt), trivial, by (simp (disch := omega) only [StLe, tmLe, hpLe_refl, hpLe, bl, bb, bt, zDs, zD, eqCells, simprocAttr])⟩
    rintro ⟨g, tt⟩ -
    have htl : (unitL n n).length = n := unitL_len n n
    generalize unitL n n = U at *
    have hfin : List.take n (U.map frs) = U.map frs := List.take_of_length_le (by simp [htl])
    ((refine AW.freeze (1) (by first | rfl | (simp only [setH, List.getElem?_cons_zero, List.getElem?_cons_succ, fzS_frss, hfin, htl, List.length_map, Nat.le_refl]; done)) ?_); simp (disch := omega) only [fzT, fz, fzL, fzL_ints, fzL_mat, fzH, fzB, eq_self, bb, bt, zDs, zD, eqCells, simprocAttr, fzS_frss, hfin, htl, List.length_map, Nat.le_refl])
    ((refine gga0 ?_))
    ((repeat refine AW_seq ?_); (refine wta ?_); simp (disch := omega) only [retQ, resD, oneD, bb, bt, zDs, zD, eqCells, simprocAttr, Try.results109])
    exact rsv_tidy _ _ (by simp only [tidyD, tidyL, tidy_frss, Bool.not_false, Bool.and_self])
  have c1 : ((s.rs.length : Int) == 1) = false := by simp; omega
  have hM := matrix_prog s hf
  rw [hv] at hM
  simp only [if_true] at hM
  have hrow := ok.rows
  have ml := ok.mat_len
  have mw := ok.mat_wid
  have hz0 : fixP s.rs (-1) 0 = [] := rfl
  have hcol : ∀ i, i < s.rs.length → (trS s).getD i [] = colP (matS s) i := fun i h => trS_getD s h
  have hne : fixA s ≠ [] := by
    intro h0
    obtain ⟨k, hk, hkh⟩ : ∃ k, k < s.rs.length ∧ k ≠ h := by
      by_cases h00 : h = 0
      · exact ⟨1, by omega, by omega⟩
      · exact ⟨0, by omega, by omega⟩
    obtain ⟨r, hr⟩ : ∃ y, s.rs[k]? = some y := ⟨_, List.getElem?_eq_getElem hk⟩
    have hm := (fixA_mem hr).2 (by
      cases hb : r.hl
      · rfl
      · exact absurd (huniq k r hr hb) hkh)
    rw [h0] at hm
    cases hm
  have e : modesP s = nullP (rowsF s (fixA s)) := by simp [modesP, hv, hne]
  obtain ⟨rv, rw', rm⟩ := rowsF_valid ok hne (by have := fixP_len s.rs (-1) s.rs.length; unfold fixA; omega) (fun i hi => fixP_lt hi)
  have hN := null (rowsF s (fixA s)) (by rw [rowsF_len]; have := fixP_len s.rs (-1) s.rs.length; unfold fixA; omega) (fun r hr => by rw [(rm r hr).2]; omega)
  rw [e]
  generalize nullP (rowsF s (fixA s)) = Y at *
  unfold fixA at hN
  generalize hm : matS s = m at *
  ((refine ggb1 (F := _∧_∧_) ⟨hdb, hdr, c1⟩ hM ?_))
  refine AW.begin 12 1 66 rfl (by decide) ?_
  simp only [putTM, List.length_cons, List.length_nil, Nat.reduceEqDiff, ↓reduceIte, List.cons_append, List.nil_append]
  refine AW_mid (fun x : Nat × Nat => ⟨[(12, .own 1 1 x.1 0 (fixP s.rs (-1) s.rs.length).length)], [none, some ⟨66, x.1, (rowsF s (fixP s.rs (-1) s.rs.length)).map ints⟩], x.2⟩) (fun _ => True) ?_ ?_
  · refine AW_block ?_
    refine AW_loop_w (fun x : Nat × Nat × Nat => ⟨[(1, int h), (6, int s.bs.length), (10, mat m), (12, .own 1 1 x.2.1 0 (fixP s.rs (-1) x.1).length), (51, int s.rs.length), (52, int x.1)], [none, some ⟨66, x.2.1, (rowsF s (fixP s.rs (-1) x.1)).map ints⟩], x.2.2⟩) (fun x => s.rs.length - x.1) (fun x => x.1 ≤ s.rs.length) (0, t + 1 + 1, t + 1 + 1) (Nat.zero_le _) (by (simp (disch := omega) only [StLe, tmLe, hpLe_refl, hpLe, bl, bb, bt, zDs, zD, eqCells, simprocAttr, hz0, nums, rowsF, List.map_nil, List.length_nil])) ?_
    rintro ⟨k, g1, tt⟩ hk
    simp only at hk
    by_cases hlt : k < s.rs.length
    · obtain ⟨r, hr⟩ : ∃ y, s.rs[k]? = some y := ⟨_, List.getElem?_eq_getElem hlt⟩
      have hst := fixP_step (but := -1) hr
      have hfl := fixP_len s.rs (-1) k
      have hrl := rowsF_len s (fixP s.rs (-1) k)
      generalize fixP s.rs (-1) k = L at *
      ((refine ggb0 (F := _∧_) ⟨@Int.ofNat_lt, hlt⟩ ?_))
      ((repeat refine AW_seq ?_))
      refine AW_block ?_
      by_cases hkh : k = h
      · have e0 : ((k : Int) == (h : Int)) = true := by simp [hkh]
        have hrl1 : r.hl = true := by
          subst hkh
          rw [hq, Option.some.injEq] at hr
          rw [← hr]
          exact hqh
        rw [hrl1, Bool.not_true, Bool.false_and, if_neg (by simp)] at hst
        ((refine ggb0 e0 ?_))
        refine ⟨(k + 1, g1, tt), hlt, by show s.rs.length - (k + 1) < s.rs.length - k; omega, ?_⟩
        simp only [hst]
        (simp (disch := omega) only [StLe, tmLe, hpLe_refl, hpLe, bl, bb, bt, zDs, zD, eqCells, simprocAttr])
      · have e0 : ((k : Int) == (h : Int)) = false := by simp; omega
        have hrl0 : r.hl = false := by
          cases hb : r.hl
          · rfl
          · exact absurd (huniq k r hr hb) hkh
        have hk1 : (!((k : Int) == -1)) = true := by simp
        rw [hrl0, Bool.not_false, Bool.true_and, if_pos hk1] at hst
        ((refine ggb0 e0 ?_))
        refine AW.begin 14 1 3 rfl (by decide) ?_
        simp only [putTM, List.length_cons, List.length_nil, Nat.reduceEqDiff, ↓reduceIte, List.cons_append, List.nil_append]
        refine AW_mid (fun x : Nat × Nat => ⟨[(1, int h), (6, int s.bs.length), (10, mat m), (12, .own 1 1 g1 0 L.length), (14, .own 1 2 x.1 0 m.length), (51, int s.rs.length), (52, int k)], [none, some ⟨66, g1, (rowsF s L).map ints⟩, some ⟨3, x.1, (colP m k).map int⟩], x.2⟩) (fun _ => True) ?_ ?_
        · refine AW_block ?_
          refine AW_loop_w (fun x : Nat × Nat × Nat => ⟨[(1, int h), (6, int s.bs.length), (10, mat m), (12, .own 1 1 g1 0 L.length), (13, int k), (14, .own 1 2 x.2.1 0 x.1), (51, int s.rs.length), (52, int k), (58, int s.bs.length), (59, int x.1)], [none, some ⟨66, g1, (rowsF s L).map ints⟩, some ⟨3, x.2.1, (colP (m.take x.1) k).map int⟩], x.2.2⟩) (fun x => m.length - x.1) (fun x => x.1 ≤ m.length) (0, tt + 1, tt + 1) (Nat.zero_le _) (by (simp (disch := omega) only [StLe, tmLe, hpLe_refl, hpLe, bl, bb, bt, zDs, zD, eqCells, simprocAttr, colP])) ?_
          rintro ⟨j, g, t2⟩ hj
          simp only at hj
          by_cases hlj : j < m.length
          · obtain ⟨q', hq'⟩ : ∃ y, m[j]? = some y := ⟨_, List.getElem?_eq_getElem hlj⟩
            have hql := (hrow q' (List.mem_of_getElem? hq')).1
            have hkr : k < q'.length := by omega
            obtain ⟨v, hv'⟩ : ∃ y, q'[k]? = some y := ⟨_, List.getElem?_eq_getElem hkr⟩
            have hct := colP_take hq' hv'
            have hcl : (colP (m.take j) k).length = j := by simp [colP]; omega
            have hlb : j < s.bs.length := by omega
            ((refine ggb0 (F := _∧_) ⟨@Int.ofNat_lt, hlb⟩ ?_))
            ((repeat refine AW_seq ?_))
            refine AW_block ?_
            ((refine ggb0 (F := _∧_∧_∧_∧_) ⟨hlj, hq', hkr, hv', hcl⟩ ?_))
            refine ⟨(j + 1, t2 + 1, t2 + 1), hlj, by show m.length - (j + 1) < m.length - j; omega, ?_⟩
            simp only [hct, List.map_append, List.map_cons, List.map_nil]
            (simp (disch := omega) only [StLe, tmLe, hpLe_refl, hpLe, bl, bb, bt, zDs, zD, eqCells, simprocAttr])
          · have hje : j = m.length := by omega
            subst hje
            rw [List.take_length]
            have hnl : ¬ m.length < s.bs.length := by omega
            ((refine wqb (F := _∧_) ⟨@Int.ofNat_lt, hnl⟩ ?_))
            ((refine wia ?_))
            ((refine wxa ?_))
            exact ⟨(g, t2), trivial, by (simp (disch := omega) only [StLe, tmLe, hpLe_refl, hpLe, bl, bb, bt, zDs, zD, eqCells, simprocAttr])⟩
        rintro ⟨g, t2⟩ -
        have hcl : (colP m k).length = m.length := by simp [colP]
        have hfin : List.take m.length ((colP m k).map int) = (colP m k).map int := List.take_of_length_le (by simp [hcl])
        have hro : rowsF s (L ++ [k]) = rowsF s L ++ [colP m k] := by unfold rowsF; rw [List.map_append, List.map_cons, List.map_nil, hcol k hlt]
        ((refine AW.freeze (2) (by first | rfl | (simp only [setH, List.getElem?_cons_zero, List.getElem?_cons_succ, fzL_ints, fzL_mat, hcl, hfin, List.length_map, Nat.le_refl]; done)) ?_); simp (disch := omega) only [fzT, fz, fzL, fzL_ints, fzL_mat, fzH, fzB, eq_self, bb, bt, zDs, zD, eqCells, simprocAttr, fzL_ints, fzL_mat, hcl, hfin, List.length_map, Nat.le_refl])
        ((refine ggb0 hrl ?_))
        refine ⟨(k + 1, t2 + 1, t2 + 1), hlt, by show s.rs.length - (k + 1) < s.rs.length - k; omega, ?_⟩
        simp only [hst, hro, List.length_append, List.length_cons, List.length_nil, List.map_append, List.map_cons, List.map_nil]
        (simp (disch := omega) only [StLe, tmLe, hpLe_refl, hpLe, bl, bb, bt, zDs, zD, eqCells, simprocAttr])
    · have hke : k = s.rs.length := by omega
      subst hke
      ((refine wqb @Int.lt_irrefl ?_))
      ((refine wia ?_))
      ((refine wxa ?_))
      exact ⟨(g1, tt), trivial, by (simp (disch := omega) only [StLe, tmLe, hpLe_refl, hpLe, bl, bb, bt, zDs, zD, eqCells, simprocAttr])⟩
  rintro ⟨g1, tt⟩ -
  have hrl := rowsF_len s (fixP s.rs (-1) s.rs.length)
  generalize fixP s.rs (-1) s.rs.length = L at *
  have hfin2 : List.take L.length ((rowsF s L).map ints) = (rowsF s L).map ints := List.take_of_length_le (by simp [rowsF])
  ((refine AW.freeze (1) (by first | rfl | (simp only [setH, List.getElem?_cons_zero, List.getElem?_cons_succ, fzL_ints, fzL_mat, hfin2, hrl, List.length_map, Nat.le_refl]; done)) ?_); simp (disch := omega) only [fzT, fz, fzL, fzL_ints, fzL_mat, fzH, fzB, eq_self, bb, bt, zDs, zD, eqCells, simprocAttr, fzL_ints, fzL_mat, hfin2, hrl, List.length_map, Nat.le_refl])
  ((refine gga1 hN ?_))
  ((repeat refine AW_seq ?_); (refine wta ?_); simp (disch := omega) only [retQ, resD, oneD, bb, bt, zDs, zD, eqCells, simprocAttr, Try.results109])
  exact rsv_tidy _ _ (by simp only [tidyD, tidyL, tidy_frss, Bool.not_false, Bool.and_self])
end Go.Proofs.Ytpcakodemleoiaa.T

namespace Go.Proofs.Ytpcakodemleoiaa.T
open Go Go.RowKit Lin
set_option linter.unusedSimpArgs false

/-! Chapter 14's program: the first tension, the force. -/
def hauR (s : Sy) : Rp := s.rs.getD (hix s).toNat ⟨ByteArray.empty, [], false⟩
def loadP (s : Sy) : List (Int × Int) := s.bs.map fun b => (b.w, 1)
def prsP (s : Sy) (up : Bool) : (List (Int × Int) × List (Int × Int)) × Int := pairA (loadP s) (gripsA (hauR s) up s.bs []).1 (modesP s).1 [] []
def firstP (s : Sy) (up : Bool) : (Int × Int) × List (Int × Int) × Int :=
  if givL s = 0 then (if (alongP (hauR s) up).2 = 0 then (if (gripsA (hauR s) up s.bs []).2 = 0 then (if (prsP s up).2 = 0 then ((balP (prsP s up).1.1 (prsP s up).1.2).1, (alongP (hauR s) up).1, (balP (prsP s up).1.1 (prsP s up).1.2).2) else ((0, 0), [], (prsP s up).2)) else ((0, 0), [], (gripsA (hauR s) up s.bs []).2)) else ((0, 0), [], (alongP (hauR s) up).2)) else ((0, 0), [], givL s)
theorem gripsA_len {r : Rp} {up : Bool} : ∀ (bs : List Bk) (acc : List (Int × Int)), (gripsA r up bs acc).2 = 0 → (gripsA r up bs acc).1.length = acc.length + bs.length
  | [], acc, _ => rfl
  | b :: l, acc, h => by
    simp only [gripsA] at h ⊢
    split at h
    · rename_i h0
      rw [if_pos h0, gripsA_len l _ h]
      simp
      omega
    · rename_i h0
      exact absurd h h0
theorem pairA_step {load grip x : List (Int × Int)} {L : List (List (Int × Int))} {k : Nat} (hx : L[k]? = some x) (w p : List (Int × Int)) : pairA load grip (L.drop k) w p = if (dotV x load (0, 1)).2 = 0 then (if (dotV x grip (0, 1)).2 = 0 then pairA load grip (L.drop (k + 1)) (w ++ [(dotV x load (0, 1)).1]) (p ++ [(dotV x grip (0, 1)).1]) else (([], []), (dotV x grip (0, 1)).2)) else (([], []), (dotV x load (0, 1)).2) := by
  rw [List.drop_eq_getElem_cons (List.getElem?_eq_some_iff.1 hx).1, (List.getElem?_eq_some_iff.1 hx).2]
  rfl
set_option maxRecDepth 100000 in
set_option maxHeartbeats 16000000 in
theorem first14 (s : Sy) (hf : Fits s) (up : Bool) : PRet Try.prog 81 [syD s, bool up] (.tup [frD (firstP s up).1, frs (firstP s up).2.1, int (firstP s up).2.2]) := by
  refine PRet.intro 1 fun t => ACall.enter tab_ok Try.func81 rfl rfl Try.ntmps81 (by simp) ?_
  simp only [enterTM]
  have hG := given14 s hf
  by_cases hg : givL s = 0
  rotate_left 1
  · have e : firstP s up = ((0, 0), [], givL s) := by unfold firstP; rw [if_neg hg]
    rw [e]
    rw [if_neg hg] at hG
    have e1 : (givL s != 0) = true := by simpa using hg
    generalize givL s = E at *
    ((refine ggb1 e1 hG ?_))
    ((repeat refine AW_seq ?_); (refine wta ?_); simp (disch := omega) only [retQ, resD, oneD, rsv, rs, rsL, rsL_eq_map, List.map_map, bb, bt, zDs, zD, eqCells, simprocAttr, Try.results81])
    rfl
  have hv : validS s = true := by
    cases hv : validS s
    · unfold givL at hg
      rw [if_neg (by simp [hv])] at hg
      cases hg
    · rfl
  have hix0 : ¬ hix s < 0 := by
    intro h
    unfold givL at hg
    rw [if_pos hv, if_pos h] at hg
    cases hg
  have ok := validS_ok hv
  have hb6 := ok.b6
  have hr6 := ok.r6
  obtain ⟨i, r, hi, hr, _⟩ := hix_hit hix0
  have ehr : hauR s = r := by unfold hauR; rw [hi, Int.toNat_natCast, List.getD_eq_getElem?_getD, hr]; rfl
  have hir := (List.getElem?_eq_some_iff.1 hr).1
  have hdr := rpC_div s.rs
  have hdb := bkC_div s.bs
  have hra := rpC_read s.rs i r hr
  have hrm := List.mem_of_getElem? hr
  have hA := along14 r up (hf.sr r hrm).2
  have hMo := motions14 s hf hv hi
  have m0 : (modesP s).2 = 0 := (modesP_facts s).2.2.2 hv
  obtain ⟨ml, mn, _⟩ := modesP_facts s
  rw [m0] at hMo
  rw [hg, if_pos rfl, hi] at hG
  unfold firstP
  rw [if_pos hg, ehr]
  have ep : prsP s up = pairA (loadP s) (gripsA r up s.bs []).1 (modesP s).1 [] [] := by unfold prsP; rw [ehr]
  rw [ep]
  by_cases ha : (alongP r up).2 = 0
  rotate_left 1
  · have e1 : ((alongP r up).2 != 0) = true := by simpa using ha
    rw [if_neg ha]
    generalize alongP r up = X at *
    ((refine ggb2 (F := _∧_∧_∧_) ⟨hir, hdr, hra, e1⟩ hG hA ?_))
    ((repeat refine AW_seq ?_); (refine wta ?_); simp (disch := omega) only [retQ, resD, oneD, rsv, rs, rsL, rsL_eq_map, List.map_map, bb, bt, zDs, zD, eqCells, simprocAttr, Try.results81])
    rfl
  have hright : rightR r = true := by
    cases h : rightR r
    · unfold alongP at ha
      rw [if_neg (by simp [h])] at ha
      cases ha
    · rfl
  have ea : alongP r up = (facL r up (r.hs.length - 1), 0) := by unfold alongP; rw [if_pos hright]
  have hGr := grips14 s r up hright (by omega) (fun h hh => ok.pulls r hrm h hh)
  rw [if_pos ha]
  rw [ea] at hA ⊢
  simp only at hA ⊢
  have hgl := gripsA_len (r := r) (up := up) s.bs []
  generalize gripsA r up s.bs [] = Gr at *
  generalize facL r up (r.hs.length - 1) = Fs at *
  by_cases hgr : Gr.2 = 0
  rotate_left 1
  · have e1 : (Gr.2 != 0) = true := by simpa using hgr
    rw [if_neg hgr]
    ((refine ggb3 (F := _∧_∧_∧_) ⟨hir, hdr, hra, e1⟩ hG hA hGr ?_))
    ((repeat refine AW_seq ?_); (refine wta ?_); simp (disch := omega) only [retQ, resD, oneD, rsv, rs, rsL, rsL_eq_map, List.map_map, bb, bt, zDs, zD, eqCells, simprocAttr, Try.results81])
    rfl
  have e1 : (Gr.2 != 0) = false := by simpa using hgr
  have hgl := hgl hgr
  rw [if_pos hgr]
  generalize (modesP s).1 = L at *
  have hz : frC [] = [] := rfl
  ((refine ggb4 (F := _∧_∧_∧_∧_) ⟨hir, hdr, hra, e1, hdb⟩ hG hA hGr hMo ?_))
  have hll : (loadP s).length = s.bs.length := by simp [loadP]
  have hl0 : ∀ l : List Bk, frC ((l.take 0).map fun b => (b.w, (1 : Int))) = [] := fun l => rfl
  generalize hPP : pairA (loadP s) Gr.1 L [] [] = PP at *
  refine AW.begin 13 2 42 rfl (by decide) ?_
  simp only [putTM, List.length_cons, List.length_nil, Nat.reduceEqDiff, ↓reduceIte, List.cons_append, List.nil_append]
  refine AW_mid (fun x : Nat × Nat => ⟨[(4, .ptr 1 (t + 1 + 1) 0), (10, frs Fs), (11, frs Gr.1), (12, frss L), (13, .own 2 3 x.1 0 s.bs.length)], [none, some ⟨42, t + 1 + 1, [int 0, int 0]⟩, none, some ⟨42, x.1, frC (loadP s)⟩], x.2⟩) (fun _ => True) ?_ ?_
  · refine AW_block ?_
    refine AW_loop_w (fun x : Nat × Nat × Nat => ⟨[(4, .ptr 1 (t + 1 + 1) 0), (10, frs Fs), (11, frs Gr.1), (12, frss L), (13, .own 2 3 x.2.1 0 x.1), (70, bks s.bs), (71, int s.bs.length), (72, int x.1)], [none, some ⟨42, t + 1 + 1, [int 0, int 0]⟩, none, some ⟨42, x.2.1, frC ((s.bs.take x.1).map fun b => (b.w, 1))⟩], x.2.2⟩) (fun x => s.bs.length - x.1) (fun x => x.1 ≤ s.bs.length) (0, t + 1 + 1 + 1 + 1, t + 1 + 1 + 1 + 1) (Nat.zero_le _) (by (simp (disch := omega) only [StLe, tmLe, hpLe_refl, hpLe, bl, bb, bt, zDs, zD, eqCells, simprocAttr, hl0, hz, List.take_zero, List.map_nil])) ?_
    rintro ⟨k, g, tt⟩ hk
    simp only at hk
    by_cases hlt : k < s.bs.length
    · obtain ⟨b, hb⟩ : ∃ y, s.bs[k]? = some y := ⟨_, List.getElem?_eq_getElem hlt⟩
      have hrb := bkC_read s.bs k b hb
      have hw := whole14 b.w
      have hst : frC ((s.bs.take (k + 1)).map fun b => (b.w, (1 : Int))) = frC ((s.bs.take k).map fun b => (b.w, 1)) ++ [int b.w, int 1] := by
        rw [List.take_add_one, hb, Option.toList_some, List.map_append]
        simp [frC]
      have hlk := frC_len ((s.bs.take k).map fun b => (b.w, (1 : Int)))
      rw [List.length_map, List.length_take, Nat.min_eq_left hk] at hlk
      ((refine ggb0 (F := _∧_) ⟨@Int.ofNat_lt, hlt⟩ ?_))
      ((repeat refine AW_seq ?_))
      refine AW_block ?_
      ((refine ggb1 (F := _∧_∧_∧_) ⟨hlt, hdb, hrb, hlk⟩ hw ?_))
      refine ⟨(k + 1, tt + 1 + 1, tt + 1 + 1), hlt, by show s.bs.length - (k + 1) < s.bs.length - k; omega, ?_⟩
      simp only [hst]
      (simp (disch := omega) only [StLe, tmLe, hpLe_refl, hpLe, bl, bb, bt, zDs, zD, eqCells, simprocAttr])
    · have hke : k = s.bs.length := by omega
      subst hke
      have hfull : frC ((s.bs.take s.bs.length).map fun b => (b.w, (1 : Int))) = frC (loadP s) := by rw [List.take_length]; rfl
      rw [hfull]
      ((refine wqb @Int.lt_irrefl ?_))
      ((refine wia ?_))
      ((refine wxa ?_))
      exact ⟨(g, tt), trivial, by (simp (disch := omega) only [StLe, tmLe, hpLe_refl, hpLe, bl, bb, bt, zDs, zD, eqCells, simprocAttr])⟩
  rintro ⟨g0, t1⟩ -
  generalize loadP s = ld at *
  have hlw := frC_len ld
  rw [hll] at hlw
  have hfin : List.take (s.bs.length * 2) (frC ld) = frC ld := List.take_of_length_le (by omega)
  ((refine AW.freeze (3) (by first | rfl | (simp only [setH, List.getElem?_cons_zero, List.getElem?_cons_succ, fz_bk, fz_rp, fz_frS, fzS_frss, hfin, hlw, Nat.le_refl]; done)) ?_); simp (disch := omega) only [fzT, fz, fzL, fzL_ints, fzL_mat, fzH, fzB, eq_self, bb, bt, zDs, zD, eqCells, simprocAttr, fz_bk, fz_rp, fz_frS, fzS_frss, hfin, hlw, Nat.le_refl])
  ((refine gga0 ?_))
  refine AW.begin 16 2 42 rfl (by decide) ?_
  simp only [putTM, List.length_cons, List.length_nil, Nat.reduceEqDiff, ↓reduceIte, List.cons_append, List.nil_append]
  refine AW.begin 17 2 42 rfl (by decide) ?_
  simp only [putTM, List.length_cons, List.length_nil, Nat.reduceEqDiff, ↓reduceIte, List.cons_append, List.nil_append]
  refine AW_mid (fun x : Nat × Nat × Nat => ⟨[(4, .ptr 1 (t + 1 + 1) 0), (10, frs Fs), (16, .own 2 4 x.1 0 L.length), (17, .own 2 5 x.2.1 0 L.length)], [none, some ⟨42, t + 1 + 1, [int 0, int 0]⟩, none, none, some ⟨42, x.1, frC PP.1.1⟩, some ⟨42, x.2.1, frC PP.1.2⟩], x.2.2⟩) (fun _ => PP.2 = 0 ∧ PP.1.1.length = L.length ∧ PP.1.2.length = L.length) ?_ ?_
  · refine AW_block ?_
    refine AW_loop_w (fun x : List (Int × Int) × List (Int × Int) × Nat × Nat × Nat × Nat => ⟨[(4, .ptr 1 (t + 1 + 1) 0), (10, frs Fs), (11, frs Gr.1), (13, frs ld), (16, .own 2 4 x.2.2.2.1 0 x.2.2.1), (17, .own 2 5 x.2.2.2.2.1 0 x.2.2.1), (83, frss L), (84, int L.length), (85, int x.2.2.1)], [none, some ⟨42, t + 1 + 1, [int 0, int 0]⟩, none, none, some ⟨42, x.2.2.2.1, frC x.1⟩, some ⟨42, x.2.2.2.2.1, frC x.2.1⟩], x.2.2.2.2.2⟩) (fun x => L.length - x.2.2.1) (fun x => x.2.2.1 ≤ L.length ∧ x.1.length = x.2.2.1 ∧ x.2.1.length = x.2.2.1 ∧ pairA ld Gr.1 (L.drop x.2.2.1) x.1 x.2.1 = PP) ([], [], 0, t1 + 1, t1 + 1 + 1, t1 + 1 + 1) ⟨Nat.zero_le _, rfl, rfl, hPP⟩ (by (simp (disch := omega) only [StLe, tmLe, hpLe_refl, hpLe, bl, bb, bt, zDs, zD, eqCells, simprocAttr, hz])) ?_
    rintro ⟨w, p, k, g1, g2, tt⟩ ⟨hk, hwl, hpl, hd⟩
    simp only at hk hwl hpl hd
    by_cases hlt : k < L.length
    · obtain ⟨v, hvk⟩ : ∃ y, L[k]? = some y := ⟨_, List.getElem?_eq_getElem hlt⟩
      have hvl := ml v (List.mem_of_getElem? hvk)
      have hS1 := sum14 v ld (by omega) (by omega)
      have hS2 := sum14 v Gr.1 (by rw [hgl, List.length_nil]; omega) (by rw [hgl, List.length_nil]; omega)
      rw [pairA_step hvk] at hd
      generalize dotV v ld (0, 1) = A at *
      generalize dotV v Gr.1 (0, 1) = B at *
      ((refine ggb0 (F := _∧_) ⟨@Int.ofNat_lt, hlt⟩ ?_))
      ((repeat refine AW_seq ?_))
      refine AW_block ?_
      by_cases ha0 : A.2 = 0
      rotate_left 1
      · have ea : (A.2 != 0) = true := by simpa using ha0
        rw [if_neg ha0] at hd
        rw [← hd, if_neg ha0]
        ((refine ggb1 (F := _∧_∧_) ⟨hlt, hvk, ea⟩ hS1 ?_))
        ((repeat refine AW_seq ?_); (refine wta ?_); simp (disch := omega) only [retQ, resD, oneD, rsv, rs, rsL, rsL_eq_map, List.map_map, bb, bt, zDs, zD, eqCells, simprocAttr, Try.results81])
        rfl
      have ea : (A.2 != 0) = false := by simpa using ha0
      rw [if_pos ha0] at hd
      by_cases hb0 : B.2 = 0
      rotate_left 1
      · have eb : (B.2 != 0) = true := by simpa using hb0
        rw [if_neg hb0] at hd
        rw [← hd, if_neg hb0]
        ((refine ggb2 (F := _∧_∧_∧_) ⟨hlt, hvk, ea, eb⟩ hS1 hS2 ?_))
        ((repeat refine AW_seq ?_); (refine wta ?_); simp (disch := omega) only [retQ, resD, oneD, rsv, rs, rsL, rsL_eq_map, List.map_map, bb, bt, zDs, zD, eqCells, simprocAttr, Try.results81])
        rfl
      have eb : (B.2 != 0) = false := by simpa using hb0
      rw [if_pos hb0] at hd
      have hap1 : frC w ++ [int A.1.1, int A.1.2] = frC (w ++ [A.1]) := by simp [frC]
      have hap2 : frC p ++ [int B.1.1, int B.1.2] = frC (p ++ [B.1]) := by simp [frC]
      have hlw1 := frC_len w
      rw [hwl] at hlw1
      have hlp1 := frC_len p
      rw [hpl] at hlp1
      ((refine ggb2 (F := _∧_∧_∧_) ⟨hlt, hvk, ea, eb⟩ hS1 hS2 ?_))
      ((repeat refine AW_seq ?_); (refine gdzb (F := _∧_∧_∧_) ⟨hap1, hap2, hlw1, hlp1⟩ ?_))
      ((refine gga0 ?_))
      refine ⟨(w ++ [A.1], p ++ [B.1], k + 1, tt + 1 + 1 + 1, tt + 1 + 1 + 1, tt + 1 + 1 + 1), ⟨hlt, by simp [hwl], by simp [hpl], hd⟩, by show L.length - (k + 1) < L.length - k; omega, ?_⟩
      (simp (disch := omega) only [StLe, tmLe, hpLe_refl, hpLe, bl, bb, bt, zDs, zD, eqCells, simprocAttr])
    · have hke : k = L.length := by omega
      subst hke
      have hde : pairA ld Gr.1 (L.drop L.length) w p = ((w, p), 0) := by rw [List.drop_eq_nil_of_le (Nat.le_refl _)]; try rfl
      rw [hde] at hd
      subst hd
      ((refine wqb @Int.lt_irrefl ?_))
      ((refine wia ?_))
      ((refine wxa ?_))
      exact ⟨(g1, g2, tt), ⟨rfl, hwl, hpl⟩, by (simp (disch := omega) only [StLe, tmLe, hpLe_refl, hpLe, bl, bb, bt, zDs, zD, eqCells, simprocAttr])⟩
  rintro ⟨g1, g2, tt⟩ ⟨hP0, hP1, hP2⟩
  rw [if_pos hP0]
  have hB := balance14 PP.1.1 PP.1.2 (by omega) (by omega)
  obtain ⟨⟨w, p⟩, pe⟩ := PP
  simp only at *
  generalize balP w p = Z at *
  have hlw1 := frC_len w
  rw [hP1] at hlw1
  have hlp1 := frC_len p
  rw [hP2] at hlp1
  have hf1 : List.take (L.length * 2) (frC w) = frC w := List.take_of_length_le (by omega)
  have hf2 : List.take (L.length * 2) (frC p) = frC p := List.take_of_length_le (by omega)
  ((refine AW.freeze (4) (by first | rfl | (simp only [setH, List.getElem?_cons_zero, List.getElem?_cons_succ, fz_frS, hf1, hlw1, Nat.le_refl]; done)) ?_); simp (disch := omega) only [fzT, fz, fzL, fzL_ints, fzL_mat, fzH, fzB, eq_self, bb, bt, zDs, zD, eqCells, simprocAttr, fz_frS, hf1, hlw1, Nat.le_refl])
  ((refine AW.freeze (5) (by first | rfl | (simp only [setH, List.getElem?_cons_zero, List.getElem?_cons_succ, fz_frS, hf2, hlp1, Nat.le_refl]; done)) ?_); simp (disch := omega) only [fzT, fz, fzL, fzL_ints, fzL_mat, fzH, fzB, eq_self, bb, bt, zDs, zD, eqCells, simprocAttr, fz_frS, hf2, hlp1, Nat.le_refl])
  ((refine gga1 hB ?_))
  ((repeat refine AW_seq ?_); (refine wta ?_); simp (disch := omega) only [retQ, resD, oneD, bb, bt, zDs, zD, eqCells, simprocAttr, Try.results81])
  exact rsv_tidy _ _ (by simp only [tidyD, tidyL, tidy_fr, Bool.not_false, Bool.and_self])
def forceP (s : Sy) (up : Bool) : (Int × Int) × Int := if (firstP s up).2.2 = 0 then mulP (firstP s up).1 ((firstP s up).2.1.getD ((firstP s up).2.1.length - 1) (0, 0)) else ((0, 0), (firstP s up).2.2)
theorem first_len {s : Sy} {up : Bool} (h : (firstP s up).2.2 = 0) : 1 ≤ (firstP s up).2.1.length ∧ (firstP s up).2.1.length ≤ 9 := by
  unfold firstP at h ⊢
  split at h
  · rename_i h1
    rw [if_pos h1]
    split at h
    · rename_i h2
      rw [if_pos h2]
      split at h
      · rename_i h3
        rw [if_pos h3]
        split at h
        · rename_i h4
          rw [if_pos h4]
          simp only
          have hr : rightR (hauR s) = true := by
            cases hr : rightR (hauR s)
            · unfold alongP at h2
              rw [if_neg (by simp [hr])] at h2
              cases h2
            · rfl
          unfold alongP
          rw [if_pos hr]
          simp only
          rw [facL_len]
          have := rightR_len hr
          omega
        · rename_i h4; exact absurd h h4
      · rename_i h3; exact absurd h h3
    · rename_i h2; exact absurd h h2
  · rename_i h1; exact absurd h h1
set_option maxHeartbeats 4000000 in
theorem force14 (s : Sy) (hf : Fits s) (up : Bool) : PRet Try.prog 48 [syD s, bool up] (fe (forceP s up)) := by
  refine PRet.intro 1 fun t => ACall.enter tab_ok Try.func48 rfl rfl Try.ntmps48 (by simp) ?_
  simp only [enterTM]
  have hF := first14 s hf up
  have hl := first_len (s := s) (up := up)
  unfold forceP
  generalize firstP s up = X at *
  obtain ⟨f, l, e⟩ := X
  simp only at *
  by_cases h0 : e = 0
  rotate_left 1
  · have e1 : (e != 0) = true := by simpa using h0
    rw [if_neg h0]
    ((refine ggb1 e1 hF ?_))
    ((repeat refine AW_seq ?_); (refine wta ?_); simp (disch := omega) only [retQ, resD, oneD, rsv, rs, rsL, rsL_eq_map, List.map_map, bb, bt, zDs, zD, eqCells, simprocAttr, Try.results48])
  subst h0
  obtain ⟨l1, l9⟩ := hl rfl
  rw [if_pos rfl]
  obtain ⟨x, hx⟩ : ∃ y, l[l.length - 1]? = some y := ⟨_, List.getElem?_eq_getElem (by omega)⟩
  have hr := frC_read l (l.length - 1) x hx
  have hd := frC_div l
  have hs : (l.length : Int) - 1 = ((l.length - 1 : Nat) : Int) := by omega
  have hlt : l.length - 1 < l.length := by omega
  rw [List.getD_eq_getElem?_getD, hx, Option.getD_some]
  have hM := rMul f x
  generalize mulP f x = M at *
  ((refine gga1 hF ?_))
  ((repeat refine AW_seq ?_); (refine gdzb1 (F := _∧_∧_∧_) ⟨hd, hs, hlt, hr⟩ hM ?_))
  ((refine gga0 ?_))
  ((repeat refine AW_seq ?_); (refine wta ?_); simp (disch := omega) only [retQ, resD, oneD, rsv, rs, rsL, rsL_eq_map, List.map_map, bb, bt, zDs, zD, eqCells, simprocAttr, Try.results48])
theorem raise14 (s : Sy) (hf : Fits s) : PRet Try.prog 24 [syD s] (fe (forceP s true)) := by
  refine PRet.intro 1 fun t => ACall.enter tab_ok Try.func24 rfl rfl Try.ntmps24 (by simp) ?_
  simp only [enterTM]
  have hF := force14 s hf true
  generalize forceP s true = M at *
  ((refine gga1 hF ?_))
  ((repeat refine AW_seq ?_); (refine wta ?_); simp (disch := omega) only [retQ, resD, oneD, rsv, rs, rsL, rsL_eq_map, List.map_map, bb, bt, zDs, zD, eqCells, simprocAttr, Try.results24])
theorem lower14 (s : Sy) (hf : Fits s) : PRet Try.prog 25 [syD s] (fe (forceP s false)) := by
  refine PRet.intro 1 fun t => ACall.enter tab_ok Try.func25 rfl rfl Try.ntmps25 (by simp) ?_
  simp only [enterTM]
  have hF := force14 s hf false
  generalize forceP s false = M at *
  ((refine gga1 hF ?_))
  ((repeat refine AW_seq ?_); (refine wta ?_); simp (disch := omega) only [retQ, resD, oneD, rsv, rs, rsL, rsL_eq_map, List.map_map, bb, bt, zDs, zD, eqCells, simprocAttr, Try.results25])
end Go.Proofs.Ytpcakodemleoiaa.T

namespace Go.Proofs.Ytpcakodemleoiaa.T
open Go Go.RowKit
set_option linter.unusedSimpArgs false

/-! A call whose result holds a slice of a block of its own among plain values. -/
theorem RepL_split {F : Mem} {G : Ghost} {d : D} {b : List D} : ∀ {a : List D} {us : List Value}, RepL F G (a ++ d :: b) us → ∃ ua u ub, us = ua ++ u :: ub ∧ RepL F G a ua ∧ Rep F G d u ∧ RepL F G b ub
  | [], us, h => by
    simp only [List.nil_append, RepL] at h
    obtain ⟨u, us', e, h1, h2⟩ := h
    exact ⟨[], u, us', e, by simp [RepL], h1, h2⟩
  | x :: a, us, h => by
    simp only [List.cons_append, RepL] at h
    obtain ⟨u, us', rfl, h1, h2⟩ := h
    obtain ⟨ua, v, ub, rfl, k1, k2, k3⟩ := RepL_split h2
    exact ⟨u :: ua, v, ub, rfl, by simp only [RepL]; exact ⟨u, ua, rfl, h1, k1⟩, k2, k3⟩
theorem RepL_join {F : Mem} {G : Ghost} {d : D} {b : List D} {u : Value} {ub : List Value} (h2 : Rep F G d u) (h3 : RepL F G b ub) : ∀ {a : List D} {ua : List Value}, RepL F G a ua → RepL F G (a ++ d :: b) (ua ++ u :: ub)
  | [], ua, h => by
    simp only [RepL] at h
    subst h
    simp only [List.nil_append, RepL]
    exact ⟨u, ub, rfl, h2, h3⟩
  | x :: a, ua, h => by
    simp only [RepL] at h
    obtain ⟨v, us', rfl, h1, h4⟩ := h
    simp only [List.cons_append, RepL]
    exact ⟨v, _, rfl, h1, RepL_join h2 h3 h4⟩
def wrapD (tup : Bool) (pre post : List D) (o : D) : D := if tup = true then .tup (pre ++ o :: post) else .agg (pre ++ o :: post)
theorem wrap_split {F : Mem} {G : Ghost} {tup : Bool} {pre post : List D} {o : D} {u : Value} (h1 : plainL pre = true) (h2 : plainL post = true) (h : Rep F G (wrapD tup pre post o) u) : ∃ v, Rep F G o v ∧ ∀ G' o', Rep F G' o' v → Rep F G' (wrapD tup pre post o') u := by
  unfold wrapD at h ⊢
  cases tup
  · simp only [Bool.false_eq_true, if_false, Rep] at h ⊢
    obtain ⟨vs, rfl, hL⟩ := h
    obtain ⟨ua, v, ub, rfl, k1, k2, k3⟩ := RepL_split hL
    exact ⟨v, k2, fun G' o' ho => ⟨_, rfl, RepL_join ho (plain_repL _ _ h2 k3) (plain_repL _ _ h1 k1)⟩⟩
  · simp only [if_true, Rep] at h ⊢
    obtain ⟨vs, rfl, hL⟩ := h
    obtain ⟨ua, v, ub, rfl, k1, k2, k3⟩ := RepL_split hL
    exact ⟨v, k2, fun G' o' ho => ⟨_, rfl, RepL_join ho (plain_repL _ _ h2 k3) (plain_repL _ _ h1 k1)⟩⟩
section
variable {P : Program}
theorem PFreshX.intro {f : FuncId} {ds : List D} {ty : TypeId} {sz n : Nat} {cells : List D} {tup : Bool} {pre post : List D} (hc : plainL cells = true) (h1 : plainL pre = true) (h2 : plainL post = true)
    (h : ∀ t, ACall P f ds [] t fun d H' _ => ∃ b g, d = wrapD tup pre post (.own sz b g 0 n) ∧ H'[b]? = some (some ⟨ty, g, cells⟩)) : PFreshX P f ds ty sz n cells (wrapD tup pre post) := by
  refine fun F G w us hF hL => ?_
  obtain ⟨t, ht⟩ := top_of G
  have R : Rel w F G [] t w := ⟨Below.refl _ _, hF, Nat.zero_le _, ht, fun i bl h => by simp at h, fun i j bi bj p q r s t u _ h => by simp at h⟩
  refine (h t w F G w us R hL).mono fun e w' hx => ?_
  obtain ⟨F', G', u, d', H', t', rfl, onw, R', hd, b, g, rfl, hb⟩ := hx
  obtain ⟨v, hv, hw⟩ := wrap_split h1 h2 hd
  obtain ⟨p, hp, hg, hl⟩ := R'.own b _ hb
  refine ⟨F', u, v, p, rfl, onw.mem, fun b o hb => onw.old b o hb, R'.mem, R'.below, ⟨rfl, ?_⟩, ?_, hw⟩
  · cases hr : p.r with
    | none => rw [hr] at hl; exact hl
    | some rs =>
      obtain ⟨r, s⟩ := rs
      rw [hr] at hl
      obtain ⟨k1, k2, hl⟩ := hl
      refine ⟨k1, k2, ?_⟩
      cases hpm : p.m with
      | false =>
        rw [hpm] at hl
        obtain ⟨vs, junk, k3, k4, k5⟩ := hl
        exact ⟨vs, junk, k3, k4, plain_repL _ _ hc k5⟩
      | true => rw [hpm] at hl; exact hl
  · simp only [Rep] at hv ⊢
    obtain ⟨k1, p', hp', k2, k3⟩ := hv
    rw [hp] at hp'; cases hp'
    exact ⟨k1, p, rfl, Nat.le_refl _, fun _ => k3 hg⟩
theorem ACall.of_freshX {f : FuncId} {ds ds' : List D} {ty : TypeId} {sz n : Nat} {cells : List D} {wf : D → D} {H : Hp} {t : Nat} {K : D → Hp → Nat → Prop} (h : PFreshX P f ds' ty sz n cells wf) (hd : ds.map ufa = ds') (hk : K (wf (.own sz H.length (t + 1) 0 n)) (setH H H.length ⟨ty, t + 1, cells⟩) (t + 1)) : ACall P f ds H t K := by
  refine fun w0 F G w us R hL => ?_
  subst hd
  have hL' : RepL F G (ds.map ufa) us := RepL_map (fun d u _ hd => hd.ufa) hL
  have go : ∀ G1, Ghost.le G.length G G1 → G.length ≤ G1.length → Rel w0 F G1 H t w → H.length < G1.length → Runs P f us.toArray w fun e w' => ∃ F' G' u d H' t', e = .returned u ∧ Onw w0 F G F' G' ∧ Rel w0 F' G' H' t' w' ∧ Rep F' G' d u ∧ K d H' t' := fun G1 g1 g2 R1 hlt => by
    obtain ⟨p0, hp0⟩ : ∃ p, G1[H.length]? = some p := ⟨_, List.getElem?_eq_getElem hlt⟩
    have htop := R1.top _ _ hp0
    refine (h F G w us R.mem hL').mono fun e w' hx => ?_
    obtain ⟨F', u, v, p, rfl, h1, h2, h3, h4, h5, h6, h7⟩ := hx
    obtain ⟨k1, k2⟩ := R1.fresh (t' := t + 1) (sp := t + 1) (Nat.le_succ t) (Nat.le_refl _) (Nat.le_refl _) hp0 (by omega) h1 h2 h3 h4 h5 h6
    exact ⟨F', _, u, _, _, _, rfl, ⟨h1, fun b o hb => h2 b o (by have := R.below.size; omega), g1.trans ((Ghost.le_set hp0 (.inr (by simp only; omega)) _).less g2), by simpa using g2⟩, k1, h7 _ _ k2, hk⟩
  rcases Nat.lt_or_ge H.length G.length with hlt | hge
  · exact go G (.refl _ _) (Nat.le_refl _) R hlt
  · have heq : H.length = G.length := Nat.le_antisymm R.len hge
    exact go (G ++ [⟨none, 0, false⟩]) (fun i p hi hp => ⟨p, by rw [List.getElem?_append_left hi]; exact hp, .refl p⟩) (by simp) R.extend (by simp; omega)
end
end Go.Proofs.Ytpcakodemleoiaa.T

namespace Go.Proofs.Ytpcakodemleoiaa.T
open Go Go.RowKit Lin
set_option linter.unusedSimpArgs false

/-! Copies of a system whose blocks, or ropes, are the caller's own. -/
theorem cellsC_bk (l : List Bk) : (bkC l).all isCell = true := by
  induction l with
  | nil => rfl
  | cons x r ih => simp only [bkC, List.flatMap_cons, List.all_append, Bool.and_eq_true] at ih ⊢; exact ⟨rfl, ih⟩
theorem cellsC_hd (l : List Hd) : (hdC l).all isCell = true := by
  induction l with
  | nil => rfl
  | cons x r ih => simp only [hdC, List.flatMap_cons, List.all_append, Bool.and_eq_true] at ih ⊢; exact ⟨rfl, ih⟩
set_option maxHeartbeats 4000000 in
theorem copyB (s : Sy) (ok : OkS s) : PFreshX Try.prog 10 [syD s] 35 2 s.bs.length (bkC s.bs) (fun o => .agg [o, rps s.rs]) := by
  refine PFreshX.intro (tup := false) (pre := []) (post := [rps s.rs]) (plain_bk _) rfl (by simp only [plainL, plainD, plain_rp, Bool.and_self]) fun t => ACall.enter tab_ok Try.func10 rfl rfl Try.ntmps10 (by simp) ?_
  simp only [enterTM]
  have hdr := rpC_div s.rs
  have hdb := bkC_div s.bs
  have hlb := bkC_len s.bs
  have b1 := ok.b1
  have b6 := ok.b6
  have r6 := ok.r6
  have hcb := cellsC_bk s.bs
  have hnb : (bkC s.bs = []) = False := by
    simp only [eq_iff_iff, iff_false]
    intro e
    rw [e] at hlb
    simp at hlb
    omega
  ((refine wqa ?_))
  ((refine wqb (F := _∧_∧_) ⟨hcb, hnb, hdb⟩ ?_))
  have hfb : List.take (s.bs.length * 2) (bkC s.bs) = bkC s.bs := List.take_of_length_le (by omega)
  
  ((refine wqa ?_))
  refine AW.begin_cell 3 1 3 39 rfl rfl (by decide) ?_
  simp only [List.set_cons_succ, List.set_cons_zero, List.length_cons, List.length_nil, List.cons_append, List.nil_append, Nat.zero_add, Nat.reduceAdd]
  have hz1 : rpC [] = [] := rfl
  refine AW_mid (fun x : Nat × Nat => ⟨[(2, .ptr 1 (t + 1 + 1) 0), (3, .ptr 3 (t + 1 + 1 + 1 + 1) 0)], [none, some ⟨25, t + 1 + 1, [.sl 2 [] true, .sl 3 [] true]⟩, some ⟨35, t + 1 + 1 + 1, bkC s.bs⟩, some ⟨25, t + 1 + 1 + 1 + 1, [.own 2 2 (t + 1 + 1 + 1) 0 s.bs.length, .own 3 4 x.1 0 s.rs.length]⟩, some ⟨39, x.1, rpC s.rs⟩], x.2⟩) (fun _ => True) ?_ ?_
  · refine AW_block ?_
    refine AW_loop_w (fun x : Nat × Nat × Nat => ⟨[(1, .ptr 0 (t + 1) 0), (2, .ptr 1 (t + 1 + 1) 0), (3, .ptr 3 (t + 1 + 1 + 1 + 1) 0), (4, int x.1)], [some ⟨25, t + 1, [bks s.bs, rps s.rs]⟩, some ⟨25, t + 1 + 1, [.sl 2 [] true, .sl 3 [] true]⟩, some ⟨35, t + 1 + 1 + 1, bkC s.bs⟩, some ⟨25, t + 1 + 1 + 1 + 1, [.own 2 2 (t + 1 + 1 + 1) 0 s.bs.length, .own 3 4 x.2.1 0 x.1]⟩, some ⟨39, x.2.1, rpC (s.rs.take x.1)⟩], x.2.2⟩) (fun x => s.rs.length - x.1) (fun x => x.1 ≤ s.rs.length) (0, t + 1 + 1 + 1 + 1 + 1, t + 1 + 1 + 1 + 1 + 1) (Nat.zero_le _) (by (simp (disch := omega) only [StLe, tmLe, hpLe_refl, hpLe, bl, bb, bt, zDs, zD, eqCells, simprocAttr, List.take_zero, hz1])) ?_
    rintro ⟨k, g, tt⟩ hk
    simp only at hk
    by_cases hlt : k < s.rs.length
    · obtain ⟨r, hr⟩ : ∃ y, s.rs[k]? = some y := ⟨_, List.getElem?_eq_getElem hlt⟩
      have hra := rpC_read s.rs k r hr
      obtain ⟨ho1, ho2, _⟩ := ok.holds r (List.mem_of_getElem? hr)
      have hch := cellsC_hd r.hs
      have hlh := hdC_len r.hs
      have hdh := hdC_div r.hs
      have hnh : (hdC r.hs = []) = False := by
        simp only [eq_iff_iff, iff_false]
        intro e
        rw [e] at hlh
        simp at hlh
        omega
      have htk : s.rs.take (k + 1) = s.rs.take k ++ [r] := by rw [List.take_add_one, hr]; rfl
      have htl : (s.rs.take k).length = k := by simp; omega
      have hel := rpC_len (s.rs.take k)
      rw [htl] at hel
      have happ := rpC_app (s.rs.take k) r
      generalize s.rs.take k = E at *
      ((refine ggb0 (F := _∧_∧_) ⟨@Int.ofNat_lt, hlt, hdr⟩ ?_))
      ((repeat refine AW_seq ?_))
      refine AW_block ?_
      ((refine wqb (F := _∧_∧_) ⟨hlt, hdr, hra⟩ ?_))
      ((refine wqb (F := _∧_∧_) ⟨hch, hnh, hdh⟩ ?_))
      have hfh : List.take (r.hs.length * 4) (hdC r.hs) = hdC r.hs := List.take_of_length_le (by omega)
      ((refine AW.freeze (6) (by first | rfl | (simp only [setH, List.getElem?_cons_zero, List.getElem?_cons_succ, fz_bk, fz_rp, fz_hd, hfh, hlh, Nat.le_refl]; done)) ?_); simp (disch := omega) only [fzT, fz, fzL, fzL_ints, fzL_mat, fzH, fzB, eq_self, bb, bt, zDs, zD, eqCells, simprocAttr, fz_bk, fz_rp, fz_hd, hfh, hlh, Nat.le_refl])
      ((refine ggb0 hel ?_))
      refine ⟨(k + 1, tt + 1 + 1 + 1, tt + 1 + 1 + 1), hlt, by show s.rs.length - (k + 1) < s.rs.length - k; omega, ?_⟩
      simp only [htk, happ]
      (simp (disch := omega) only [StLe, tmLe, hpLe_refl, hpLe, bl, bb, bt, zDs, zD, eqCells, simprocAttr])
    · have hke : k = s.rs.length := by omega
      subst hke
      rw [List.take_length]
      ((refine wqb (F := _∧_) ⟨@Int.lt_irrefl, hdr⟩ ?_))
      ((refine wia ?_))
      ((refine wxa ?_))
      exact ⟨(g, tt), trivial, by (simp (disch := omega) only [StLe, tmLe, hpLe_refl, hpLe, bl, bb, bt, zDs, zD, eqCells, simprocAttr])⟩
  rintro ⟨g, tt⟩ -
  have hel := rpC_len s.rs
  have hfin : List.take (s.rs.length * 3) (rpC s.rs) = rpC s.rs := List.take_of_length_le (by omega)
  ((refine AW.freeze (4) (by first | rfl | (simp only [setH, List.getElem?_cons_zero, List.getElem?_cons_succ, fz_bk, fz_rp, hfin, hel, Nat.le_refl]; done)) ?_); simp (disch := omega) only [fzT, fz, fzL, fzL_ints, fzL_mat, fzH, fzB, eq_self, bb, bt, zDs, zD, eqCells, simprocAttr, fz_bk, fz_rp, hfin, hel, Nat.le_refl])
  ((refine gga0 ?_))
  ((repeat refine AW_seq ?_); (refine wta ?_); simp (disch := omega) only [retQ, resD, oneD, bb, bt, zDs, zD, eqCells, simprocAttr, Try.results10])
  exact ⟨2, t + 1 + 1 + 1, rfl, rfl⟩
set_option maxHeartbeats 4000000 in
theorem copyR (s : Sy) (ok : OkS s) : PFreshX Try.prog 10 [syD s] 39 3 s.rs.length (rpC s.rs) (fun o => .agg [bks s.bs, o]) := by
  refine PFreshX.intro (tup := false) (pre := [bks s.bs]) (post := []) (plain_rp _) (by simp only [plainL, plainD, plain_bk, Bool.and_self]) rfl fun t => ACall.enter tab_ok Try.func10 rfl rfl Try.ntmps10 (by simp) ?_
  simp only [enterTM]
  have hdr := rpC_div s.rs
  have hdb := bkC_div s.bs
  have hlb := bkC_len s.bs
  have b1 := ok.b1
  have b6 := ok.b6
  have r6 := ok.r6
  have hcb := cellsC_bk s.bs
  have hnb : (bkC s.bs = []) = False := by
    simp only [eq_iff_iff, iff_false]
    intro e
    rw [e] at hlb
    simp at hlb
    omega
  ((refine wqa ?_))
  ((refine wqb (F := _∧_∧_) ⟨hcb, hnb, hdb⟩ ?_))
  have hfb : List.take (s.bs.length * 2) (bkC s.bs) = bkC s.bs := List.take_of_length_le (by omega)
  ((refine AW.freeze (2) (by first | rfl | (simp only [setH, List.getElem?_cons_zero, List.getElem?_cons_succ, fz_bk, fz_rp, hfb, hlb, Nat.le_refl]; done)) ?_); simp (disch := omega) only [fzT, fz, fzL, fzL_ints, fzL_mat, fzH, fzB, eq_self, bb, bt, zDs, zD, eqCells, simprocAttr, fz_bk, fz_rp, hfb, hlb, Nat.le_refl])
  ((refine wqa ?_))
  refine AW.begin_cell 3 1 3 39 rfl rfl (by decide) ?_
  simp only [List.set_cons_succ, List.set_cons_zero, List.length_cons, List.length_nil, List.cons_append, List.nil_append, Nat.zero_add, Nat.reduceAdd]
  have hz1 : rpC [] = [] := rfl
  refine AW_mid (fun x : Nat × Nat => ⟨[(2, .ptr 1 (t + 1 + 1) 0), (3, .ptr 3 (t + 1 + 1 + 1 + 1) 0)], [none, some ⟨25, t + 1 + 1, [.sl 2 [] true, .sl 3 [] true]⟩, none, some ⟨25, t + 1 + 1 + 1 + 1, [bks s.bs, .own 3 4 x.1 0 s.rs.length]⟩, some ⟨39, x.1, rpC s.rs⟩], x.2⟩) (fun _ => True) ?_ ?_
  · refine AW_block ?_
    refine AW_loop_w (fun x : Nat × Nat × Nat => ⟨[(1, .ptr 0 (t + 1) 0), (2, .ptr 1 (t + 1 + 1) 0), (3, .ptr 3 (t + 1 + 1 + 1 + 1) 0), (4, int x.1)], [some ⟨25, t + 1, [bks s.bs, rps s.rs]⟩, some ⟨25, t + 1 + 1, [.sl 2 [] true, .sl 3 [] true]⟩, none, some ⟨25, t + 1 + 1 + 1 + 1, [bks s.bs, .own 3 4 x.2.1 0 x.1]⟩, some ⟨39, x.2.1, rpC (s.rs.take x.1)⟩], x.2.2⟩) (fun x => s.rs.length - x.1) (fun x => x.1 ≤ s.rs.length) (0, t + 1 + 1 + 1 + 1 + 1, t + 1 + 1 + 1 + 1 + 1) (Nat.zero_le _) (by (simp (disch := omega) only [StLe, tmLe, hpLe_refl, hpLe, bl, bb, bt, zDs, zD, eqCells, simprocAttr, List.take_zero, hz1])) ?_
    rintro ⟨k, g, tt⟩ hk
    simp only at hk
    by_cases hlt : k < s.rs.length
    · obtain ⟨r, hr⟩ : ∃ y, s.rs[k]? = some y := ⟨_, List.getElem?_eq_getElem hlt⟩
      have hra := rpC_read s.rs k r hr
      obtain ⟨ho1, ho2, _⟩ := ok.holds r (List.mem_of_getElem? hr)
      have hch := cellsC_hd r.hs
      have hlh := hdC_len r.hs
      have hdh := hdC_div r.hs
      have hnh : (hdC r.hs = []) = False := by
        simp only [eq_iff_iff, iff_false]
        intro e
        rw [e] at hlh
        simp at hlh
        omega
      have htk : s.rs.take (k + 1) = s.rs.take k ++ [r] := by rw [List.take_add_one, hr]; rfl
      have htl : (s.rs.take k).length = k := by simp; omega
      have hel := rpC_len (s.rs.take k)
      rw [htl] at hel
      have happ := rpC_app (s.rs.take k) r
      generalize s.rs.take k = E at *
      ((refine ggb0 (F := _∧_∧_) ⟨@Int.ofNat_lt, hlt, hdr⟩ ?_))
      ((repeat refine AW_seq ?_))
      refine AW_block ?_
      ((refine wqb (F := _∧_∧_) ⟨hlt, hdr, hra⟩ ?_))
      ((refine wqb (F := _∧_∧_) ⟨hch, hnh, hdh⟩ ?_))
      have hfh : List.take (r.hs.length * 4) (hdC r.hs) = hdC r.hs := List.take_of_length_le (by omega)
      ((refine AW.freeze (6) (by first | rfl | (simp only [setH, List.getElem?_cons_zero, List.getElem?_cons_succ, fz_bk, fz_rp, fz_hd, hfh, hlh, Nat.le_refl]; done)) ?_); simp (disch := omega) only [fzT, fz, fzL, fzL_ints, fzL_mat, fzH, fzB, eq_self, bb, bt, zDs, zD, eqCells, simprocAttr, fz_bk, fz_rp, fz_hd, hfh, hlh, Nat.le_refl])
      ((refine ggb0 hel ?_))
      refine ⟨(k + 1, tt + 1 + 1 + 1, tt + 1 + 1 + 1), hlt, by show s.rs.length - (k + 1) < s.rs.length - k; omega, ?_⟩
      simp only [htk, happ]
      (simp (disch := omega) only [StLe, tmLe, hpLe_refl, hpLe, bl, bb, bt, zDs, zD, eqCells, simprocAttr])
    · have hke : k = s.rs.length := by omega
      subst hke
      rw [List.take_length]
      ((refine wqb (F := _∧_) ⟨@Int.lt_irrefl, hdr⟩ ?_))
      ((refine wia ?_))
      ((refine wxa ?_))
      exact ⟨(g, tt), trivial, by (simp (disch := omega) only [StLe, tmLe, hpLe_refl, hpLe, bl, bb, bt, zDs, zD, eqCells, simprocAttr])⟩
  rintro ⟨g, tt⟩ -
  have hel := rpC_len s.rs
  have hfin : List.take (s.rs.length * 3) (rpC s.rs) = rpC s.rs := List.take_of_length_le (by omega)
  skip
  ((refine gga0 ?_))
  ((repeat refine AW_seq ?_); (refine wta ?_); simp (disch := omega) only [retQ, resD, oneD, bb, bt, zDs, zD, eqCells, simprocAttr, Try.results10])
  exact ⟨4, g, rfl, rfl⟩
/-! Weights changed one after the other. -/
def chW (f : Nat → Bk → Int) (l : List Bk) : Nat → List Bk
  | 0 => l
  | k + 1 => match l[k]? with
    | some b => (chW f l k).set k ⟨b.nm, f k b⟩
    | none => chW f l k
theorem chW_len (f : Nat → Bk → Int) (l : List Bk) : ∀ k, (chW f l k).length = l.length
  | 0 => rfl
  | k + 1 => by
    simp only [chW]
    split
    · rw [List.length_set, chW_len f l k]
    · exact chW_len f l k
theorem chW_get (f : Nat → Bk → Int) (l : List Bk) : ∀ (k i : Nat) (b : Bk), l[i]? = some b → (chW f l k)[i]? = some (if i < k then ⟨b.nm, f i b⟩ else b)
  | 0, i, b, h => by rw [if_neg (by omega)]; exact h
  | k + 1, i, b, h => by
    have ih := chW_get f l k i b h
    have hi := (List.getElem?_eq_some_iff.1 h).1
    simp only [chW]
    by_cases e : k = i
    · subst e
      rw [h]
      simp only
      rw [List.getElem?_set_self (by rw [chW_len]; exact hi), if_pos (by omega)]
    · have : (match l[k]? with | some b => (chW f l k).set k ⟨b.nm, f k b⟩ | none => chW f l k)[i]? = (chW f l k)[i]? := by
        split
        · rw [List.getElem?_set_ne e]
        · rfl
      rw [this, ih]
      by_cases e2 : i < k
      · rw [if_pos e2, if_pos (by omega)]
      · rw [if_neg e2, if_neg (by omega)]
theorem chW_set {f : Nat → Bk → Int} {l : List Bk} {k : Nat} {b : Bk} (h : l[k]? = some b) : chW f l (k + 1) = (chW f l k).set k ⟨b.nm, f k b⟩ := by simp only [chW, h]
theorem chW_at {f : Nat → Bk → Int} {l : List Bk} {k : Nat} {b : Bk} (h : l[k]? = some b) : (chW f l k)[k]? = some b := by
  rw [chW_get f l k k b h, if_neg (by omega)]
theorem chW_end (f : Nat → Bk → Int) (l : List Bk) : chW f l l.length = l.mapIdx fun i b => ⟨b.nm, f i b⟩ := by
  refine List.ext_getElem? fun i => ?_
  rw [List.getElem?_mapIdx]
  cases h : l[i]? with
  | none => rw [List.getElem?_eq_none (by rw [chW_len]; exact List.getElem?_eq_none_iff.1 h)]; rfl
  | some b => rw [chW_get f l _ i b h, if_pos (List.getElem?_eq_some_iff.1 h).1]; rfl
theorem bkC_wt {l : List Bk} {i : Nat} {b : Bk} (h : l[i]? = some b) (w : Int) : (bkC l).set (i * 2 + 1) (int w) = bkC (l.set i ⟨b.nm, w⟩) := by
  have h1 := bkC_set l i ⟨b.nm, w⟩ (List.getElem?_eq_some_iff.1 h).1
  have hl := bkC_len l
  have hi := (List.getElem?_eq_some_iff.1 h).1
  have h2 := bkC_read l i b h
  rw [← h1]
  have e : bkC l = (bkC l).take (i * 2) ++ ([str b.nm, int b.w] ++ (bkC l).drop (i * 2 + 2)) := by
    have : [str b.nm, int b.w] = ((bkC l).drop (i * 2)).take 2 := h2.symm
    rw [this, ← List.drop_drop, List.take_append_drop, List.take_append_drop]
  have hlt : ((bkC l).take (i * 2)).length = i * 2 := by simp; omega
  conv => lhs; rw [e]
  rw [List.set_append_right _ _ (by omega), hlt, show i * 2 + 1 - i * 2 = 1 by omega]
  simp
theorem bkC_nm {l : List Bk} {i : Nat} {b : Bk} (h : l[i]? = some b) : (bkC l)[i * 2]? = some (str b.nm) := bkC_name l i b h
theorem bkC_w {l : List Bk} {i : Nat} {b : Bk} (h : l[i]? = some b) : (bkC l)[i * 2 + 1]? = some (int b.w) := bkC_cell l i b h 1 (by decide)
end Go.Proofs.Ytpcakodemleoiaa.T

