import Derived.Test.YtjmmenfbcbagoaaVJ
import Derived.Test.YtjmmenfbcbagoaaTB
import Derived.Test.YtjmmenfbcbagoaaTTab
import Derived.Test.YtjmmenfbcbagoaaTN
import Derived.Shelf.SlicesE.Delete
import Derived.Test.YtjmmenfbcbagoaaMJA
set_option linter.all false
section
namespace Go.Proofs.Ytjmmenfbcbagoaa.T
open Go Go.RowKit
set_option linter.unusedSimpArgs false

theorem plainL_intsV (l : List Int) : plainL (l.map int) = true := by
  induction l with
  | nil => rfl
  | cons x r ih => simp [plainL, plainD, ih]
theorem plainL_rows (m : List (List Int)) : plainL (m.map ints) = true := by
  induction m with
  | nil => rfl
  | cons x r ih => simp [plainL, plainD, ih, plainL_intsV]
theorem isCell_rows (m : List (List Int)) : (m.map ints).all isCell = true := by
  induction m with
  | nil => rfl
  | cons x r ih => rw [List.map_cons, List.all_cons, ih]; rfl
theorem cloneRows (m : List (List Int)) (hl : m.length ≤ 1000000) : PFresh Try.prog 96 [mat m] 65 1 m.length (m.map ints) := by
  refine PFresh.intro (plainL_rows m) fun t => ACall.enter tab_ok Try.func96 rfl rfl Try.ntmps96 (by simp) ?_
  simp only [enterTM]
  ((refine wqa ?_))
  cases m with
  | nil =>
    ((repeat refine AW_seq ?_); (refine AW_region_k tab_ok fun KR hKR => ?_)); ((refine wra ?_))
    (refine awOps_nilk (by focus (simp (disch := omega) only [bb, bt, zDs, zD, eqCells, simprocAttr, isSlice, nilT]; done)) (by decide) (by focus (simp (disch := omega) only [bb, bt, zDs, zD, eqCells, simprocAttr, isSlice, nilT]; done)) fun KK hKK q => ?_; simp only [St.put, putTM, ↓reduceIte, Nat.reduceEqDiff]; refine hKK _ ?_; clear hKK KK)
    ((refine wea ?_); (try clear hKR KR))
    cases q
    · ((refine wia ?_))
      ((refine wsa ?_))
      ((repeat refine AW_seq ?_); (refine AW_region_k tab_ok fun KR hKR => ?_); (repeat ((first | refine awOps_n rfl fun KK hKK => ?_ | refine awOps_g rfl rfl fun KK hKK => ?_ | refine awOps_gc rfl fun KK hKK => ?_); simp (disch := omega) only [bb, bt, zDs, zD, eqCells, simprocAttr, isSlice]; refine hKK _ ?_; clear hKK KK)); (refine awOps_nil ?_); (refine hKR _ ?_); (try clear hKR KR); (repeat (with_reducible first | refine q1 ?_ | refine q2 ?_ | refine q3 ?_ | refine q4 ?_ | refine q5 ?_ | refine q6 ?_ | (refine q7 ?_ ?_; (focus (with_unfolding_all rfl))))))
      ((repeat refine AW_seq ?_); (refine wta ?_); simp (disch := omega) only [retQ, resD, oneD, rsv, rs, rsL, rsL_eq_map, List.map_map, bb, bt, zDs, zD, eqCells, simprocAttr, Try.results96])
      exact .inl ⟨1, by omega, rfl⟩
    · ((refine wia ?_))
      ((refine wqa ?_))
      ((repeat refine AW_seq ?_); (refine wta ?_); simp (disch := omega) only [retQ, resD, oneD, rsv, rs, rsL, rsL_eq_map, List.map_map, bb, bt, zDs, zD, eqCells, simprocAttr, Try.results96])
      exact .inl ⟨1, by omega, rfl⟩
  | cons x r =>
    simp only [List.length_cons] at hl
    ((refine wqa ?_))
    ((refine wia ?_))
    ((refine wsa ?_))
    ((repeat refine AW_seq ?_); (refine AW_region_k tab_ok fun KR hKR => ?_); (repeat ((first | refine awOps_n rfl fun KK hKK => ?_ | refine awOps_g rfl rfl fun KK hKK => ?_ | refine awOps_gc rfl fun KK hKK => ?_); simp (disch := omega) only [bb, bt, zDs, zD, eqCells, simprocAttr, isSlice, isCell_rows]; refine hKK _ ?_; clear hKK KK)); (refine awOps_nil ?_); (refine hKR _ ?_); (try clear hKR KR); (repeat (with_reducible first | refine q1 ?_ | refine q2 ?_ | refine q3 ?_ | refine q4 ?_ | refine q5 ?_ | refine q6 ?_ | (refine q7 ?_ ?_; (focus (with_unfolding_all rfl))))))
    ((repeat refine AW_seq ?_); (refine wta ?_); simp (disch := omega) only [retQ, resD, oneD, rsv, rs, rsL, rsL_eq_map, List.map_map, bb, bt, zDs, zD, eqCells, simprocAttr, Try.results96])
    exact .inr ⟨0, t + 1, rfl, rfl⟩
end Go.Proofs.Ytjmmenfbcbagoaa.T
end

section
namespace Go.Proofs.Ytjmmenfbcbagoaa.T
open Go Go.RowKit Go.Shelf Go.Sort
set_option linter.unusedSimpArgs false

/-! slices.Delete of one element, in the caller's block. -/
/-- A value, if it has one cell. -/
def encV (v : Value) : Value := if v.oneCell' = true then v else .int .i64 0
theorem encV_one : OneCell encV := fun v => by
  unfold encV
  split
  · assumption
  · rfl
theorem encV_of {v : Value} (h : v.oneCell' = true) : encV v = v := if_pos h
theorem putCells_encV (xs junk vs : List Value) (h : xs.length = vs.length) (hx : ∀ v ∈ xs, v.oneCell' = true) : putCells encV 0 xs.toArray (vs ++ junk).toArray = (xs ++ junk).toArray := by
  apply Array.ext_getElem?
  intro k
  simp only [putCells, Array.getElem?_mapIdx, List.getElem?_toArray, List.size_toArray, Nat.zero_le, true_and, Nat.zero_add, Nat.sub_zero]
  by_cases hk : k < xs.length
  · have h1 : (vs ++ junk)[k]? = some (vs[k]'(by omega)) := by rw [List.getElem?_append_left (by omega), List.getElem?_eq_getElem]
    have h2 : (xs ++ junk)[k]? = some (xs[k]) := by rw [List.getElem?_append_left hk, List.getElem?_eq_getElem]
    rw [h1, h2]
    simp only [Option.map_some, hk, if_true]
    have h3 : xs.toArray[k]! = xs[k] := by simp [hk]
    rw [h3, encV_of (hx _ (List.getElem_mem _))]
  · rw [List.getElem?_append_right (by omega), List.getElem?_append_right (by omega), h]
    cases junk[k - vs.length]? with
    | none => rfl
    | some y => simp [show ¬ k < vs.length by omega]
theorem erase_map {α β : Type} (f : α → β) : ∀ (l : List α) (k : Nat), (l.map f).eraseIdx k = (l.eraseIdx k).map f
  | [], k => by simp
  | x :: l, 0 => by simp
  | x :: l, k + 1 => by simp [erase_map f l k]
theorem RepL.erase {F : Mem} {G : Ghost} : ∀ {ds : List D} {us : List Value} (k : Nat), RepL F G ds us → RepL F G (ds.eraseIdx k) (us.eraseIdx k)
  | [], us, k, h => by simp only [RepL] at h; subst h; simp [RepL]
  | d :: ds, us, 0, h => by
    simp only [RepL] at h
    obtain ⟨u, us', rfl, h1, h2⟩ := h
    simpa using h2
  | d :: ds, us, k + 1, h => by
    simp only [RepL] at h
    obtain ⟨u, us', rfl, h1, h2⟩ := h
    simp only [List.eraseIdx_cons_succ, RepL]
    exact ⟨u, _, rfl, h1, h2.erase k⟩
/-- Values of one cell. -/
def cellD : D → Bool
  | .v x => x.oneCell'
  | .sl .. => true
  | _ => false
theorem cellD_one {F : Mem} {G : Ghost} {d : D} {u : Value} (h : cellD d = true) (hr : Rep F G d u) : u.oneCell' = true := by
  cases d with
  | v x => simp only [Rep] at hr; subst hr; exact h
  | sl sz cs full =>
    simp only [Rep] at hr
    obtain ⟨a, len, cap, rfl, _⟩ := hr
    rfl
  | _ => cases h
theorem cellD_all {F : Mem} {G : Ghost} : ∀ {ds : List D} {us : List Value}, ds.all cellD = true → RepL F G ds us → ∀ u ∈ us, u.oneCell' = true
  | [], us, _, h, u, hu => by simp only [RepL] at h; subst h; simp at hu
  | d :: ds, us, hc, h, u, hu => by
    simp only [RepL] at h
    obtain ⟨v, us', rfl, h1, h2⟩ := h
    simp only [List.all_cons, Bool.and_eq_true] at hc
    rcases List.mem_cons.1 hu with rfl | hu
    · exact cellD_one hc.1 h1
    · exact cellD_all hc.2 h2 u hu
theorem delete_run {P : Program} {ρ : Ren} (L : SlLaysE.n45 P ρ) (hcl : Callable P (ρ.f 45)) (zr : Value) (hzr : zr.oneCell' = true) (v23 : ∀ w, (zeroValue (ρ.t 23)).run P w = .ok zr w) (i0 : TypeInfo) (hi0 : P.info? (ρ.t 23) = some i0) (hz1 : i0.size = 1)
    {H : Hp} {t b n k : Nat} {bl : Blk} {K : D → Hp → Nat → Prop} (hb : H[b]? = some (some bl)) (hn : bl.cells.length = n) (hk : k < n) (one : bl.cells.all cellD = true)
    (hK : K (.own 1 b (t + 1) 0 (n - 1)) (setH H b ⟨bl.ty, t + 1, bl.cells.eraseIdx k⟩) (t + 1)) :
    ACall P (ρ.f 45) [.own 1 b bl.g 0 n, .v (.int .i64 k), .v (.int .i64 (k + 1))] H t K := by
  refine fun w0 F G w us R hL => .inl ⟨hcl, ?_⟩
  simp only [RepL] at hL
  obtain ⟨u0, _, rfl, hu, u1, _, rfl, hu1, u2, _, rfl, hu2, rfl⟩ := hL
  simp only [Rep] at hu1 hu2
  subst hu1
  subst hu2
  rcases R.own_some hu hb rfl with ⟨_, rfl, _⟩ | ⟨r, size, cap, vs, junk, hG, rfl, hcap, hmax, hsz, hr0, hh, hjl, hrep⟩
  · omega
  have hvl : vs.length = n := by rw [hrep.length]; exact hn
  have hvo := cellD_all one hrep
  have hfr : ∀ j, w.frozen? ⟨r, j, none⟩ = false := fun j => by simp [World.frozen?, hh]
  have hH : Sort.Holds encV w r 0 vs.toArray := fun j hj => by
    have hj' : j < vs.length := by simpa using hj
    refine ⟨?_, hfr _⟩
    have h3 : vs.toArray[j]! = vs[j] := by simp [hj']
    rw [h3, encV_of (hvo _ (List.getElem_mem _))]
    simp [World.cell?, hh, List.getElem?_append_left hj', hj']
  have hC := AnyE.slices_Delete L encV encV_one zr (by rw [encV_of hzr]; exact v23) i0 hi0 hz1 r 0 cap k (k + 1) vs.toArray w hH (by simp; omega) (by rw [maxLen_eq] at hmax; exact hmax) (Nat.le_succ k) (by simp; omega)
  simp only [List.size_toArray, hvl] at hC
  have e1 : k + 1 - k = 1 := by omega
  have hew : (vs.take k ++ vs.drop (k + 1) ++ List.replicate 1 zr) = vs.eraseIdx k ++ [zr] := by rw [List.eraseIdx_eq_take_drop_succ]; rfl
  rw [e1, hew] at hC
  refine Calls.mono (by simpa using hC) ?_
  rintro e w' ⟨rfl, q, rfl⟩
  have hel : (vs.eraseIdx k ++ [zr]).length = vs.length := by
    rw [List.length_append, List.length_eraseIdx_of_lt (by omega)]
    simp
    omega
  have heo : ∀ v ∈ vs.eraseIdx k ++ [zr], v.oneCell' = true := fun v hv => by
    rcases List.mem_append.1 hv with hv | hv
    · exact hvo v (List.mem_of_mem_eraseIdx hv)
    · rw [List.mem_singleton.1 hv]; exact hzr
  have hw' : ∀ j, (putRow encV (Sort.ahead w q) r 0 (vs.eraseIdx k ++ [zr]).toArray).heap[j]? = if j = r then some (.cells (vs.eraseIdx k ++ (zr :: junk)).toArray bl.ty (0, 0)) else w.heap[j]? := fun j => by
    show (w.heap.modify r _)[j]? = _
    rw [Array.getElem?_modify]
    by_cases e : r = j
    · subst e
      rw [if_pos rfl, if_pos rfl, hh]
      simp only [Option.map_some, onCells]
      rw [putCells_encV _ _ _ hel heo, List.append_assoc]
      rfl
    · rw [if_neg e, if_neg (Ne.symm e)]
  have hws : w.heap.size ≤ (putRow encV (Sort.ahead w q) r 0 (vs.eraseIdx k ++ [zr]).toArray).heap.size := by
    show w.heap.size ≤ (w.heap.modify r _).size
    rw [Array.size_modify]
    exact Nat.le_refl _
  obtain ⟨q0, hq0, hg0, hl0⟩ := R.own b bl hb
  rw [hG] at hq0
  cases hq0
  have hgt : bl.g ≤ t := R.top _ _ hG
  have hFr : ∀ o, F r o = none := hl0.2.1
  refine ⟨F, G.set b ⟨some (r, size), t + 1, false⟩, _, _, _, _, rfl, ⟨.refl _, fun _ _ _ => rfl, Ghost.le_set hG (.inr (by show bl.g < t + 1; omega)) _, by simp⟩, R.put (p' := ⟨some (r, size), t + 1, false⟩) (Nat.le_succ t) (Nat.le_refl _) (Nat.le_of_lt (List.getElem?_eq_some_iff.1 hb).1) hG (.inr (by show bl.g < t + 1; omega)) ⟨rfl, rfl, rfl, hws, fun j hj => ?_⟩ (.refl _) (fun c o x e => ?_) (fun i bi q' r' s' hi hbi hq hrs => ?_) ⟨rfl, ?_⟩, ?_, hK⟩
  · rw [hw', if_neg (by omega)]
  · have hlt := R.mem.lt e
    have hne : c ≠ r := fun e' => by subst e'; rw [hFr o] at e; cases e
    rw [World.cell?_of_block (w := w) (by rw [hw', if_neg hne])]
    exact R.mem c o x e
  · obtain ⟨q'', hq', hl⟩ := R.own i bi hbi
    rw [hq] at hq'; cases hq'
    have hne := R.inj i b bi bl q' _ r' s' r size hi hbi hb hq hG hrs rfl
    refine ⟨by rw [hw', if_neg hne], ?_, fun r'' s'' e => ?_⟩
    · obtain ⟨_, h⟩ := hl; rw [hrs] at h; exact h.2.1
    · cases e; exact hne
  · refine ⟨hr0, hFr, vs.eraseIdx k, zr :: junk, by rw [hw', if_pos rfl], ?_, RepL.mono (.refl _) (Ghost.le_set hG (.inr (by show bl.g < t + 1; omega)) _) _ _ (hrep.erase k)⟩
    rw [List.length_eraseIdx_of_lt (by omega), List.length_cons]
    omega
  · simp only [Rep]
    exact ⟨rfl, ⟨some (r, size), t + 1, false⟩, by rw [List.getElem?_set_self (List.getElem?_eq_some_iff.1 hG).1], Nat.le_refl _, fun _ => ⟨rfl, cap, rfl, by omega, hmax, by omega⟩⟩

/-! Its two instances. -/
def renRow : Ren where
  f := fun n => if n = 45 then 64 else n
  t := fun n => match n with
    | 0 => 0
    | 3 => 3
    | 4 => 4
    | 22 => 65
    | 23 => 3
    | n => n
  g := fun n => n
def renMat : Ren where
  f := fun n => if n = 45 then 95 else n
  t := fun n => match n with
    | 0 => 0
    | 3 => 3
    | 4 => 4
    | 22 => 56
    | 23 => 65
    | n => n
  g := fun n => n
theorem layRow : SlLaysE.n45 Try.prog renRow where
  mixed := by kernel_rfl
  f45 := ⟨Try.f64.name, by decide +kernel, Try.func64.trans (congrArg some (by kernel_rfl))⟩
  t0 := Try.underlying0
  a0 := Try.isAgg0
  z0 := Try.sizeOf0
  v0 := Try.zeroValue0
  t3 := Try.underlying3
  a3 := Try.isAgg3
  z3 := Try.sizeOf3
  v3 := Try.zeroValue3
  t4 := Try.underlying4
  a4 := Try.isAgg4
  z4 := Try.sizeOf4
  v4 := Try.zeroValue4
  t22 := Try.underlying65
  a22 := Try.isAgg65
  z22 := Try.sizeOf65
  v22 := Try.zeroValue65
  a23 := Try.isAgg3
  z23 := Try.sizeOf3
theorem layMat : SlLaysE.n45 Try.prog renMat where
  mixed := by kernel_rfl
  f45 := ⟨Try.f95.name, by decide +kernel, Try.func95.trans (congrArg some (by kernel_rfl))⟩
  t0 := Try.underlying0
  a0 := Try.isAgg0
  z0 := Try.sizeOf0
  v0 := Try.zeroValue0
  t3 := Try.underlying3
  a3 := Try.isAgg3
  z3 := Try.sizeOf3
  v3 := Try.zeroValue3
  t4 := Try.underlying4
  a4 := Try.isAgg4
  z4 := Try.sizeOf4
  v4 := Try.zeroValue4
  t22 := Try.underlying56
  a22 := Try.isAgg56
  z22 := Try.sizeOf56
  v22 := Try.zeroValue56
  a23 := Try.isAgg65
  z23 := Try.sizeOf65
theorem delete_row {H : Hp} {t b n k : Nat} {bl : Blk} {l : List Int} {K : D → Hp → Nat → Prop} (hb : H[b]? = some (some bl)) (hc : bl.cells = l.map int) (hn : l.length = n) (hk : k < n)
    (hK : K (.own 1 b (t + 1) 0 (n - 1)) (setH H b ⟨bl.ty, t + 1, (l.eraseIdx k).map int⟩) (t + 1)) :
    ACall Try.prog 64 [.own 1 b bl.g 0 n, .v (.int .i64 k), .v (.int .i64 (k + 1))] H t K := by
  have hcl : Callable Try.prog (renRow.f 45) := ⟨_, Try.func64, rfl, by decide⟩
  refine delete_run (ρ := renRow) layRow hcl (.int .i64 0) rfl Try.zeroValue3 Try.t3 (by kernel_rfl) rfl hb (by rw [hc]; simpa using hn) hk (by rw [hc]; simp [List.all_map, cellD, Value.oneCell', int]) ?_
  rw [hc]
  rwa [erase_map]
theorem delete_mat {H : Hp} {t b n k : Nat} {bl : Blk} {l : List (List Int)} {K : D → Hp → Nat → Prop} (hb : H[b]? = some (some bl)) (hc : bl.cells = l.map ints) (hn : l.length = n) (hk : k < n)
    (hK : K (.own 1 b (t + 1) 0 (n - 1)) (setH H b ⟨bl.ty, t + 1, (l.eraseIdx k).map ints⟩) (t + 1)) :
    ACall Try.prog 95 [.own 1 b bl.g 0 n, .v (.int .i64 k), .v (.int .i64 (k + 1))] H t K := by
  have hcl : Callable Try.prog (renMat.f 45) := ⟨_, Try.func95, rfl, by decide⟩
  refine delete_run (ρ := renMat) layMat hcl (.slice none 0 0) rfl Try.zeroValue65 Try.t65 (by kernel_rfl) rfl hb (by rw [hc]; simpa using hn) hk (by rw [hc]; simp [List.all_map, cellD, ints]) ?_
  rw [hc]
  rwa [erase_map]
end Go.Proofs.Ytjmmenfbcbagoaa.T
end

section
namespace Go.Proofs.Ytjmmenfbcbagoaa.T
open Go Go.RowKit Lin
set_option linter.unusedSimpArgs false

/-! Chapter 16: the fixed ropes. -/
def fixB (rs : List Rp) (but : Int) (i : Nat) : Bool := (match rs[i]? with | some r => !r.hl | none => false) && !((i : Int) == but)
def fixP (rs : List Rp) (but : Int) (k : Nat) : List Nat := (List.range k).filter (fixB rs but)
theorem fixP_step {rs : List Rp} {but : Int} {k : Nat} {r : Rp} (hr : rs[k]? = some r) : fixP rs but (k + 1) = if (!r.hl && !((k : Int) == but)) = true then fixP rs but k ++ [k] else fixP rs but k := by
  unfold fixP
  rw [List.range_succ, List.filter_append]
  have h : fixB rs but k = (!r.hl && !((k : Int) == but)) := by simp [fixB, hr]
  by_cases e : (!r.hl && !((k : Int) == but)) = true
  · rw [if_pos e, List.filter_cons_of_pos (by rw [h]; exact e)]; rfl
  · rw [if_neg e, List.filter_cons_of_neg (by rw [h]; exact e)]; simp
theorem fixP_mem {rs : List Rp} {but : Int} {k i : Nat} : i ∈ fixP rs but k ↔ i < k ∧ fixB rs but i = true := by simp [fixP]
theorem fixP_len (rs : List Rp) (but : Int) (k : Nat) : (fixP rs but k).length ≤ k := by
  have := List.length_filter_le (fixB rs but) (List.range k)
  simpa [fixP] using this
def nums (l : List Nat) : List Int := l.map fun i : Nat => (i : Int)
theorem nums_len (l : List Nat) : (nums l).length = l.length := by simp [nums]
def rowsF (s : Sy) (l : List Nat) : List (List Int) := l.map fun i => (trS s).getD i []
theorem rowsF_len (s : Sy) (l : List Nat) : (rowsF s l).length = l.length := by simp [rowsF]
def fixA (s : Sy) : List Nat := fixP s.rs (-1) s.rs.length
theorem trS_at (s : Sy) {i : Nat} (h : i < s.rs.length) : (trS s)[i]? = some (colP (matS s) i) := by
  unfold trS turnP
  rw [List.getElem?_map, List.getElem?_range h]
  rfl
theorem trS_getD (s : Sy) {i : Nat} (h : i < s.rs.length) : (trS s).getD i [] = colP (matS s) i := by rw [List.getD_eq_getElem?_getD, trS_at s h]; rfl
theorem plain_rp1 (r : Rp) : plainL (rp1 r) = true := by
  simp only [rp1, plainL, plainD, Bool.true_and, Bool.and_true, plain_hd]
set_option maxHeartbeats 4000000 in
theorem of_prog (s : Sy) (hf : Fits s) : PRet Try.prog 58 [syD s] (.tup (if validS s = true then [.agg [ints (nums (fixA s)), mat (rowsF s (fixA s))], int 0] else [.agg [ints [], mat []], int 1])) := by
  refine PRet.intro 1 fun t => ACall.enter tab_ok Try.func58 rfl rfl Try.ntmps58 (by simp) ?_
  simp only [enterTM]
  have hM := matrix_prog s hf
  have hdr := rpC_div s.rs
  cases hv : validS s
  · rw [hv] at hM
    simp only [Bool.false_eq_true, if_false] at hM
    ((refine gga1 hM ?_))
    ((repeat refine AW_seq ?_); (refine wta ?_); simp (disch := omega) only [retQ, resD, oneD, rsv, rs, rsL, rsL_eq_map, List.map_map, bb, bt, zDs, zD, eqCells, simprocAttr, Try.results58, Bool.false_eq_true, if_false])
    rfl
  rw [hv] at hM
  simp only [if_true] at hM ⊢
  have ok := validS_ok hv
  have hrow := ok.rows
  have hr6 := ok.r6
  have hb6 := ok.b6
  have ml := ok.mat_len
  have mw := ok.mat_wid
  have hz0 : fixP s.rs (-1) 0 = [] := rfl
  have hcol : ∀ i, i < s.rs.length → (trS s).getD i [] = colP (matS s) i := fun i h => trS_getD s h
  unfold fixA
  generalize hm : matS s = m at *
  ((refine ggb1 hdr hM ?_))
  refine AW.begin_cell 2 0 1 3 rfl rfl (by decide) ?_
  simp only [List.set_cons_succ, List.set_cons_zero, List.length_cons, List.length_nil, List.cons_append, List.nil_append, Nat.zero_add, Nat.reduceAdd]
  refine AW.begin_cell 2 1 1 65 rfl rfl (by decide) ?_
  simp only [List.set_cons_succ, List.set_cons_zero, List.length_cons, List.length_nil, List.cons_append, List.nil_append, Nat.zero_add, Nat.reduceAdd]
  refine AW_mid (fun x : Nat × Nat × Nat => ⟨[(2, .ptr 1 (t + 1 + 1) 0), (6, .ptr 2 (t + 1 + 1 + 1) 0)], [none, some ⟨102, t + 1 + 1, [.sl 1 [] true, .sl 1 [] true]⟩, some ⟨102, t + 1 + 1 + 1, [.own 1 3 x.1 0 (fixP s.rs (-1) s.rs.length).length, .own 1 4 x.2.1 0 (fixP s.rs (-1) s.rs.length).length]⟩, some ⟨3, x.1, (nums (fixP s.rs (-1) s.rs.length)).map int⟩, some ⟨65, x.2.1, (rowsF s (fixP s.rs (-1) s.rs.length)).map ints⟩], x.2.2⟩) (fun _ => True) ?_ ?_
  · refine AW_block ?_
    refine AW_loop_w (fun x : Nat × Nat × Nat × Nat => ⟨[(1, .ptr 0 (t + 1) 0), (2, .ptr 1 (t + 1 + 1) 0), (4, mat m), (6, .ptr 2 (t + 1 + 1 + 1) 0), (22, rps s.rs), (23, int s.rs.length), (24, int x.1)], [some ⟨25, t + 1, [bks s.bs, rps s.rs]⟩, some ⟨102, t + 1 + 1, [.sl 1 [] true, .sl 1 [] true]⟩, some ⟨102, t + 1 + 1 + 1, [.own 1 3 x.2.1 0 (fixP s.rs (-1) x.1).length, .own 1 4 x.2.2.1 0 (fixP s.rs (-1) x.1).length]⟩, some ⟨3, x.2.1, (nums (fixP s.rs (-1) x.1)).map int⟩, some ⟨65, x.2.2.1, (rowsF s (fixP s.rs (-1) x.1)).map ints⟩], x.2.2.2⟩) (fun x => s.rs.length - x.1) (fun x => x.1 ≤ s.rs.length) (0, t + 1 + 1 + 1 + 1, t + 1 + 1 + 1 + 1 + 1, t + 1 + 1 + 1 + 1 + 1) (Nat.zero_le _) (by (simp (disch := omega) only [StLe, tmLe, hpLe_refl, hpLe, bl, bb, bt, zDs, zD, eqCells, simprocAttr, hz0, nums, rowsF, List.map_nil, List.length_nil])) ?_
    rintro ⟨k, g1, g2, tt⟩ hk
    simp only at hk
    by_cases hlt : k < s.rs.length
    · obtain ⟨r, hr⟩ : ∃ y, s.rs[k]? = some y := ⟨_, List.getElem?_eq_getElem hlt⟩
      have hra := rpC_read s.rs k r hr
      have hst := fixP_step (but := -1) hr
      have hfl := fixP_len s.rs (-1) k
      have hnl := nums_len (fixP s.rs (-1) k)
      have hrl := rowsF_len s (fixP s.rs (-1) k)
      generalize fixP s.rs (-1) k = L at *
      ((refine ggb0 (F := _∧_∧_) ⟨@Int.ofNat_lt, hlt, hdr⟩ ?_))
      ((repeat refine AW_seq ?_))
      refine AW_block ?_
      cases hh : r.hl
      · have hk1 : (!((k : Int) == -1)) = true := by simp
        rw [hh, Bool.not_false, Bool.true_and, if_pos hk1] at hst
        ((refine ggb0 (F := _∧_∧_∧_) ⟨hlt, hdr, hra, hh⟩ ?_))
        refine AW.begin 9 1 3 rfl (by decide) ?_
        simp only [putTM, List.length_cons, List.length_nil, Nat.reduceEqDiff, ↓reduceIte, List.cons_append, List.nil_append]
        refine AW_block ?_
        refine AW_loop_w (fun x : Nat × Nat × Nat => ⟨[(1, .ptr 0 (t + 1) 0), (2, .ptr 1 (t + 1 + 1) 0), (4, mat m), (6, .ptr 2 (t + 1 + 1 + 1) 0), (7, int k), (9, .own 1 6 x.2.1 0 x.1), (22, rps s.rs), (23, int s.rs.length), (24, int k), (31, mat m), (32, int m.length), (33, int x.1)], [some ⟨25, t + 1, [bks s.bs, rps s.rs]⟩, some ⟨102, t + 1 + 1, [.sl 1 [] true, .sl 1 [] true]⟩, some ⟨102, t + 1 + 1 + 1, [.own 1 3 g1 0 L.length, .own 1 4 g2 0 L.length]⟩, some ⟨3, g1, (nums L).map int⟩, some ⟨65, g2, (rowsF s L).map ints⟩, none, some ⟨3, x.2.1, (colP (m.take x.1) k).map int⟩], x.2.2⟩) (fun x => m.length - x.1) (fun x => x.1 ≤ m.length) (0, tt + 1 + 1, tt + 1 + 1) (Nat.zero_le _) (by (simp (disch := omega) only [StLe, tmLe, hpLe_refl, hpLe, bl, bb, bt, zDs, zD, eqCells, simprocAttr, colP])) ?_
        rintro ⟨j, g, t2⟩ hj
        simp only at hj
        by_cases hlj : j < m.length
        · obtain ⟨q, hq⟩ : ∃ y, m[j]? = some y := ⟨_, List.getElem?_eq_getElem hlj⟩
          have hql := (hrow q (List.mem_of_getElem? hq)).1
          have hkr : k < q.length := by omega
          obtain ⟨v, hv⟩ : ∃ y, q[k]? = some y := ⟨_, List.getElem?_eq_getElem hkr⟩
          have hct := colP_take hq hv
          have hcl : (colP (m.take j) k).length = j := by simp [colP]; omega
          ((refine ggb0 (F := _∧_) ⟨@Int.ofNat_lt, hlj⟩ ?_))
          ((repeat refine AW_seq ?_))
          refine AW_block ?_
          ((refine ggb0 (F := _∧_∧_∧_∧_) ⟨hlj, hq, hkr, hv, hcl⟩ ?_))
          refine ⟨(j + 1, t2 + 1, t2 + 1), hlj, by show m.length - (j + 1) < m.length - j; omega, ?_⟩
          simp only [hct, List.map_append, List.map_cons, List.map_nil]
          (simp (disch := omega) only [StLe, tmLe, hpLe_refl, hpLe, bl, bb, bt, zDs, zD, eqCells, simprocAttr])
        · have hje : j = m.length := by omega
          subst hje
          rw [List.take_length]
          have hcl : (colP m k).length = m.length := by simp [colP]
          have hfin : List.take m.length ((colP m k).map int) = (colP m k).map int := List.take_of_length_le (by simp [hcl])
          have hro : rowsF s (L ++ [k]) = rowsF s L ++ [colP m k] := by unfold rowsF; rw [List.map_append, List.map_cons, List.map_nil, hcol k hlt]
          have hnu : nums (L ++ [k]) = nums L ++ [(k : Int)] := by simp [nums]
          ((refine wqb @Int.lt_irrefl ?_))
          ((refine wia ?_))
          ((refine wxa ?_))
          ((refine AW.freeze (6) (by first | rfl | (simp only [setH, List.getElem?_cons_zero, List.getElem?_cons_succ, fzL_ints, fzL_mat, fz_bk, fz_rp, hcl, hfin, List.length_map, Nat.le_refl]; done)) ?_); simp (disch := omega) only [fzT, fz, fzL, fzL_ints, fzL_mat, fzH, fzB, eq_self, bb, bt, zDs, zD, eqCells, simprocAttr, fzL_ints, fzL_mat, fz_bk, fz_rp, hcl, hfin, List.length_map, Nat.le_refl])
          ((refine ggb0 (F := _∧_) ⟨hnl, hrl⟩ ?_))
          refine ⟨(k + 1, t2 + 1, t2 + 1 + 1, t2 + 1 + 1), hlt, by show s.rs.length - (k + 1) < s.rs.length - k; omega, ?_⟩
          simp only [hst, hro, hnu, List.length_append, List.length_cons, List.length_nil, List.map_append, List.map_cons, List.map_nil]
          (simp (disch := omega) only [StLe, tmLe, hpLe_refl, hpLe, bl, bb, bt, zDs, zD, eqCells, simprocAttr])
      · rw [hh, Bool.not_true, Bool.false_and, if_neg (by simp)] at hst
        ((refine ggb0 (F := _∧_∧_∧_) ⟨hlt, hdr, hra, hh⟩ ?_))
        refine ⟨(k + 1, g1, g2, tt + 1), hlt, by show s.rs.length - (k + 1) < s.rs.length - k; omega, ?_⟩
        simp only [hst]
        (simp (disch := omega) only [StLe, tmLe, hpLe_refl, hpLe, bl, bb, bt, zDs, zD, eqCells, simprocAttr])
    · have hke : k = s.rs.length := by omega
      subst hke
      ((refine wqb (F := _∧_) ⟨@Int.lt_irrefl, hdr⟩ ?_))
      ((refine wia ?_))
      ((refine wxa ?_))
      exact ⟨(g1, g2, tt), trivial, by (simp (disch := omega) only [StLe, tmLe, hpLe_refl, hpLe, bl, bb, bt, zDs, zD, eqCells, simprocAttr])⟩
  rintro ⟨g1, g2, tt⟩ -
  have hnl := nums_len (fixP s.rs (-1) s.rs.length)
  have hrl := rowsF_len s (fixP s.rs (-1) s.rs.length)
  generalize fixP s.rs (-1) s.rs.length = L at *
  have hfin1 : List.take L.length ((nums L).map int) = (nums L).map int := List.take_of_length_le (by simp [nums])
  have hfin2 : List.take L.length ((rowsF s L).map ints) = (rowsF s L).map ints := List.take_of_length_le (by simp [rowsF])
  ((refine AW.freeze (3) (by first | rfl | (simp only [setH, List.getElem?_cons_zero, List.getElem?_cons_succ, fzL_ints, fzL_mat, hfin1, hnl, List.length_map, Nat.le_refl]; done)) ?_); simp (disch := omega) only [fzT, fz, fzL, fzL_ints, fzL_mat, fzH, fzB, eq_self, bb, bt, zDs, zD, eqCells, simprocAttr, fzL_ints, fzL_mat, hfin1, hnl, List.length_map, Nat.le_refl])
  ((refine AW.freeze (4) (by first | rfl | (simp only [setH, List.getElem?_cons_zero, List.getElem?_cons_succ, fzL_ints, fzL_mat, hfin2, hrl, List.length_map, Nat.le_refl]; done)) ?_); simp (disch := omega) only [fzT, fz, fzL, fzL_ints, fzL_mat, fzH, fzB, eq_self, bb, bt, zDs, zD, eqCells, simprocAttr, fzL_ints, fzL_mat, hfin2, hrl, List.length_map, Nat.le_refl])
  ((refine gga0 ?_))
  ((repeat refine AW_seq ?_); (refine wta ?_); simp (disch := omega) only [retQ, resD, oneD, bb, bt, zDs, zD, eqCells, simprocAttr, Try.results58])
  refine rsv_tidy _ _ ?_
  have := tidy_mat (rowsF s L)
  simp only [tidyD, tidyL, tidy_ints, Bool.not_false, Bool.and_true, Bool.true_and] at this ⊢
  exact this
theorem rank_mob (m : List (List Int)) (hm : m.length ≤ 1000000) (hl : ∀ r ∈ m, r.length ≤ 1000000) (hv : m ≠ [] → validP m = true) : PRet Try.prog 59 [mat m] (int (rankP m (wid m))) := by
  refine PRet.intro 1 fun t => ACall.enter tab_ok Try.func59 rfl rfl Try.ntmps59 (by simp) ?_
  simp only [enterTM]
  have hR := rank m hm hl
  by_cases h0 : m = []
  · subst h0
    have e : rankP [] (wid []) = 0 := by decide
    ((refine gga0 ?_))
    ((repeat refine AW_seq ?_); (refine wta ?_); simp (disch := omega) only [retQ, resD, oneD, rsv, rs, rsL, rsL_eq_map, List.map_map, bb, bt, zDs, zD, eqCells, simprocAttr, Try.results59, e])
  rw [hv h0] at hR
  simp only [if_true] at hR
  have hb : ((m.length : Int) == 0) = false := by
    have : m.length ≠ 0 := fun e => h0 (List.eq_nil_of_length_eq_zero e)
    simp; omega
  ((refine ggb1 hb hR ?_))
  ((repeat refine AW_seq ?_); (refine wta ?_); simp (disch := omega) only [retQ, resD, oneD, rsv, rs, rsL, rsL_eq_map, List.map_map, bb, bt, zDs, zD, eqCells, simprocAttr, Try.results59])
end Go.Proofs.Ytjmmenfbcbagoaa.T
end
