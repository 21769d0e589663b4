import Derived.Test.YtpbpafmgkdihlaaGreatDoorQASOTL
import Derived.Lib.AppendStr
import Derived.Lib.Builder
import Derived.Laws.Pointers
import Derived.Test.YtpbpafmgkdihlaaGreatDoorQVJAVP
import Derived.Test.YtpbpafmgkdihlaaGreatDoorQWE
import Derived.Test.YtpbpafmgkdihlaaGreatDoorQWJK
set_option linter.all false
namespace Go.Proofs.YtpbpafmgkdihlaaGreatDoor.T
open Go Go.RowKit
def strD (s : ByteArray) : List D := s.data.toList.map fun b => .v (.int .u8 b.toNat)
theorem Y78 (s : ByteArray) : (strD s).length = s.size := by simp only [strD, List.length_map, Array.length_toList]; rfl
theorem Yj9 (F : Mem) (G : Ghost) (s : ByteArray) : RepL F G (strD s) (Lib.strCells s) := by
 have : strD s = (Lib.strCells s).map .v := by simp [strD, Lib.strCells]
 rw [this]
 exact Y86 F G _
section
variable {P : Program} {w0 : World} {F : Mem} {G : Ghost} {H : Hp} {tk : Nat} {w : World}
theorem Yxx (R : Rel w0 F G H tk w) {t u et ty : TypeId} {i e : TI} (ok : TI.Ok P t i) (hd : i.kind = .slice et) (oe : TI.Ok P et e) (h1 : e.sz = 1) (hby1 : e.bytes = 1) (hag : e.agg = false) (hz8 : e.zv = [.int .u8 0]) (hstr : P.underlying u = some .string) {b n : Nat} {x : Value} {bl : Blk} {s : ByteArray}
    (hb : H[b]? = some (some bl)) (hs : Rep F G (.own 1 b bl.g 0 n) x) (hn : n = bl.cells.length) (hty : bl.ty = et) (hne : 0 < s.size) (hlen : n + s.size ≤ 140737488355328) :
    ∃ v' w' p', (Builtin.append_ #[t, u] ty #[x, .string s]).run P w = .ok v' w' ∧ Ghost.le G.length G (G.set b p') ∧ Rel w0 F (G.set b p') (setH H b ⟨et, tk + 1, bl.cells ++ strD s⟩) (tk + 1) w' ∧ Rep F (G.set b p') (.own 1 b (tk + 1) 0 (n + s.size)) v' := by
  obtain ⟨info, z, hi, hsi, hby, hz, hzv⟩ := oe.info
  obtain ⟨hu, _⟩ := ok.slice hd
  rw [h1] at hsi
  rw [hby1] at hby
  have hz0 : z = .int .u8 0 := by
    obtain ⟨info', z', hi', hz', e1⟩ := oe.zero1 hag
    rw [hi] at hi'; cases hi'
    rw [hz] at hz'; cases hz'
    rw [hz8] at e1
    simpa using e1.symm
  subst hz0
  have hsl : (Lib.strCells s).length = s.size := Lib.strCells_length s
  have R2 : Rel w0 F G H (tk + 1) w := R.more (Nat.le_succ tk)
  have hbH : b ≤ H.length := Nat.le_of_lt (List.getElem?_eq_some_iff.1 hb).1
  have grow : ∀ (old : Nat) (xs : List Value) (p : Pl), G[b]? = some p → p.g < tk + 1 → xs.length = n → RepL F G bl.cells xs → ∃ p', Ghost.le G.length G (G.set b p') ∧
      Rel w0 F (G.set b p') (setH H b ⟨et, tk + 1, bl.cells ++ strD s⟩) (tk + 1) (w.drew.alloc (.cells (xs.toArray ++ (Lib.strCells s).toArray ++ Builtin.zeroCells (Value.int .u8 0).cells (grownCap w (n + s.size) old et - (n + s.size))) et)) ∧
      Rep F (G.set b p') (.own 1 b (tk + 1) 0 (n + s.size)) (.slice (some ⟨w.heap.size, 0, none⟩) (n + s.size) (grownCap w (n + s.size) old et)) := fun old xs p hp hlt hxl hL => by
    have hge := grownCap_ge w (n + s.size) old et
    have hgm := grownCap_le_maxLen w (n + s.size) old et (by rw [Y7m]; omega)
    have hown : (w.drew.alloc (.cells (xs.toArray ++ (Lib.strCells s).toArray ++ Builtin.zeroCells (Value.int .u8 0).cells (grownCap w (n + s.size) old et - (n + s.size))) et)).ownsRow w0.heap.size et 1 (.slice (some ⟨w.heap.size, 0, none⟩) (n + s.size) (grownCap w (n + s.size) old et)) (n + s.size) (xs ++ Lib.strCells s) := by
      refine ⟨by rw [List.length_append, hxl, hsl, Nat.mul_one], .inr ⟨w.heap.size, _, _, rfl, R.below.size, heap_alloc_new w.drew _, hge, hgm, ?_, ?_⟩⟩
      · have hz1 : (Value.int IntKind.u8 0).cells.size = 1 := rfl
        simp only [Array.size_append, List.size_toArray, size_zeroCells, hz1, hxl, hsl, Nat.mul_one]
        omega
      · simp only [Array.toList_append, List.append_assoc]
        rw [← List.append_assoc]
        have : (n + s.size) * 1 = (xs ++ Lib.strCells s).length := by rw [List.length_append, hxl, hsl, Nat.mul_one]
        rw [this]
        exact List.take_left
    obtain ⟨⟨k1, _⟩, k2, k3⟩ := Y6u (cs := bl.cells ++ strD s) R2 hbH hp (Nat.le_refl _) hlt (by omega : 0 < 1) hown (by omega) (row := none) ⟨rfl, rfl, rfl, by simp, fun k hk _ => heap_alloc_old w.drew _ hk⟩ (.inr rfl) (.inl rfl) (hL.append (Yj9 F G s))
    exact ⟨_, k1, k2, k3⟩
  rcases R.own_some hs hb rfl with ⟨⟨a, rfl⟩, h0, _, hc0, hG⟩ | ⟨r, size, cap, vs, junk, hG, rfl, hcap, hcm, hsz, hbr, hh, hlv, hL⟩
  · have hlt : (⟨none, bl.g, false⟩ : Pl).g < tk + 1 := Nat.lt_succ_of_le (R.top _ _ hG)
    obtain ⟨p', k1, k2, k3⟩ := grow 0 [] _ hG hlt (by simp [h0]) (by rw [hc0]; simp [RepL])
    subst h0
    cases a with
    | none =>
      have hr := run_append_nil_string (P := P) w t u ty et info (.int .u8 0) hu hstr hi hz s (by omega) (by omega) (by rw [hby]; omega)
      have e1 : (s.data.map fun b => Value.int .u8 b.toNat) = (Lib.strCells s).toArray := by
        apply Array.ext'
        simp [Lib.strCells]
      simp only [Nat.zero_add, Array.empty_append] at k2 k3 ⊢
      rw [e1] at hr
      exact ⟨_, _, p', hr, k1, k2, k3⟩
    | some ad =>
      have hr := Lib.run_append_grow_string (P := P) w t u ty et info (.int .u8 0) hu hstr hi hz ad 0 0 [] (by simp) (fun j y hy => by simp at hy) s (by omega) (by omega) (by rw [hby]; exact growslice_fits (by omega) (by omega))
      exact ⟨_, _, p', hr, k1, k2, k3⟩
  · have hlt : (⟨some (r, size), bl.g, false⟩ : Pl).g < tk + 1 := Nat.lt_succ_of_le (R.top _ _ hG)
    have hvl : vs.length = n := by rw [hL.length, hn]
    by_cases hroom : n + s.size ≤ cap
    · have hr := Lib.run_append_room_string (P := P) w t u ty et info hu hstr hi hsi r n cap (vs ++ junk).toArray (by rw [← hty]; exact hh) s hroom (by simp; omega)
      obtain ⟨q, hq, hl⟩ := R.own b bl hb
      rw [hG] at hq; cases hq
      obtain ⟨_, hl⟩ := hl
      simp only at hl
      obtain ⟨_, hFr, _⟩ := hl
      have hle := Ghost.le_set (p' := ⟨some (r, size), tk + 1, false⟩) hG (.inr hlt) G.length
      have hrow : (vs ++ junk).toArray.toList.take n ++ Lib.strCells s ++ (vs ++ junk).toArray.toList.drop (n + s.size) = (vs ++ Lib.strCells s) ++ junk.drop s.size := by
        simp only [← hvl]
        rw [List.take_left, ← List.drop_drop, List.drop_left]
      rw [hrow] at hr
      refine ⟨_, _, ⟨some (r, size), tk + 1, false⟩, hr, hle, ?_, ?_⟩
      · refine R.put (Nat.le_succ tk) (Nat.le_refl _) hbH hG (.inr hlt) ⟨rfl, rfl, rfl, by simp, fun k hk => setRow_other w r k _ (by omega)⟩ (.refl _) (fun c o y e => ?_) (fun i bi q r' s' hi hbi hq hrs => ?_) ⟨rfl, ?_⟩
        · have hne : c ≠ r := fun e' => by subst e'; rw [hFr o] at e; cases e
          rw [World.cell?_of_block (w := w) (setRow_other w r c _ hne)]
          exact R.mem c o y e
        · have hne := R.inj i b bi bl q _ r' s' r size hi hbi hb hq hG hrs rfl
          obtain ⟨q', hq', hl⟩ := R.own i bi hbi
          rw [hq] at hq'; cases hq'
          refine ⟨setRow_other w r r' _ hne, ?_, fun r'' s'' e => by cases e; exact hne⟩
          obtain ⟨_, h⟩ := hl; rw [hrs] at h; exact h.2.1
        · refine ⟨hbr, hFr, vs ++ Lib.strCells s, junk.drop s.size, ?_, ?_, RepL.mono (.refl _) (Ghost.le_set hG (.inr hlt) _) _ _ (hL.append (Yj9 F G s))⟩
          · exact setRow_heap w r _ _ _ _ (by rw [← hty]; exact hh)
          · simp only [List.length_append, List.length_drop, hsl]; omega
      · simp only [Rep]
        refine ⟨rfl, _, by rw [List.getElem?_set_self (List.getElem?_eq_some_iff.1 hG).1], Nat.le_refl _, fun _ => ?_⟩
        exact ⟨rfl, cap, rfl, by omega, hcm, hsz⟩
    · obtain ⟨p', k1, k2, k3⟩ := grow cap vs _ hG hlt hvl hL
      have hr := Lib.run_append_grow_string (P := P) w t u ty et info (.int .u8 0) hu hstr hi hz ⟨r, 0, none⟩ n cap vs (by rw [hvl, hsi, Nat.mul_one]) (fun j y hy => by
        rw [Y2e, cell_of_row w r (0 + j) _ _ _ hh, Nat.zero_add]
        have hlt' : j < vs.length := (List.getElem?_eq_some_iff.1 hy).1
        simp only [List.getElem?_toArray]
        rw [List.getElem?_append_left hlt']
        exact hy) s (by omega) (by omega) (by rw [hby]; exact growslice_fits (by omega) (by omega))
      exact ⟨_, _, p', hr, k1, k2, k3⟩
theorem Rel.ptr_some (R : Rel w0 F G H tk w) {b o : Nat} {u : Value} {bl : Blk} (hx : Rep F G (.ptr b bl.g o) u) (hb : H[b]? = some (some bl)) :
    ∃ r size vs junk, G[b]? = some ⟨some (r, size), bl.g, false⟩ ∧ u = .pointer (some ⟨r, o, none⟩) ∧ w0.heap.size ≤ r ∧ w.heap[r]? = some (.cells (vs ++ junk).toArray bl.ty (0, 0)) ∧ RepL F G bl.cells vs := by
  simp only [Rep] at hx
  obtain ⟨_, p, hp, hle, hx⟩ := hx
  obtain ⟨p', hp', hl⟩ := R.own b bl hb
  rw [hp] at hp'; cases hp'
  obtain ⟨hg', hl⟩ := hl
  obtain ⟨hpm, hx⟩ := hx hg'
  cases hr : p.r with
  | none => rw [hr] at hx; exact hx.elim
  | some rs =>
    obtain ⟨r, s⟩ := rs
    rw [hr] at hx hl
    rw [hpm] at hl
    obtain ⟨k1, k2, vs, junk, k3, k4, k5⟩ := hl
    exact ⟨r, s, vs, junk, by rw [hp, ← hg', ← hr, ← hpm], hx, k1, k3, k5⟩
end
section
variable {P : Program} {tab : Tab} {n : Nat} {all : List Oper} {K : St → Prop} {rest : List Oper} {st : St} {dst : Option Tmp} {ty : TypeId} {pos : String} {aft : Array Edge}
theorem Yri (hT : Tab.Ok P tab) {s x : Operand} {t u et : TypeId} {i e iu : TI} {b m : Nat} {bl : Blk} {str : ByteArray}
    (hk : dst.getD 0 < n) (ht : tab t = some i) (hd : i.kind = .slice et) (he : tab et = some e) (h1 : e.sz = 1) (hby1 : e.bytes = 1) (hag : e.agg = false) (hz8 : e.zv = [.int .u8 0]) (hu : tab u = some iu) (hku : iu.kind = .str)
    (hs : Y1t tab st.tm t s = .own 1 b bl.g 0 m) (hb : st.H[b]? = some (some bl)) (hx : Y1t tab st.tm u x = .v (.string str)) (hm : m = bl.cells.length) (hty : bl.ty = et) (hne : 0 < str.size) (hlen : m + str.size ≤ 140737488355328)
    (h : Y16 P tab n all K rest (St.put ⟨st.tm, setH st.H b ⟨et, st.t + 1, bl.cells ++ strD str⟩, st.t + 1⟩ dst (.own 1 b (st.t + 1) 0 (m + str.size)))) :
    Y16 P tab n all K (⟨dst, .call { callee := .builtin .append, args := ⟨[s, x]⟩, argTypes := ⟨[t, u]⟩ }, ty, pos, aft, none⟩ :: rest) st := by
  refine Y81 rfl hk (fun d H t' => d = .own 1 b (st.t + 1) 0 (m + str.size) ∧ H = setH st.H b ⟨et, st.t + 1, bl.cells ++ strD str⟩ ∧ t' = st.t + 1) (fun w0 F G a w ⟨R, hTR, _⟩ => ?_) fun d H t' ⟨e3, e4, e5⟩ => by subst e3; subst e4; subst e5; exact h
  have hv := hTR.eval tab u x
  rw [hx] at hv
  simp only [Rep] at hv
  obtain ⟨v', w', p', r1, r4, r5, r6⟩ := Yxx (ty := ty) R (hT _ _ ht) hd (hT _ _ he) h1 hby1 hag hz8 ((hT _ _ hu).str hku) hb (by rw [← hs]; exact hTR.eval tab t s) hm hty hne hlen
  exact ⟨v', F, _, w', _, _, _, by { simp [execOp, resolve, invoke, builtin]; show (Sem.run P (Builtin.append_ #[t, u] ty #[a.eval s, a.eval x]) w).andThen _ = _; rw [hv, r1]; rfl }, ⟨.refl _, fun _ _ _ => rfl, r4, by simp⟩, r5, r6, rfl, rfl, rfl⟩
theorem Ymm {x : Operand} {T e : TypeId} (hp : P.underlying T = some (.pointer e)) {b o : Nat} {bl : Blk} (hk : dst.getD 0 < n) (hx : Y1t tab st.tm T x = .ptr b bl.g o) (hb : st.H[b]? = some (some bl))
    (h : Y16 P tab n all K rest (st.put dst (.v (.bool false)))) : Y16 P tab n all K (⟨dst, .binOp .eql T x (.const (.pointer none)) T, ty, pos, aft, none⟩ :: rest) st := by
  refine Y49 rfl hk (.v (.bool false)) (fun w0 F G a w ⟨R, hTR, _⟩ => ?_) fun KK hKK => hKK _ h
  have hv := hTR.eval tab T x
  rw [hx] at hv
  obtain ⟨r, size, vs, junk, _, e1, _⟩ := R.ptr_some hv hb
  refine ⟨.bool false, ?_, Y1e _ _ _⟩
  have hpt : P.underlying T = some (.pointer (P.pointee T)) := by unfold Program.pointee; rw [hp]
  have := run_eql_pointer_nil (P := P) w T (some ⟨r, o, none⟩) hpt
  have hc : a.eval (.const (.pointer none)) = .pointer none := rfl
  simp [execOp, e1, hc, this, eqGuard]
theorem Ymn {x : Operand} {T e : TypeId} (hp : P.underlying T = some (.pointer e)) (hk : dst.getD 0 < n) (hx : Y1t tab st.tm T x = .v (.pointer none))
    (h : Y16 P tab n all K rest (st.put dst (.v (.bool true)))) : Y16 P tab n all K (⟨dst, .binOp .eql T x (.const (.pointer none)) T, ty, pos, aft, none⟩ :: rest) st := by
  refine Y49 rfl hk (.v (.bool true)) (fun w0 F G a w ⟨R, hTR, _⟩ => ?_) fun KK hKK => hKK _ h
  have hv := hTR.eval tab T x
  rw [hx] at hv
  simp only [Rep] at hv
  refine ⟨.bool true, ?_, Y1e _ _ _⟩
  have hpt : P.underlying T = some (.pointer (P.pointee T)) := by unfold Program.pointee; rw [hp]
  have := run_eql_pointer_nil (P := P) w T none hpt
  have hc : a.eval (.const (.pointer none)) = .pointer none := rfl
  simp [execOp, hv, hc, this, eqGuard]
theorem Yit (hT : Tab.Ok P tab) {x y : Operand} {T e : TypeId} {ie : TI} (hp : P.underlying T = some (.pointer e)) (hie : tab e = some ie) {b o : Nat} {bl : Blk} (hk : dst.getD 0 < n) (hx : Y1t tab st.tm T x = .ptr b bl.g o) (hy : Y1t tab st.tm T y = .ptr b bl.g o) (hb : st.H[b]? = some (some bl))
    (h : Y16 P tab n all K rest (st.put dst (.v (.bool false)))) : Y16 P tab n all K (⟨dst, .binOp .neq T x y T, ty, pos, aft, none⟩ :: rest) st := by
  refine Y49 rfl hk (.v (.bool false)) (fun w0 F G a w ⟨R, hTR, _⟩ => ?_) fun KK hKK => hKK _ h
  have hv := hTR.eval tab T x
  rw [hx] at hv
  have hv' := hTR.eval tab T y
  rw [hy] at hv'
  obtain ⟨r, size, vs, junk, g1, e1, _⟩ := R.ptr_some hv hb
  obtain ⟨r', size', vs', junk', g2, e2, _⟩ := R.ptr_some hv' hb
  rw [g1] at g2
  cases g2
  obtain ⟨info, z, hi, _⟩ := (hT _ _ hie).info
  refine ⟨.bool false, ?_, Y1e _ _ _⟩
  have := Lib.run_neq_ptr_same (P := P) w ⟨r, o, none⟩ hp hi
  simp [execOp, e1, e2, this, eqGuard]
theorem Ygr (hT : Tab.Ok P tab) {x : Operand} {S T e : TypeId} {ie : TI} (hp : P.underlying S = some (.pointer e)) (hu : P.underlying T = some .unsafePointer) (hie : tab e = some ie) (hie0 : ie.sz ≠ 0) {b o : Nat} {bl : Blk} (hk : dst.getD 0 < n) (hx : Y1t tab st.tm S x = .ptr b bl.g o) (hb : st.H[b]? = some (some bl)) (ho : o < bl.cells.length)
    (h : Y16 P tab n all K rest (st.put dst (.ptr b bl.g o))) : Y16 P tab n all K (⟨dst, .convert S T x, ty, pos, aft, none⟩ :: rest) st := by
  refine Y49 rfl hk (.ptr b bl.g o) (fun w0 F G a w ⟨R, hTR, _⟩ => ?_) fun KK hKK => hKK _ h
  have hv := hTR.eval tab S x
  rw [hx] at hv
  obtain ⟨r, size, vs, junk, g1, e1, _, hh, hL⟩ := R.ptr_some hv hb
  obtain ⟨info, z, hi, hsz, _⟩ := (hT _ _ hie).info
  have := Lib.run_to_unsafe (P := P) (cells := (vs ++ junk).length) w ⟨r, o, none⟩ hp hu hi (by rw [hsz]; exact hie0) (by simp [World.shape?, hh]; rfl) (by rw [List.length_append, hL.length]; show o < _; omega)
  refine ⟨_, ?_, hv⟩
  simp [execOp, e1, this]
theorem Ymq (hT : Tab.Ok P tab) {x : Operand} {S T e : TypeId} {ie : TI} (hu : P.underlying S = some .unsafePointer) (hp : P.underlying T = some (.pointer e)) (hie : tab e = some ie) {b o : Nat} {bl : Blk} (hk : dst.getD 0 < n) (hx : Y1t tab st.tm S x = .ptr b bl.g o) (hb : st.H[b]? = some (some bl)) (hlies : ∀ j, liesAt P P.depth bl.ty ((bl.cells.length + j) / P.cellsOf bl.ty) o e 1 = true)
    (h : Y16 P tab n all K rest (st.put dst (.ptr b bl.g o))) : Y16 P tab n all K (⟨dst, .convert S T x, ty, pos, aft, none⟩ :: rest) st := by
  refine Y49 rfl hk (.ptr b bl.g o) (fun w0 F G a w ⟨R, hTR, _⟩ => ?_) fun KK hKK => hKK _ h
  have hv := hTR.eval tab S x
  rw [hx] at hv
  obtain ⟨r, size, vs, junk, g1, e1, _, hh, hL⟩ := R.ptr_some hv hb
  obtain ⟨info, z, hi, hsz, _⟩ := (hT _ _ hie).info
  have := Lib.run_from_unsafe (P := P) (cells := (vs ++ junk).length) w ⟨r, o, none⟩ hu hp hi (by simp [World.shape?, hh]; rfl) (by rw [List.length_append, hL.length]; exact hlies _)
  refine ⟨_, ?_, hv⟩
  simp [execOp, e1, this]
end
theorem Ym6 {P : Program} {tab : Tab} (hT : Tab.Ok P tab) {all : List Oper} {last : Oper} {sp T n m : Nat} (hm1 : all.length = m + 1) (hlast : all[m]? = some last) (hdep : ∀ i, i < m → depT all 8 last i = true) (hedge : ∀ i o, all[i]? = some o → ∀ e ∈ o.after, Region.binds .any e = true → e.on < i) {w0 : World} {F0 : Mem} {G0 : Ghost} {s' : FSq} {Q : Exit → Act → World → Prop}
    (hQ : ∀ F' G' a' w', Onw w0 F0 G0 F' G' → SimF w0 F' G' T n s' a' w' → wpOp P all.toArray Q m (fun a w => Q .normal a w) a' w') : ∀ (fuel : Nat) (rem : List (Nat × Oper × Ef)) (listed : Array Bool) (s : FSq) (F : Mem) (G : Ghost) (a : Act) (w : World),
    (∀ x ∈ rem, all[x.1]? = some x.2.1) → rem.Pairwise (fun x y => x.1 < y.1) → (∀ i, (∃ x ∈ rem, x.1 = i) ↔ i < m ∧ listed.getD i true = false) → listed.getD m true = false → listed.size = all.length →
    (∀ i o, all[i]? = some o → listed.getD i false = true → ∀ e ∈ o.after, Region.binds .any e = true → listed.getD e.on false = true) → rem.Pairwise (fun x y => depT all 3 y.2.1 x.1 = true ∨ (x.2.1.apart all.toArray y.2.1 = true ∧ Yb9 x.2.2 y.2.2)) → rem.Pairwise (fun x y => ∀ b, x.2.2.pid = some b → y.2.2.pid = some b → depT all 3 y.2.1 x.1 = true ∧ x.2.2.k < y.2.2.k) → (∀ x ∈ rem, sp + x.2.2.k ≤ T ∧ ∀ b, x.2.2.pid = some b → ∀ p, G[b]? = some p → p.g < sp + x.2.2.k) →
    Road P tab n all sp (rem.map (·.2)) s s' → SimF w0 F G T n s a w → Onw w0 F0 G0 F G → rem.length + 1 ≤ fuel → wpAny P .any all.toArray Q fuel listed a w := by
  intro fuel
  induction fuel with
  | zero => intro rem listed s F G a w h1 h2 h3 h3' h4 hdc h5 h6 h7 h8 h9 h10 h11; omega
  | succ fuel ih =>
    intro rem listed s F G a w h1 h2 h3 h3' h4 hdc h5 h6 h7 h8 h9 h10 h11
    have listedD : ∀ i, i < all.length → listed.getD i true = true → listed.getD i false = true := fun i hi h => by
      simpa [Array.getD, h4, hi] using h
    have open_ : ∀ i, i < m → (∀ x ∈ rem, x.1 ≠ i) → listed.getD i true = true := fun i hi hx => by
      cases hc : listed.getD i true with
      | true => rfl
      | false => obtain ⟨y, hy, hye⟩ := (h3 i).2 ⟨hi, hc⟩; exact absurd hye (hx y hy)
    refine ⟨fun hnone => ?_, fun j hj => ?_⟩
    · exfalso
      cases rem with
      | nil =>
        have : m ∈ Region.ready .any all.toArray listed := by
          refine mem_ready.2 ⟨h3', last, by simpa using hlast, fun e he hb => ?_⟩
          have hlt' := hedge m last hlast e he hb
          exact listedD _ (by omega) (open_ _ hlt' (by simp))
        rw [hnone] at this; cases this
      | cons x r =>
        obtain ⟨hlt, hu⟩ := (h3 x.1).1 ⟨x, by simp, rfl⟩
        have : x.1 ∈ Region.ready .any all.toArray listed := by
          refine mem_ready.2 ⟨hu, x.2.1, by simpa using h1 x (by simp), fun e he hb => ?_⟩
          have hlt' := hedge x.1 x.2.1 (h1 x (by simp)) e he hb
          refine listedD _ (by omega) (open_ _ (by omega) fun y hy hye => ?_)
          rcases List.mem_cons.1 hy with rfl | hy
          · omega
          · have := (List.pairwise_cons.1 h2).1 y hy; omega
        rw [hnone] at this; cases this
    · obtain ⟨hu, o, ho, hall⟩ := mem_ready.1 hj
      have hlt0 : j < all.length := by simpa using (Array.getElem?_eq_some_iff.1 ho).1
      by_cases hjm : j = m
      · subst hjm
        have hol : o = last := by rw [List.getElem?_toArray, hlast] at ho; exact (Option.some.inj ho).symm
        subst hol
        have hrem : rem = [] := by
          cases rem with
          | nil => rfl
          | cons x r =>
            exfalso
            obtain ⟨hlt, hxu⟩ := (h3 x.1).1 ⟨x, by simp, rfl⟩
            have hl := Y3l hdc 8 o x.1 hall (hdep x.1 hlt)
            have : listed.getD x.1 true = true := by simpa [Array.getD, h4, hm1, Nat.lt_succ_of_lt hlt] using hl
            rw [this] at hxu; cases hxu
        subst hrem
        simp only [List.map_nil, Road] at h8
        subst h8
        refine wpOp_mono (fun a' w' hq => ?_) (hQ F G a w h10 h9)
        have hr : Region.ready .any all.toArray (listed.setIfInBounds j true) = [] := by
          apply List.eq_nil_iff_forall_not_mem.2
          intro i hi
          obtain ⟨hiu, o', ho', _⟩ := mem_ready.1 hi
          have hil : i < all.length := by simpa using (Array.getElem?_eq_some_iff.1 ho').1
          by_cases e : j = i
          · subst e
            have : (listed.setIfInBounds j true).getD j true = true := by simp [Array.getD, h4, hlt0]
            rw [this] at hiu; cases hiu
          · rw [getD_set_ne true e] at hiu
            have := open_ i (by omega) (by simp)
            rw [this] at hiu; cases hiu
        cases fuel with
        | zero => exact ⟨hr, hq⟩
        | succ f => exact ⟨fun _ => hq, fun i hi => by rw [hr] at hi; cases hi⟩
      have hlt : j < m := by omega
      obtain ⟨x, hx, rfl⟩ := (h3 j).2 ⟨hlt, hu⟩
      obtain ⟨l, r, rfl⟩ := List.append_of_mem hx
      have hxo : all[x.1]? = some x.2.1 := h1 x (by simp)
      have ho' : o = x.2.1 := by rw [List.getElem?_toArray, hxo] at ho; exact (Option.some.inj ho).symm
      subst ho'
      have hpre : ∀ y ∈ l.map (·.2), y.1.apart all.toArray x.2.1 = true ∧ Yb9 y.2 x.2.2 := fun y hy => by
        obtain ⟨z, hz, rfl⟩ := List.mem_map.1 hy
        have hpz := (List.pairwise_append.1 h5).2.2 z hz x (by simp)
        rcases hpz with hdep | hap
        · exfalso
          have hl := Y3l hdc 3 x.2.1 z.1 hall hdep
          obtain ⟨hzl, hzu⟩ := (h3 z.1).1 ⟨z, by simp [hz], rfl⟩
          have : listed.getD z.1 true = true := by simpa [Array.getD, h4, hm1, Nat.lt_succ_of_lt hzl] using hl
          rw [this] at hzu; cases hzu
        · exact hap
      have hroad := Road.front (x := x.2) (l := l.map (·.2)) (r := r.map (·.2)) hpre (by simpa using h8)
      obtain ⟨hcan, hroad⟩ := hroad
      refine Ygn hT h9 hxo (h7 x (by simp)).1 hcan (h7 x (by simp)).2 fun F' G' a' w' onw hG' hGx hs' => ?_
      refine ih (l ++ r) _ (s.after x.2.1 x.2.2) F' G' a' w' (fun y hy => h1 y ?_) ?_ (fun i => ?_) ?_ (by simp [h4]) (fun i o hio hli e he hb => ?_) ?_ ?_ (fun y hy => ⟨(h7 y (by rcases List.mem_append.1 hy with h | h <;> simp [h])).1, fun b hb p hp => ?_⟩) (by simpa using hroad) hs' (h10.trans onw) (by simp at h11 ⊢; omega)
      · rcases List.mem_append.1 hy with h | h <;> simp [h]
      · exact h2.sublist (by simp)
      · have hset : (listed.setIfInBounds x.1 true).getD i true = if x.1 = i then true else listed.getD i true := by
          by_cases e : x.1 = i
          · subst e; rw [if_pos rfl]; simp [Array.getD, h4, hlt0]
          · rw [if_neg e]; exact getD_set_ne true e
        rw [hset]
        constructor
        · rintro ⟨y, hy, rfl⟩
          have hyx : x.1 ≠ y.1 := by
            rcases List.mem_append.1 hy with h | h
            · have := (List.pairwise_append.1 h2).2.2 y h x (by simp); omega
            · have := (List.pairwise_cons.1 (List.pairwise_append.1 h2).2.1).1 y h; omega
          rw [if_neg hyx]
          refine (h3 y.1).1 ⟨y, ?_, rfl⟩
          rcases List.mem_append.1 hy with h | h <;> simp [h]
        · rintro ⟨hi, hu'⟩
          by_cases e : x.1 = i
          · rw [if_pos e] at hu'; cases hu'
          · rw [if_neg e] at hu'
            obtain ⟨y, hy, rfl⟩ := (h3 i).2 ⟨hi, hu'⟩
            refine ⟨y, ?_, rfl⟩
            rcases List.mem_append.1 hy with h | h
            · simp [h]
            · rcases List.mem_cons.1 h with rfl | h
              · exact absurd rfl e
              · simp [h]
      · rw [getD_set_ne true (by omega)]; exact h3'
      · have up : ∀ j, listed.getD j false = true → (listed.setIfInBounds x.1 true).getD j false = true := fun j hj => by
          by_cases e : x.1 = j
          · subst e; simp [Array.getD, h4, hlt0]
          · rw [getD_set_ne false e]; exact hj
        refine up _ ?_
        by_cases ei : x.1 = i
        · subst ei
          rw [hxo] at hio; cases hio
          exact hall e he hb
        · rw [getD_set_ne false ei] at hli
          exact hdc i o hio hli e he hb
      · exact h5.sublist (by simp)
      · exact h6.sublist (by simp)
      · by_cases hxb : x.2.2.pid = some b
        · rw [hGx b hxb p hp]
          rcases List.mem_append.1 hy with h | h
          · exfalso
            have hdep := ((List.pairwise_append.1 h6).2.2 y h x (by simp) b hb hxb).1
            have hl := Y3l hdc 3 x.2.1 y.1 hall hdep
            obtain ⟨hzl, hzu⟩ := (h3 y.1).1 ⟨y, by simp [h], rfl⟩
            have : listed.getD y.1 true = true := by simpa [Array.getD, h4, hm1, Nat.lt_succ_of_lt hzl] using hl
            rw [this] at hzu; cases hzu
          · have := ((List.pairwise_cons.1 (List.pairwise_append.1 h6).2.1).1 y h b hxb hb).2
            omega
        · rw [hG' b hxb] at hp
          exact (h7 y (by rcases List.mem_append.1 hy with h | h <;> simp [h])).2 b hb p hp
theorem Yad : ∀ (k : Nat) (l : List Oper) (fs : List Fp) (m : Nat), fs.length = m → m ≤ l.length → Y6j k l fs = Y6j k (l.take m) fs
 | k, l, [], m, h, _ => by subst h; cases l <;> rfl
 | k, [], f :: fs, m, h, hl => by subst h; simp at hl
 | k, o :: l, f :: fs, m, h, hl => by
  subst h
  simp only [List.length_cons, List.take_succ_cons, Y6j]
  rw [Yad (k + 1) l fs fs.length rfl (by simpa using hl)]
theorem Y24 {P : Program} {tab : Tab} (hT : Tab.Ok P tab) (hm : P.follows .mixedOrders = true) {n id : Nat} {ops : List Oper} {Q : Exit → St → Prop} {st : St} (k m : Nat) (hlen : ops.length = m + 1)
    (hdep : ((List.range m).all fun i => match ops[m]? with | some o => depT ops 8 o i | none => false) = true)
    (h : ∀ KR : List Fp → St → Prop, (∀ fps s, anyB ops fps = true → (∀ KS : St → Prop, (∀ s, Q .normal s → KS s) → Y16 P tab n ops KS (ops.drop m) ⟨s.tm, s.H, st.t + 1⟩) → KR fps s) → awD P tab n ops false (st.t + 1) KR (ops.take m) st.H.length [] ⟨st.tm, st.H ++ List.replicate k none, st.t⟩) : AW P n (.region id ops.toArray true) Q st := fun w0 F G a w hs => by
  obtain ⟨es, st', h1, h2, ⟨h3, h4⟩, hks⟩ := Yem _ _ _ _ (h (fun fps s => anyB ops fps = true ∧ ∀ KS : St → Prop, (∀ s, Q .normal s → KS s) → Y16 P tab n ops KS (ops.drop m) ⟨s.tm, s.H, st.t + 1⟩) fun _ _ a b => ⟨a, b⟩)
  have htl : (ops.take m).length = m := by rw [List.length_take]; omega
  rw [htl] at h1
  simp only [List.reverse_nil, List.nil_append] at h3
  simp only [anyB, Bool.and_eq_true] at h3
  obtain ⟨h3a, h3b⟩ := h3
  rw [Yad 0 ops _ m (by simp [h1]) (by omega), Y8f 0 (ops.take m) es (by rw [htl]; exact h1)] at h3b
  have hpw := Y4e h3b
  obtain ⟨last, hlast⟩ : ∃ o, ops[m]? = some o := ⟨_, List.getElem?_eq_getElem (by omega)⟩
  have hdrop : ops.drop m = [last] := by
    rw [List.drop_eq_getElem_cons (by omega : m < ops.length), List.drop_eq_nil_of_le (by omega)]
    rw [List.getElem?_eq_getElem (by omega : m < ops.length)] at hlast
    rw [Option.some.inj hlast]
  refine wp_region_any hm ?_
  obtain ⟨R, hTR, hd⟩ := hs
  have ext : ∀ m, ∃ G', Ghost.le G.length G G' ∧ G'.length = G.length + m ∧ Rel w0 F G' st.H (st.t + 1) w ∧ (∀ (i : Nat) (p : Pl), G'[i]? = some p → p.g ≤ st.t) := by
    intro m
    induction m with
    | zero => exact ⟨G, .refl _ _, rfl, R.more (Nat.le_succ _), R.top⟩
    | succ m ih =>
      obtain ⟨G', g1, g2, g3, g4⟩ := ih
      refine ⟨G' ++ [⟨none, 0, false⟩], g1.trans fun i p hi hp => ⟨p, by rw [List.getElem?_append_left (by omega)]; exact hp, .refl p⟩, by simp [g2]; omega, g3.extend, fun i p hp => ?_⟩
      rcases Nat.lt_or_ge i G'.length with h | h
      · rw [List.getElem?_append_left h] at hp; exact g4 i p hp
      · rw [List.getElem?_append_right h] at hp
        by_cases e : i - G'.length = 0
        · rw [e] at hp; simp at hp; subst hp; exact Nat.zero_le _
        · rw [List.getElem?_eq_none (by simp; omega)] at hp; cases hp
  obtain ⟨G', g1, g2, g3, g4, g5⟩ : ∃ G', Ghost.le G.length G G' ∧ G.length ≤ G'.length ∧ Rel w0 F G' (st.H ++ List.replicate k none) (st.t + 1) w ∧ st.H.length + k < G'.length ∧ ∀ (i : Nat) (p : Pl), G'[i]? = some p → p.g ≤ st.t := by
    obtain ⟨G', g1, g2, g3, g4⟩ := ext (k + 1)
    have hl := R.len
    have key : ∀ (i : Nat) (bl : Blk), (st.H ++ List.replicate k none)[i]? = some (some bl) → st.H[i]? = some (some bl) := fun i bl h => by
      rcases Nat.lt_or_ge i st.H.length with hl | hl
      · rwa [List.getElem?_append_left hl] at h
      · rw [List.getElem?_append_right hl, List.getElem?_replicate] at h
        split at h <;> cases h
    exact ⟨G', g1, by omega, ⟨g3.below, g3.mem, by simp; omega, g3.top, fun i bl hi => g3.own i bl (key i bl hi), fun i j bi bj p q r s t u hij hi hj => g3.inj i j bi bj p q r s t u hij (key i bi hi) (key j bj hj), g3.cnd⟩, by omega, g4⟩
  have hTR' := hTR.mono (.refl F) g1
  have hidx : ∀ x ∈ (((ops.take m).zip es).zipIdx.map fun p => (p.2, p.1.1, p.1.2)), ops[x.1]? = some x.2.1 := fun x hx => by
    obtain ⟨p, hp, rfl⟩ := List.mem_map.1 hx
    have := List.mem_zipIdx_iff_getElem?.1 hp
    simp only [List.getElem?_zip_eq_some] at this
    have h := this.1
    rw [List.getElem?_take] at h
    split at h
    · exact h
    · cases h
  have hrem : (((ops.take m).zip es).zipIdx.map fun p => (p.2, p.1.1, p.1.2)).map (·.2) = (ops.take m).zip es := by
    rw [List.map_map]
    have : ((fun x : Nat × Oper × Ef => x.2) ∘ fun p : (Oper × Ef) × Nat => (p.2, p.1.1, p.1.2)) = fun p => p.1 := rfl
    rw [this]; simp
  have hzl : ((ops.take m).zip es).length = m := by rw [List.length_zip, htl, h1, Nat.min_self]
  have hsz : (Array.replicate ops.toArray.size false).size = ops.length := by simp
  refine Ym6 hT (m := m) (last := last) (sp := st.t + 1) (T := st.t + 1) (s' := FSq.of st') (n := n) hlen hlast (fun i hi => ?_) (fun i o ho e he hb => by have := Y72 h3a i o ho e he hb; omega) (F0 := F) (G0 := G) (fun F2 G2 a2 w2 onw hs2 => ?_) ops.toArray.size
    (((ops.take m).zip es).zipIdx.map fun p => (p.2, p.1.1, p.1.2)) _ (FSq.of ⟨st.tm, st.H ++ List.replicate k none, st.t⟩) F G' a _ hidx ?_ (fun i => ?_) (by simp [Array.getD, hlen]) hsz (fun i o _ hli => by simp [Array.getD] at hli) ?_ ?_ (fun x hx => ⟨?_, fun b hb p hp => Nat.lt_of_lt_of_le (Nat.lt_succ_of_le (g5 b p hp)) (Nat.le_add_right _ _)⟩) (by rw [hrem]; exact h2)
    ⟨⟨g3.drewN 1, by simp [FSq.of]; omega⟩, ⟨hTR'.1, hTR'.2⟩, hd⟩ ⟨.refl _, fun _ _ _ => rfl, g1, g2⟩ (by simp [hzl, hlen])
  · have := List.all_eq_true.1 hdep i (List.mem_range.2 hi)
    rw [hlast] at this
    exact this
  · obtain ⟨⟨r1, r2⟩, r3, r4⟩ := hs2
    have h5 := Y74 hT (Q := Q) (fun s hs => hs) _ _ (h4 (Q .normal) fun _ h => h) w0 F G F2 G2 a2 w2 onw ⟨r1, r3, r4⟩
    rw [hdrop] at h5
    unfold wpOp
    rw [List.getElem?_toArray, hlast]
    simpa only [wpList] using h5
  · rw [List.pairwise_map]
    have : ((ops.take m).zip es).zipIdx.Pairwise fun a b => a.2 < b.2 := by
      rw [List.pairwise_iff_getElem]
      intro i j hi hj hij
      simpa using hij
    exact this
  · constructor
    · rintro ⟨x, hx, rfl⟩
      obtain ⟨p, hp, rfl⟩ := List.mem_map.1 hx
      have := List.mem_zipIdx_iff_getElem?.1 hp
      have hl := (List.getElem?_eq_some_iff.1 this).1
      rw [hzl] at hl
      exact ⟨hl, by simp [Array.getD, hlen]; omega⟩
    · rintro ⟨hi, _⟩
      have hi' : i < ((ops.take m).zip es).length := by rw [hzl]; exact hi
      refine ⟨(i, ((ops.take m).zip es)[i].1, ((ops.take m).zip es)[i].2), List.mem_map.2 ⟨(((ops.take m).zip es)[i], i), ?_, rfl⟩, rfl⟩
      exact List.mem_zipIdx_iff_getElem?.2 (by simp [List.getElem?_eq_getElem hi'])
  · rw [List.pairwise_map] at hpw ⊢
    refine hpw.imp fun {x y} hxy => ?_
    simp only [Ydg, Bool.and_eq_true, Bool.or_eq_true] at hxy
    rcases hxy.1 with h | h | h
    · exact .inl (by unfold depT; rw [h]; rfl)
    · exact .inr ⟨h.1, Ykj h.2⟩
    · exact .inl h
  · rw [List.pairwise_map] at hpw ⊢
    refine hpw.imp fun {x y} hxy b hb hb' => ?_
    simp only [Ydg, Bool.and_eq_true, Bool.or_eq_true] at hxy
    have h5 := hxy.2
    have e1 : x.1.2.fp.pid = some b := by
      revert hb; cases x.1.2 <;> simp [Ef.pid, Ef.fp]
    have e2 : y.1.2.fp.pid = some b := by
      revert hb'; cases y.1.2 <;> simp [Ef.pid, Ef.fp]
    have e3 : ∀ e : Ef, e.fp.k = e.k := fun e => by cases e <;> rfl
    rw [e1, e2] at h5
    rcases h5 with h5 | ⟨h5, h6⟩
    · simp [offB] at h5
    · rw [e3, e3] at h6
      exact ⟨h5, by simpa using h6⟩
  · obtain ⟨p, hp, rfl⟩ := List.mem_map.1 hx
    have hm := List.mem_zipIdx_iff_getElem?.1 hp
    simp only [List.getElem?_zip_eq_some] at hm
    have := hks p.1.2 (List.mem_of_getElem? hm.2)
    simp only [kMax] at this
    show st.t + 1 + p.1.2.k ≤ _
    omega
end Go.Proofs.YtpbpafmgkdihlaaGreatDoor.T
namespace Go.Proofs.YtpbpafmgkdihlaaGreatDoor.T
open Go Go.RowKit Lin
theorem Ypv {sz : Nat} : ∀ {l : List (List D)}, (∀ x ∈ l, x.length = sz) → l.flatten.length = l.length * sz
 | [], _ => by simp
 | x :: l, h => by
  rw [List.flatten_cons, List.length_append, h x (by simp), Ypv fun y hy => h y (List.mem_cons_of_mem _ hy), List.length_cons, Nat.add_mul]
  omega
abbrev ro1 (r : Rp) (p : Nat × Nat) : List D := [str r.nm, .own 4 p.1 p.2 0 r.hs.length, bool r.hl]
def roC (rs : List Rp) (ps : List (Nat × Nat)) : List (List D) := List.zipWith ro1 rs ps
structure CA where
 k : Nat
 g : Nat
 ps : List (Nat × Nat)
 R : List Blk
 t : Nat
structure CAok (s : Sy) (t0 : Nat) (x : CA) : Prop where
 k : x.k ≤ s.rs.length
 lp : x.ps.length = x.k
 lr : x.R.length = 2 * x.k
 at_ : ∀ (j : Nat) (r : Rp) (p : Nat × Nat), s.rs[j]? = some r → x.ps[j]? = some p → p.1 = 2 * j + 6 ∧ x.R[2 * j + 1]? = some ⟨35, p.2, hdC r.hs⟩
 new : ∀ bl ∈ x.R, t0 < bl.g ∧ ((∃ l, bl.cells = hdC l) ∨ ∃ r p, bl.cells = ro1 r p ∧ p.1 < 5 + x.R.length)
 g : t0 < x.g
 t : t0 ≤ x.t
theorem Yuc (l : List Bk) : (bkC l).all Y26 = true := by
 induction l with
 | nil => rfl
 | cons x r ih => simp only [bkC, List.flatMap_cons, List.all_append, Bool.and_eq_true] at ih ⊢; exact ⟨rfl, ih⟩
theorem Yub (l : List Hd) : (hdC l).all Y26 = true := by
 induction l with
 | nil => rfl
 | cons x r ih => simp only [hdC, List.flatMap_cons, List.all_append, Bool.and_eq_true] at ih ⊢; exact ⟨rfl, ih⟩
theorem Ywh {rs : List Rp} {ps : List (Nat × Nat)} (h : ps.length = rs.length) : (roC rs ps).length = rs.length := by simp [roC, h]
theorem Ya7 {rs : List Rp} {ps : List (Nat × Nat)} (h : ps.length = rs.length) : (roC rs ps).flatten.length = rs.length * 3 := by
 rw [Ypv (sz := 3), Ywh h]
 intro x hx
 obtain ⟨i, hi⟩ := List.mem_iff_getElem?.1 hx
 unfold roC at hi
 rw [List.getElem?_zipWith] at hi
 cases h1 : rs[i]? <;> cases h2 : ps[i]? <;> rw [h1, h2] at hi <;> simp at hi
 subst hi
 rfl
theorem Ysj {rs : List Rp} {ps : List (Nat × Nat)} {k : Nat} {r : Rp} {p : Nat × Nat} (hl : ps.length = k) (hr : rs[k]? = some r) : roC (rs.take (k + 1)) (ps ++ [p]) = roC (rs.take k) ps ++ [ro1 r p] := by
 have hk := (List.getElem?_eq_some_iff.1 hr).1
 unfold roC
 rw [List.take_add_one, hr, Option.toList_some, List.zipWith_append (by simp; omega)]
 rfl
set_option maxHeartbeats 4000000 in
theorem Yzz (s : Sy) (ok : OkS s) (t : Nat) : ACall Tryz.prog 34 [syD s] [] t (fun d H' t' => ∃ (x : CA) (g0 g1 g2 g3 : Nat) (z : List D), CAok s t x ∧ x.k = s.rs.length ∧ t' = x.t ∧ d = .agg [.own 2 2 g2 0 s.bs.length, .own 3 4 x.g 0 s.rs.length] ∧ t < g0 ∧ t < g1 ∧ t < g2 ∧ t < g3 ∧ z = [.own 2 2 g2 0 s.bs.length, .own 3 4 x.g 0 s.rs.length] ∧
    H' = some ⟨25, g0, [bks s.bs, rps s.rs]⟩ :: some ⟨25, g1, z⟩ :: some ⟨48, g2, bkC s.bs⟩ :: some ⟨25, g3, z⟩ :: some ⟨30, x.g, (roC s.rs x.ps).flatten⟩ :: x.R.map some) := by
  refine ACall.enter tab_ok Tryz.func34 rfl rfl Tryz.ntmps34 (by simp) ?_
  simp only [Y04]
  have hdr := Y1q s.rs
  have hdb := Y2p s.bs
  have hlb := Y1z s.bs
  have b1 := ok.b1
  have b6 := ok.b6
  have r6 := ok.r6
  have hcb := Yuc s.bs
  have hnb : (bkC s.bs = []) = False := by
    simp only [eq_iff_iff, iff_false]
    intro e
    rw [e] at hlb
    simp at hlb
    omega
  refine wqa ?_
  ((refine wqb (F := _∧_∧_) ⟨hcb, hnb, hdb⟩ ?_))
  refine wqa ?_
  refine AW.begin_cell 3 1 3 30 rfl rfl (by decide) ?_
  simp only [List.set_cons_succ, List.set_cons_zero, List.length_cons, List.length_nil, List.cons_append, List.nil_append, Nat.zero_add, Nat.reduceAdd]
  refine Y0i (fun x : CA => ⟨[(2, .ptr 1 (t + 1 + 1) 0), (3, .ptr 3 (t + 1 + 1 + 1 + 1) 0)], some ⟨25, t + 1, [bks s.bs, rps s.rs]⟩ :: some ⟨25, t + 1 + 1, [.sl 2 [] true, .sl 3 [] true]⟩ :: some ⟨48, t + 1 + 1 + 1, bkC s.bs⟩ :: some ⟨25, t + 1 + 1 + 1 + 1, [.own 2 2 (t + 1 + 1 + 1) 0 s.bs.length, .own 3 4 x.g 0 s.rs.length]⟩ :: some ⟨30, x.g, (roC s.rs x.ps).flatten⟩ :: x.R.map some, x.t⟩) (fun x => CAok s t x ∧ x.k = s.rs.length) ?_ ?_
  · refine Y02 ?_
    refine Y05 (fun x : CA => ⟨[(1, .ptr 0 (t + 1) 0), (2, .ptr 1 (t + 1 + 1) 0), (3, .ptr 3 (t + 1 + 1 + 1 + 1) 0), (4, int x.k)], some ⟨25, t + 1, [bks s.bs, rps s.rs]⟩ :: some ⟨25, t + 1 + 1, [.sl 2 [] true, .sl 3 [] true]⟩ :: some ⟨48, t + 1 + 1 + 1, bkC s.bs⟩ :: some ⟨25, t + 1 + 1 + 1 + 1, [.own 2 2 (t + 1 + 1 + 1) 0 s.bs.length, .own 3 4 x.g 0 x.k]⟩ :: some ⟨30, x.g, (roC (s.rs.take x.k) x.ps).flatten⟩ :: x.R.map some, x.t⟩) (fun x => s.rs.length - x.k) (fun x => CAok s t x) ⟨0, t + 1 + 1 + 1 + 1 + 1, [], [], t + 1 + 1 + 1 + 1 + 1⟩ ⟨Nat.zero_le _, rfl, rfl, fun j r p _ h => by simp at h, fun bl h => by simp at h, by show t < t + 1 + 1 + 1 + 1 + 1; omega, by show t ≤ t + 1 + 1 + 1 + 1 + 1; omega⟩ (by (simp (disch := omega) only [StLe, tmLe, Y0b, hpLe, bl, bb, bt, zDs, zD, Y01, simprocAttr, roC, List.take_zero, List.zipWith_nil_left])) ?_
    rintro ⟨k, g, ps, R, tt⟩ hx
    obtain ⟨hk, hlp, hlr, hat, hnew, hgt, htt⟩ := hx
    simp only at hk hlp hlr hat hnew hgt htt
    by_cases hlt : k < s.rs.length
    · obtain ⟨r, hr⟩ : ∃ y, s.rs[k]? = some y := ⟨_, List.getElem?_eq_getElem hlt⟩
      have hrm := List.mem_of_getElem? hr
      have hra := Y2z s.rs k r hr
      obtain ⟨ho1, ho2, _⟩ := ok.holds r hrm
      have hch := Yub r.hs
      have hlh := Y3i r.hs
      have hdh := Y4v r.hs
      have hnh : (hdC r.hs = []) = False := by
        simp only [eq_iff_iff, iff_false]
        intro e
        rw [e] at hlh
        simp at hlh
        omega
      have hRl : (R.map some).length = 2 * k := by simp [hlr]
      have hg5 : ∀ x y : Option Blk, (R.map some ++ [x, y])[R.length]? = some x := fun x y => by rw [List.getElem?_append_right (by simp)]; simp
      have hg6 : ∀ x y : Option Blk, (R.map some ++ [x, y])[R.length + 1]? = some y := fun x y => by rw [List.getElem?_append_right (by simp)]; simp
      have hg5a : ∀ x : Option Blk, (R.map some ++ [x])[R.length]? = some x := fun x => by rw [List.getElem?_append_right (by simp)]; simp
      have hs5 : ∀ x y z : Option Blk, (R.map some ++ [x, y]).set R.length z = R.map some ++ [z, y] := fun x y z => by rw [List.set_append_right _ _ (by simp)]; simp
      have hrc : (roC (s.rs.take k) ps).flatten.length = k * 3 := by rw [Ya7 (by simp [hlp]; omega)]; simp; omega
      have hpush := Ysj (p := (R.length + 1 + 1 + 1 + 1 + 1 + 1, tt + 1 + 1)) hlp hr
      ((refine ggb0 (F := _∧_∧_) ⟨@Int.ofNat_lt, hlt, hdr⟩ ?_))
      repeat refine Y00 ?_
      refine Y02 ?_
      have hs5a : ∀ x z : Option Blk, (R.map some ++ [x]).set R.length z = R.map some ++ [z] := fun x z => by rw [List.set_append_right _ _ (by simp)]; simp
      ((refine wqb (F := _∧_∧_∧_∧_) ⟨hlt, hdr, hra, hg5a, hs5a⟩ ?_))
      ((refine wqb (F := _∧_∧_∧_∧_∧_∧_) ⟨hg5a, hch, hnh, hdh, hg5, hg6, hs5⟩ ?_))
      ((refine ggb0 (F := _∧_) ⟨hg5, hrc⟩ ?_))
      refine ⟨⟨k + 1, tt + 1 + 1 + 1, ps ++ [(R.length + 1 + 1 + 1 + 1 + 1 + 1, tt + 1 + 1)], R ++ [⟨30, tt + 1, ro1 r (R.length + 1 + 1 + 1 + 1 + 1 + 1, tt + 1 + 1)⟩, ⟨35, tt + 1 + 1, hdC r.hs⟩], tt + 1 + 1 + 1⟩, ⟨hlt, by simp [hlp], by simp [hlr]; omega, fun j q p hq hp => ?_, fun bl hbl => ?_, by show t < tt + 1 + 1 + 1; omega, by show t ≤ tt + 1 + 1 + 1; omega⟩, by show s.rs.length - (k + 1) < s.rs.length - k; omega, ?_⟩
      · by_cases hjk : j < k
        · rw [List.getElem?_append_left (by omega)] at hp
          obtain ⟨a1, a2⟩ := hat j q p hq hp
          exact ⟨a1, by rw [List.getElem?_append_left (by have := (List.getElem?_eq_some_iff.1 a2).1; omega)]; exact a2⟩
        · have hjl := (List.getElem?_eq_some_iff.1 hp).1
          have hje : j = k := by simp [hlp] at hjl; omega
          subst hje
          rw [List.getElem?_append_right (by omega), hlp, Nat.sub_self] at hp
          simp only [List.getElem?_cons_zero, Option.some.injEq] at hp
          subst hp
          rw [hr, Option.some.injEq] at hq
          subst hq
          refine ⟨by simp only; omega, ?_⟩
          rw [List.getElem?_append_right (by omega), show 2 * j + 1 - R.length = 1 by omega]
          rfl
      · simp only [List.length_append, List.length_cons, List.length_nil]
        rcases List.mem_append.1 hbl with h | h
        · obtain ⟨a1, a2⟩ := hnew bl h
          refine ⟨a1, a2.imp id ?_⟩
          rintro ⟨r', p', e, hp'⟩
          exact ⟨r', p', e, by omega⟩
        · rcases List.mem_cons.1 h with rfl | h
          · exact ⟨by simp only; omega, .inr ⟨r, _, rfl, by simp only; omega⟩⟩
          · simp only [List.mem_singleton] at h
            subst h
            exact ⟨by simp only; omega, .inl ⟨r.hs, rfl⟩⟩
      · simp only [hpush, List.flatten_append, List.flatten_cons, List.flatten_nil, List.append_nil, List.map_append, List.map_cons, List.map_nil]
        exact ele
    · have hke : k = s.rs.length := by omega
      subst hke
      rw [List.take_length]
      ((refine wqb (F := _∧_) ⟨@Int.lt_irrefl, hdr⟩ ?_))
      refine wia ?_
      refine wxa ?_
      exact ⟨⟨s.rs.length, g, ps, R, tt⟩, ⟨⟨hk, hlp, hlr, hat, hnew, hgt, htt⟩, rfl⟩, ele⟩
  rintro ⟨k, g, ps, R, tt⟩ ⟨hx, hke⟩
  simp only at hx hke
  refine gga0 ?_
  ((repeat refine Y00 ?_); (refine wta ?_); simp (disch := omega) only [retQ, resD, oneD, bb, bt, zDs, zD, Y01, simprocAttr, Tryz.results34])
  exact ⟨⟨k, g, ps, R, tt⟩, t + 1, t + 1 + 1, t + 1 + 1 + 1, t + 1 + 1 + 1 + 1, _, hx, hke, rfl, rfl, by omega, by omega, by omega, by omega, rfl, rfl⟩
mutual
theorem Yt8 {k : Nat} : ∀ d : D, Y17 d = true → inD k d = true
 | .v _, _ => by simp only [inD]
 | .sl _ cs _, h => by simp only [Y17] at h; simp only [inD]; exact Y3u cs h
 | .rp cs _, h => by simp only [Y17] at h; simp only [inD]; exact Y3u cs h
 | .own .., h => by simp [Y17] at h
 | .ptr .., h => by simp [Y17] at h
 | .agg cs, h => by simp only [Y17] at h; simp only [inD]; exact Y3u cs h
 | .tup cs, h => by simp only [Y17] at h; simp only [inD]; exact Y3u cs h
 | .fn _ cs, h => by simp only [Y17] at h; simp only [inD]; exact Y3u cs h
 | .mp .., h => by simp [Y17] at h
 | .any, _ => by simp only [inD]
theorem Y3u {k : Nat} : ∀ l : List D, Y11 l = true → inL k l = true
 | [], _ => by simp only [inL]
 | d :: l, h => by simp only [Y11, Bool.and_eq_true] at h; simp only [inL, Yt8 d h.1, Y3u l h.2, Bool.and_self]
end
theorem Yd8 {n : Nat} : ∀ {l : List D}, (∀ d ∈ l, ∃ x, d = .v x) → shL n l = l
 | [], _ => by simp only [shL]
 | d :: l, h => by
  obtain ⟨x, rfl⟩ := h d (by simp)
  simp only [shL, shD, Yd8 fun e he => h e (List.mem_cons_of_mem _ he)]
theorem Y105 (l : List Bk) : ∀ d ∈ bkC l, ∃ x, d = .v x := by
 intro d hd
 obtain ⟨b, _, hb⟩ := List.mem_flatMap.1 hd
 simp only [List.mem_cons, List.not_mem_nil, or_false] at hb
 rcases hb with rfl | rfl <;> exact ⟨_, rfl⟩
theorem Yx1 (l : List Hd) : ∀ d ∈ hdC l, ∃ x, d = .v x := by
 intro d hd
 obtain ⟨b, _, hb⟩ := List.mem_flatMap.1 hd
 simp only [List.mem_cons, List.not_mem_nil, or_false] at hb
 rcases hb with rfl | rfl | rfl | rfl <;> exact ⟨_, rfl⟩
theorem Ywg {rs : List Rp} {ps : List (Nat × Nat)} {d : D} (h : d ∈ (roC rs ps).flatten) : ∃ (j : Nat) (r : Rp) (p : Nat × Nat), rs[j]? = some r ∧ ps[j]? = some p ∧ d ∈ ro1 r p := by
 obtain ⟨l, hl, hd⟩ := List.mem_flatten.1 h
 obtain ⟨j, hj⟩ := List.mem_iff_getElem?.1 hl
 unfold roC at hj
 rw [List.getElem?_zipWith] at hj
 cases h1 : rs[j]? with
 | none => rw [h1] at hj; simp at hj
 | some r =>
  cases h2 : ps[j]? with
  | none => rw [h1, h2] at hj; simp at hj
  | some p =>
   rw [h1, h2] at hj
   simp only [Option.some.injEq] at hj
   subst hj
   exact ⟨j, r, p, h1, h2, hd⟩
def shP (n : Nat) (p : Nat × Nat) : Nat × Nat := (p.1 + n, p.2)
theorem Yv1 (n : Nat) : ∀ (rs : List Rp) (ps : List (Nat × Nat)), shL n (roC rs ps).flatten = (roC rs (ps.map (shP n))).flatten
 | [], _ => by simp [roC, shL]
 | _ :: _, [] => by simp [roC, shL]
 | r :: rs, p :: ps => by
  have ih := Yv1 n rs ps
  unfold roC at ih ⊢
  simp only [List.map_cons, List.zipWith_cons_cons, List.flatten_cons, ro1, List.cons_append, List.nil_append, shL, shD, ih]
  rfl
structure CB (s : Sy) (n : Nat) (qs : List (Nat × Nat)) (R : List Blk) : Prop where
 lq : qs.length = s.rs.length
 lr : R.length = 2 * s.rs.length
 at_ : ∀ (j : Nat) (r : Rp) (p : Nat × Nat), s.rs[j]? = some r → qs[j]? = some p → p.1 = n + (2 * j + 6) ∧ R[2 * j + 1]? = some ⟨35, p.2, hdC r.hs⟩
theorem Y11p {s : Sy} (ok : OkS s) {ds : List D} {H : Hp} {t : Nat} {K : D → Hp → Nat → Prop} (hd : ds.map ufa = [syD s])
    (hK : ∀ (g2 gr : Nat) (qs : List (Nat × Nat)) (R : List Blk) (B0 B1 B3 : Blk) (t' : Nat), CB s H.length qs R → t ≤ t' → K (.agg [.own 2 (H.length + 2) g2 0 s.bs.length, .own 3 (H.length + 4) gr 0 s.rs.length]) (H ++ (some B0 :: some B1 :: some ⟨48, g2, bkC s.bs⟩ :: some B3 :: some ⟨30, gr, (roC s.rs qs).flatten⟩ :: R.map some)) t') : ACall Tryz.prog 34 ds H t K := by
  have hpl : Y11 [bks s.bs, rps s.rs] = true := by simp only [Y11, Y55, Y7h, Y17, Bool.and_self]
  have hp : Y11 [syD s] = true := by simp only [Y11, Y17, hpl, Y55, Y7h, Bool.and_self]
  refine ACall.of_new (Yzz s ok t) hd hp fun d H' t' hk => ?_
  obtain ⟨x, g0, g1, g2, g3, z, cx, ck, rfl, rfl, h0, h1, h2, h3, rfl, rfl⟩ := hk
  obtain ⟨k, g, ps, R, tt⟩ := x
  obtain ⟨xk, xp, xr, xat, xnew, xg, xt⟩ := cx
  simp only at ck xk xp xr xat xnew xg xt
  subst ck
  refine ⟨⟨25, g0, [bks s.bs, rps s.rs]⟩ :: ⟨25, g1, _⟩ :: ⟨48, g2, bkC s.bs⟩ :: ⟨25, g3, _⟩ :: ⟨30, g, (roC s.rs ps).flatten⟩ :: R, rfl, ⟨xt, ?_, fun bl hbl => ?_⟩, ?_⟩
  · simp [inD, inL]
  · simp only [List.length_cons]
    have hz : inL (R.length + 1 + 1 + 1 + 1 + 1) [D.own 2 2 g2 0 s.bs.length, D.own 3 4 g 0 s.rs.length] = true := by simp [inL, inD]
    rcases List.mem_cons.1 hbl with rfl | hbl
    · exact ⟨h0, Y3u _ hpl⟩
    rcases List.mem_cons.1 hbl with rfl | hbl
    · exact ⟨h1, hz⟩
    rcases List.mem_cons.1 hbl with rfl | hbl
    · exact ⟨h2, Y3u _ (by have := Y55 s.bs; simpa only [Y17] using this)⟩
    rcases List.mem_cons.1 hbl with rfl | hbl
    · exact ⟨h3, hz⟩
    rcases List.mem_cons.1 hbl with rfl | hbl
    · refine ⟨xg, Yi6 fun d hd => ?_⟩
      obtain ⟨j, r, p, e1, e2, hm⟩ := Ywg hd
      obtain ⟨a1, a2⟩ := xat j r p e1 e2
      have := (List.getElem?_eq_some_iff.1 a2).1
      simp only [ro1, List.mem_cons, List.not_mem_nil, or_false] at hm
      rcases hm with rfl | rfl | rfl
      · rfl
      · simp only [inD, decide_eq_true_eq]
        omega
      · rfl
    · obtain ⟨a1, a2⟩ := xnew bl hbl
      refine ⟨a1, ?_⟩
      rcases a2 with ⟨l, e⟩ | ⟨r, p, e, hp'⟩
      · rw [e]
        refine Yi6 fun d hd => ?_
        obtain ⟨y, rfl⟩ := Yx1 l d hd
        rfl
      · rw [e]
        simp only [ro1, inL, inD, Bool.and_true, Bool.true_and, decide_eq_true_eq]
        omega
  · have hcb : CB s H.length (ps.map (shP H.length)) (R.map (shB H.length)) := by
      refine ⟨by simp [xp], by simp [xr], fun j r p hr hp' => ?_⟩
      rw [List.getElem?_map] at hp'
      cases e : ps[j]? with
      | none => rw [e] at hp'; simp at hp'
      | some q =>
        rw [e] at hp'
        simp only [Option.map_some, Option.some.injEq] at hp'
        subst hp'
        obtain ⟨a1, a2⟩ := xat j r q hr e
        refine ⟨by simp only [shP]; omega, ?_⟩
        rw [List.getElem?_map, a2, Option.map_some, shB, Yd8 (Yx1 r.hs)]
        rfl
    have hh := hK g2 g _ _ (shB H.length ⟨25, g0, [bks s.bs, rps s.rs]⟩) (shB H.length ⟨25, g1, [.own 2 2 g2 0 s.bs.length, .own 3 4 g 0 s.rs.length]⟩) (shB H.length ⟨25, g3, [.own 2 2 g2 0 s.bs.length, .own 3 4 g 0 s.rs.length]⟩) tt hcb xt
    have e1 : shB H.length ⟨48, g2, bkC s.bs⟩ = ⟨48, g2, bkC s.bs⟩ := by rw [shB, Yd8 (Y105 s.bs)]
    have e2 : shB H.length ⟨30, g, (roC s.rs ps).flatten⟩ = ⟨30, g, (roC s.rs (ps.map (shP H.length))).flatten⟩ := by rw [shB, Yv1]
    simp only [List.map_cons, e1, e2, shD, shL]
    rw [Nat.add_comm 2 H.length, Nat.add_comm 4 H.length]
    exact hh
structure LayR (m : Nat) (H2 : Hp) (rs : List Rp) (qs : List (Nat × Nat)) : Prop where
 lq : qs.length = rs.length
 at_ : ∀ (j : Nat) (r : Rp) (p : Nat × Nat), rs[j]? = some r → qs[j]? = some p → m ≤ p.1 ∧ H2[p.1 - m]? = some (some ⟨35, p.2, hdC r.hs⟩)
theorem Yj0 (m : Nat) (H2 : Hp) (k : Nat) {l : List D} (h : ∀ d ∈ l, ∃ x, d = .v x) : l.map (zv m H2 k) = l := by
 conv => rhs; rw [← List.map_id l]
 refine List.map_congr_left fun d hd => ?_
 obtain ⟨x, rfl⟩ := h d hd
 exact zv_v m H2 k x
theorem Yvs {m : Nat} {H2 : Hp} {b g k : Nat} {hs : List Hd} (hb : m ≤ b) (h : H2[b - m]? = some (some ⟨35, g, hdC hs⟩)) : zv m H2 (k + 1) (.own 4 b g 0 hs.length) = hds hs := by
 have hl := Y3i hs
 rw [zv]
 simp only [zz]
 rw [if_neg (by omega), h]
 simp only [true_and, Nat.zero_add, List.drop_zero]
 rw [if_pos (by omega), List.take_of_length_le (by omega), Yj0 m H2 k (Yx1 hs)]
theorem Yjg {m : Nat} {H2 : Hp} {k : Nat} : ∀ {rs : List Rp} {qs : List (Nat × Nat)}, LayR m H2 rs qs → (roC rs qs).flatten.map (zv m H2 (k + 1)) = rpC rs
 | [], qs, h => by
  have : qs = [] := by have := h.lq; simpa using this
  subst this
  rfl
 | r :: rs, [], h => by have := h.lq; simp at this
 | r :: rs, p :: qs, h => by
  have h0 := h.at_ 0 r p rfl rfl
  have ih := Yjg (k := k) (rs := rs) (qs := qs) ⟨by have := h.lq; simpa using this, fun j x y hx hy => h.at_ (j + 1) x y (by simpa using hx) (by simpa using hy)⟩
  unfold roC at ih ⊢
  rw [List.zipWith_cons_cons, List.flatten_cons, List.map_append, ih]
  simp only [ro1, List.map_cons, List.map_nil, zv_v, Yvs h0.1 h0.2]
  rfl
theorem Yrr {m : Nat} {H2 : Hp} {b g k : Nat} {rs : List Rp} {qs : List (Nat × Nat)} (h : LayR m H2 rs qs) (hb : m ≤ b) (hh : H2[b - m]? = some (some ⟨30, g, (roC rs qs).flatten⟩)) : zv m H2 (k + 1 + 1) (.own 3 b g 0 rs.length) = rps rs := by
 have hl := Ya7 h.lq
 rw [zv]
 simp only [zz]
 rw [if_neg (by omega), hh]
 simp only [true_and, Nat.zero_add, List.drop_zero]
 rw [if_pos (by omega), List.take_of_length_le (by omega), Yjg h]
theorem Ymx {m : Nat} {H2 : Hp} {b g k : Nat} {bs : List Bk} (hb : m ≤ b) (h : H2[b - m]? = some (some ⟨48, g, bkC bs⟩)) : zv m H2 (k + 1) (.own 2 b g 0 bs.length) = bks bs := by
 have hl := Y1z bs
 rw [zv]
 simp only [zz]
 rw [if_neg (by omega), h]
 simp only [true_and, Nat.zero_add, List.drop_zero]
 rw [if_pos (by omega), List.take_of_length_le (by omega), Yj0 m H2 k (Y105 bs)]
theorem Yz4 {rs : List Rp} {qs : List (Nat × Nat)} : ∀ {i : Nat} {r : Rp} {p : Nat × Nat}, rs[i]? = some r → qs[i]? = some p → (roC rs qs).flatten[i * 3 + 1]? = some (.own 4 p.1 p.2 0 r.hs.length) := by
 induction rs generalizing qs with
 | nil => intro i r p h; simp at h
 | cons x rs ih =>
  intro i r p hr hp
  cases qs with
  | nil => simp at hp
  | cons q qs =>
   cases i with
   | zero =>
    simp only [List.getElem?_cons_zero, Option.some.injEq] at hr hp
    subst hr hp
    rfl
   | succ i =>
    have := ih (qs := qs) (i := i) (r := r) (p := p) (by simpa using hr) (by simpa using hp)
    unfold roC at this ⊢
    rw [List.zipWith_cons_cons, List.flatten_cons]
    have e : (i + 1) * 3 + 1 = (i * 3 + 1) + (ro1 x q).length := by simp only [ro1, List.length_cons, List.length_nil]; omega
    rw [e, List.getElem?_append_right (by omega), Nat.add_sub_cancel]
    exact this
theorem Ys9 {l : List D} {i : Nat} {x : D} (h : l[i]? = some x) : (l.drop i).take 1 = [x] := by
 obtain ⟨h1, h2⟩ := List.getElem?_eq_some_iff.1 h
 rw [List.drop_eq_getElem_cons h1, h2]
 rfl
theorem ACall.of_readV {P : Program} {f : FuncId} {ds ds' : List D} {x : Value} {H : Hp} {t : Nat} {K : D → Hp → Nat → Prop} (k : Nat) (h : PRet P f ds' (.v x)) (hd : ds.map (rsv H k) = ds') (hk : K (.v x) H t) : ACall P f ds H t K := by
 refine fun w0 F G w us R hL => ?_
 subst hd
 have hL' : RepL (Y4s F w0.heap.size w) [] (ds.map (rsv H k)) us := Y1w (fun d u _ hd => Yhd R k d u hd) hL
 refine (h _ [] w us (Ygt R) (R.cnd.below R.below) hL').mono fun e w' hx => ?_
 obtain ⟨F', u, rfl, h1, h2, h3, h4, h5⟩ := hx
 have hat : F.at_ w' := fun b o x e => h3 b o x (h1 b o x (Y83 R b o x e))
 exact ⟨F, G, u, .v x, H, t, rfl, Onw.refl _ _ _, R.frame h5 (.refl _) hat (fun _ _ _ => rfl), by simpa only [Rep] using h4, hk⟩
end Go.Proofs.YtpbpafmgkdihlaaGreatDoor.T
namespace Go.Proofs.YtpbpafmgkdihlaaGreatDoor.T
open Go Go.RowKit
theorem Ydy {P Q : Prop} (q : Q) (h : Q → P := by
 intro  hq
 (try with_reducible intro KR hKR)
 (repeat refine Y00 ?_); (repeat refine Y00 ?_); (refine Y0d tab_ok Y06 0 fun KR hKR => ?_); simp only [List.replicate_succ, List.replicate_zero, List.append_nil, List.nil_append, List.cons_append, List.length_cons, List.length_nil, Nat.reduceAdd]; (repeat' ((first | refine Y2s rfl fun KK hKK => ?_ | refine Y2t rfl rfl fun KK hKK => ?_ | refine Y15 rfl fun KK hKK => ?_ | refine Y14 fun KK hKK => ?_); simp (disch := omega) only [bb, bt, zDs, zD, Y01, simprocAttr, bne_self_eq_false, Int.reduceBNe, Int.reduceBEq, Bool.bne_false, Bool.bne_true, Bool.false_bne, Bool.true_bne]; refine hKK _ _ _ ?_; clear hKK KK)); (refine Y0k ?_); simp only [List.reverse_cons, List.reverse_nil, List.nil_append, List.cons_append]; (refine hKR _ _ (by first | rfl | kernel_rfl) ?_); (try clear hKR KR); (refine qq1 ?_)
 (first | exact hq | (revert hKR; revert KR; exact hq))) : P := h  q
abbrev tbC (c w d b : Int) : List D := [.sl 1 [.sl 1 [int c, int 1, int w] false] false, int d, .sl 1 [int b] false, .sl 1 [int 1] false, .sl 1 [int 1] false, int 1, int 2]
theorem Yyp (c w d b j : Int) (hj : 0 ≤ j ∧ j ≤ 1) : PRet Tryz.prog 116 [.rp (tbC c w d b) 0, int j] (int (1 - j)) := by
 refine pri 1 Tryz.func116 Tryz.ntmps116 fun t => ?_
 simp only [Y04]
 obtain rfl | rfl : j = 0 ∨ j = 1 := by omega
 ·refine gga0 ?_
  exact exx Tryz.results116
 ·refine gga0 ?_
  exact exx Tryz.results116
theorem Yys (c w d : Int) (hc : 0 ≤ c ∧ c ≤ 1048576) : PRet Tryz.prog 118 [.rp (tbC c w d 0) 0, int 0] (int 0) := by
 refine pri 1 Tryz.func118 Tryz.ntmps118 fun t => ?_
 simp only [Y04]
 refine gga0 ?_
 repeat refine Y00 ?_
 refine Y0i (fun y : Nat => ⟨[(5, int 0)], [], y⟩) (fun _ => True) ?_ ?_
 ·refine Y02 ?_
  refine Y05 (fun y : (Int × Int) × Nat => ⟨[(0, .rp (tbC c w d 0) 0), (1, int 0), (5, int y.1.2), (11, .sl 1 [.sl 1 [int c, int 1, int w] false] false), (12, int 1), (13, int y.1.1)], [], y.2⟩) (fun y => (1 - y.1.1).toNat) (fun y => y.1 = (0, 0) ∨ y.1 = (1, 0)) ((0, 0), t) (.inl rfl) ele ?_
  rintro ⟨⟨k, z⟩, tt⟩ hh
  simp only [Prod.mk.injEq] at hh
  rcases hh with ⟨rfl, rfl⟩ | ⟨rfl, rfl⟩
  ·refine gga0 ?_
   repeat refine Y00 ?_
   refine Y02 ?_
   refine wqa ?_
   ((repeat refine Y00 ?_); (refine Ydy ?_))
   refine ggb0 @Int.zero_add ?_
   refine ⟨((1, 0), tt + 1), .inr rfl, by show ((1 : Int) - 1).toNat < ((1 : Int) - 0).toNat; decide, ?_⟩
   exact ele
  ·refine gga0 ?_
   refine ⟨tt, trivial, ?_⟩
   exact ele
 rintro y -
 refine gga0 ?_
 exact exx Tryz.results118
theorem Yyr (c w d : Int) (hc : 0 ≤ c ∧ c ≤ 1048576) : PRet Tryz.prog 118 [.rp (tbC c w d 1) 0, int 0] (int c) := by
 refine pri 1 Tryz.func118 Tryz.ntmps118 fun t => ?_
 simp only [Y04]
 refine gga0 ?_
 repeat refine Y00 ?_
 refine Y0i (fun y : Nat => ⟨[(5, int c)], [], y⟩) (fun _ => True) ?_ ?_
 ·refine Y02 ?_
  refine Y05 (fun y : (Int × Int) × Nat => ⟨[(0, .rp (tbC c w d 1) 0), (1, int 0), (5, int y.1.2), (11, .sl 1 [.sl 1 [int c, int 1, int w] false] false), (12, int 1), (13, int y.1.1)], [], y.2⟩) (fun y => (1 - y.1.1).toNat) (fun y => y.1 = (0, 0) ∨ y.1 = (1, c)) ((0, 0), t) (.inl rfl) ele ?_
  rintro ⟨⟨k, z⟩, tt⟩ hh
  simp only [Prod.mk.injEq] at hh
  rcases hh with ⟨rfl, rfl⟩ | ⟨rfl, rfl⟩
  ·refine gga0 ?_
   repeat refine Y00 ?_
   refine Y02 ?_
   refine wqa ?_
   ((repeat refine Y00 ?_); (refine Ydy ?_))
   refine ggb0 @Int.zero_add ?_
   refine ⟨((1, c), tt + 1), .inr rfl, by show ((1 : Int) - 1).toNat < ((1 : Int) - 0).toNat; decide, ?_⟩
   exact ele
  ·refine gga0 ?_
   refine ⟨tt, trivial, ?_⟩
   exact ele
 rintro y -
 refine gga0 ?_
 exact exx Tryz.results118
theorem Yyq (c w d : Int) (hc : 0 ≤ c ∧ c ≤ 1048576) : PRet Tryz.prog 118 [.rp (tbC c w d 0) 0, int 2] (int 0) := by
 refine pri 1 Tryz.func118 Tryz.ntmps118 fun t => ?_
 simp only [Y04]
 refine gga0 ?_
 repeat refine Y00 ?_
 refine Y0i (fun y : Nat => ⟨[(5, int 0)], [], y⟩) (fun _ => True) ?_ ?_
 ·refine Y02 ?_
  refine Y05 (fun y : (Int × Int) × Nat => ⟨[(0, .rp (tbC c w d 0) 0), (1, int 2), (5, int y.1.2), (11, .sl 1 [.sl 1 [int c, int 1, int w] false] false), (12, int 1), (13, int y.1.1)], [], y.2⟩) (fun y => (1 - y.1.1).toNat) (fun y => y.1 = (0, 0) ∨ y.1 = (1, 0)) ((0, 0), t) (.inl rfl) ele ?_
  rintro ⟨⟨k, z⟩, tt⟩ hh
  simp only [Prod.mk.injEq] at hh
  rcases hh with ⟨rfl, rfl⟩ | ⟨rfl, rfl⟩
  ·refine gga0 ?_
   repeat refine Y00 ?_
   refine Y02 ?_
   refine wqa ?_
   ((repeat refine Y00 ?_); (refine Ydy ?_))
   refine ggb0 @Int.zero_add ?_
   refine ⟨((1, 0), tt + 1), .inr rfl, by show ((1 : Int) - 1).toNat < ((1 : Int) - 0).toNat; decide, ?_⟩
   exact ele
  ·refine gga0 ?_
   refine ⟨tt, trivial, ?_⟩
   exact ele
 rintro y -
 refine gga0 ?_
 exact exx Tryz.results118
theorem Yyo (c w : Int) (hc : 1 ≤ c ∧ c ≤ 1048576) : PRet Tryz.prog 153 [.rp (tbC c w 1 1) 0, int 0] (int 0) := by
 refine pri 1 Tryz.func153 Tryz.ntmps153 fun t => ?_
 simp only [Y04]
 have e1 : (c ≤ 0) = False := by simp; omega
 refine gga0 ?_
 repeat refine Y00 ?_
 refine Y0i (fun y : Nat => ⟨[(5, int 0)], [], y⟩) (fun _ => True) ?_ ?_
 ·refine Y02 ?_
  refine Y05 (fun y : (Int × Int) × Nat => ⟨[(0, .rp (tbC c w 1 1) 0), (1, int 0), (5, int y.1.2), (12, .sl 1 [.sl 1 [int c, int 1, int w] false] false), (13, int 1), (14, int y.1.1)], [], y.2⟩) (fun y => (1 - y.1.1).toNat) (fun y => y.1 = (0, -1) ∨ y.1 = (1, 0)) ((0, -1), t) (.inl rfl) ele ?_
  rintro ⟨⟨k, z⟩, tt⟩ hh
  simp only [Prod.mk.injEq] at hh
  rcases hh with ⟨rfl, rfl⟩ | ⟨rfl, rfl⟩
  ·refine gga0 ?_
   repeat refine Y00 ?_
   refine Y02 ?_
   refine ggb0 e1 ?_
   refine ⟨((1, 0), tt), .inr rfl, by show ((1 : Int) - 1).toNat < ((1 : Int) - 0).toNat; decide, ?_⟩
   exact ele
  ·refine gga0 ?_
   refine ⟨tt, trivial, ?_⟩
   exact ele
 rintro y -
 refine gga0 ?_
 exact exx Tryz.results153
theorem Ys4 (c w : Int) (hc : 1 ≤ c ∧ c ≤ 1048576) : PRet Tryz.prog 154 [.rp (tbC c w c 0) 0, int 0] (int 0) := by
 refine pri 1 Tryz.func154 Tryz.ntmps154 fun t => ?_
 simp only [Y04]
 have hC := Yyp c w c 0 0 (by decide)
 refine wqa ?_
 ((repeat refine Y00 ?_); (refine Y6h @Int.one_mul hC ?_))
 refine gga0 ?_
 repeat refine Y00 ?_
 refine Y0i (fun y : Nat => ⟨[(5, int 0)], [], y⟩) (fun _ => True) ?_ ?_
 ·refine Y02 ?_
  refine Y05 (fun y : (Int × Int) × Nat => ⟨[(0, .rp (tbC c w c 0) 0), (1, int 0), (5, int y.1.2), (19, .sl 1 [.sl 1 [int c, int 1, int w] false] false), (20, int 1), (21, int y.1.1)], [], y.2⟩) (fun y => (1 - y.1.1).toNat) (fun y => y.1 = (0, c) ∨ y.1 = (1, 0)) ((0, c), t + 1) (.inl rfl) ele ?_
  rintro ⟨⟨k, z⟩, tt⟩ hh
  simp only [Prod.mk.injEq] at hh
  rcases hh with ⟨rfl, rfl⟩ | ⟨rfl, rfl⟩
  ·refine gga0 ?_
   repeat refine Y00 ?_
   refine Y02 ?_
   refine wqa ?_
   ((repeat refine Y00 ?_); (refine Y6h (F := _∧_) ⟨@Int.one_mul, @Int.sub_self⟩ hC ?_))
   refine gga0 ?_
   refine ⟨((1, 0), tt + 1), .inr rfl, by show ((1 : Int) - 1).toNat < ((1 : Int) - 0).toNat; decide, ?_⟩
   exact ele
  ·refine gga0 ?_
   refine ⟨tt, trivial, ?_⟩
   exact ele
 rintro y -
 refine gga0 ?_
 exact exx Tryz.results154
theorem Yyn (c w d b n : Int) (hn : -9223372036854775808 ≤ n ∧ n ≤ 9223372036854775807) (hd : -9223372036854775808 ≤ d ∧ d ≤ 9223372036854775807) : PRet Tryz.prog 117 [.rp (tbC c w d b) 0, int n] (frD (Y1b n d).1) := by
 refine pri 1 Tryz.func117 Tryz.ntmps117 fun t => ?_
 simp only [Y04]
 have hM := make n d hn hd
 generalize Y1b n d = M at *
 refine gga1 hM ?_
 exact exx Tryz.results117
theorem Ys6 (c w : Int) (hc : 1 ≤ c ∧ c ≤ 1048576) : PRet Tryz.prog 115 [.rp (tbC c w c 0) 0] (bool true) := by
 refine pri 1 Tryz.func115 Tryz.ntmps115 fun t => ?_
 simp only [Y04]
 have hR := Ys4 c w hc
 refine wqa ?_
 repeat refine Y00 ?_
 refine Y02 ?_
 refine Y05 (fun y : Nat => ⟨[(0, .rp (tbC c w c 0) 0)], [], y⟩) (fun _ => 0) (fun _ => True) t trivial ele ?_
 rintro tt -
 repeat refine Y00 ?_
 refine Y02 ?_
 refine gga0 ?_
 repeat refine Y00 ?_
 refine Y0i (fun y : Nat => ⟨[(0, .rp (tbC c w c 0) 0), (3, int (-1))], [], y⟩) (fun _ => True) ?_ ?_
 ·refine Y02 ?_
  refine Y05 (fun y : Int × Nat => ⟨[(0, .rp (tbC c w c 0) 0), (3, int (-1)), (4, int y.1)], [], y.2⟩) (fun y => (1 - y.1).toNat) (fun y => y.1 = 0 ∨ y.1 = 1) (0, tt) (.inl rfl) ele ?_
  rintro ⟨k, t2⟩ hh
  simp only at hh
  rcases hh with rfl | rfl
  ·refine gga0 ?_
   repeat refine Y00 ?_
   refine Y02 ?_
   refine gga1 hR ?_
   refine ⟨(1, t2), .inr rfl, by show ((1 : Int) - 1).toNat < ((1 : Int) - 0).toNat; decide, ?_⟩
   exact ele
  ·refine gga0 ?_
   refine ⟨t2, trivial, ?_⟩
   exact ele
 rintro y -
 refine gga0 ?_
 exact exx Tryz.results115
end Go.Proofs.YtpbpafmgkdihlaaGreatDoor.T
