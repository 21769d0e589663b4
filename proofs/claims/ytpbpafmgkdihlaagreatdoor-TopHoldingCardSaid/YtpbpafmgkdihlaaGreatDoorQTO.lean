import Derived.Below
import Derived.Maps.AppendAt
import Derived.Deep.Draws
import Derived.WalkKit
import Derived.Laws.StructEq
import Derived.MapKept
import Derived.Lib.ItoaNum
set_option linter.all false
namespace Go.Proofs.YtpbpafmgkdihlaaGreatDoor.T
open Go Go.RowKit
inductive D where
 | v (x : Value)
 | sl (sz : Nat) (cells : List D) (full : Bool)
 | rp (cells : List D) (off : Nat)
 | own (sz b g lo n : Nat)
 | ptr (b g off : Nat)
 | agg (cells : List D)
 | tup (ds : List D)
 | fn (f : FuncId) (caps : List D)
 | mp (b g : Nat)
 | any
instance : Inhabited D := ⟨.any⟩
abbrev Mem := Nat → Nat → Option Value
def Mem.le (F F' : Mem) : Prop := ∀ b o x, F b o = some x → F' b o = some x
def Mem.at_ (F : Mem) (w : World) : Prop := ∀ b o x, F b o = some x → w.cell? ⟨b, o, none⟩ = some x
structure Pl where
 r : Option (Nat × Nat)
 g : Nat
 m : Bool
def Pl.le (p q : Pl) : Prop := p = q ∨ p.g < q.g
abbrev Ghost := List Pl
def Ghost.le (n : Nat) (a b : Ghost) : Prop := ∀ i p, i < n → a[i]? = some p → ∃ q, b[i]? = some q ∧ p.le q
mutual
def Rep (F : Mem) (G : Ghost) : D → Value → Prop
  | .v x, u => u = x
  | .sl sz cs full, u => ∃ a len cap, u = .slice a len cap ∧ len * sz = cs.length ∧ len ≤ cap ∧ (full = true → cap = len) ∧
      (cs = [] ∨ ∃ blk off vs, a = some ⟨blk, off, none⟩ ∧ (∀ j x, vs[j]? = some x → F blk (off + j) = some x) ∧ RepL F G cs vs)
  | .rp cs o, u => ∃ blk off vs, u = .pointer (some ⟨blk, off + o, none⟩) ∧ (∀ j x, vs[j]? = some x → F blk (off + j) = some x) ∧ RepL F G cs vs
  | .own sz b g lo n, u => u.oneCell' = true ∧ ∃ p, G[b]? = some p ∧ g ≤ p.g ∧ (p.g = g → p.m = false ∧ match p.r with
      | none => (∃ a, u = .slice a 0 0) ∧ n = 0 ∧ lo = 0
      | some (r, size) => ∃ cap, u = .slice (some ⟨r, lo, none⟩) n cap ∧ n ≤ cap ∧ cap ≤ maxLen ∧ lo + cap * sz = size)
  | .ptr b g o, u => u.oneCell' = true ∧ ∃ p, G[b]? = some p ∧ g ≤ p.g ∧ (p.g = g → p.m = false ∧ match p.r with
      | none => False
      | some (r, _) => u = .pointer (some ⟨r, o, none⟩))
  | .agg cs, u => ∃ vs : List Value, u = .agg vs.toArray ∧ RepL F G cs vs
  | .tup cs, u => ∃ vs : List Value, u = .tuple vs.toArray ∧ RepL F G cs vs
  | .fn f cs, u => ∃ vs : List Value, u = .func (.func f) #[] vs.toArray ∧ RepL F G cs vs
  | .mp b g, u => u.oneCell' = true ∧ ∃ p, G[b]? = some p ∧ g ≤ p.g ∧ (p.g = g → p.m = true ∧ ∃ r s, p.r = some (r, s) ∧ u = .map (some r))
  | .any, _ => True
def RepL (F : Mem) (G : Ghost) : List D → List Value → Prop
 | [], vs => vs = []
 | d :: ds, vs => ∃ u us, vs = u :: us ∧ Rep F G d u ∧ RepL F G ds us
end
mutual
theorem Rep.mono {F F' : Mem} {G G' : Ghost} (hF : F.le F') (hG : Ghost.le G.length G G') : ∀ (d : D) (u : Value), Rep F G d u → Rep F' G' d u
 | .v x, u, h => by simpa [Rep] using h
 | .sl sz cs full, u, h => by
  simp only [Rep] at h ⊢
  obtain ⟨a, len, cap, h1, h2, h3, h4, h5⟩ := h
  refine ⟨a, len, cap, h1, h2, h3, h4, h5.imp id ?_⟩
  rintro ⟨blk, off, vs, e, hc, hr⟩
  exact ⟨blk, off, vs, e, fun j x hx => hF _ _ _ (hc j x hx), RepL.mono hF hG cs vs hr⟩
 | .rp cs o, u, h => by
  simp only [Rep] at h ⊢
  obtain ⟨blk, off, vs, e, hc, hr⟩ := h
  exact ⟨blk, off, vs, e, fun j x hx => hF _ _ _ (hc j x hx), RepL.mono hF hG cs vs hr⟩
 | .own sz b g lo n, u, h => by
  simp only [Rep] at h ⊢
  obtain ⟨h1, p, hp, hg, h⟩ := h
  obtain ⟨q, hq, rfl | hlt⟩ := hG b p ((List.getElem?_eq_some_iff.1 hp).1) hp
  ·exact ⟨h1, p, hq, hg, h⟩
  ·exact ⟨h1, q, hq, by omega, fun e => by omega⟩
 | .ptr b g o, u, h => by
  simp only [Rep] at h ⊢
  obtain ⟨h1, p, hp, hg, h⟩ := h
  obtain ⟨q, hq, rfl | hlt⟩ := hG b p ((List.getElem?_eq_some_iff.1 hp).1) hp
  ·exact ⟨h1, p, hq, hg, h⟩
  ·exact ⟨h1, q, hq, by omega, fun e => by omega⟩
 | .mp b g, u, h => by
  simp only [Rep] at h ⊢
  obtain ⟨h1, p, hp, hg, h⟩ := h
  obtain ⟨q, hq, rfl | hlt⟩ := hG b p ((List.getElem?_eq_some_iff.1 hp).1) hp
  ·exact ⟨h1, p, hq, hg, h⟩
  ·exact ⟨h1, q, hq, by omega, fun e => by omega⟩
 | .agg cs, u, h => by
  simp only [Rep] at h ⊢
  obtain ⟨vs, e, hr⟩ := h
  exact ⟨vs, e, RepL.mono hF hG cs vs hr⟩
 | .tup cs, u, h => by
  simp only [Rep] at h ⊢
  obtain ⟨vs, e, hr⟩ := h
  exact ⟨vs, e, RepL.mono hF hG cs vs hr⟩
 | .fn f cs, u, h => by
  simp only [Rep] at h ⊢
  obtain ⟨vs, e, hr⟩ := h
  exact ⟨vs, e, RepL.mono hF hG cs vs hr⟩
 | .any, u, h => by simp only [Rep]
theorem RepL.mono {F F' : Mem} {G G' : Ghost} (hF : F.le F') (hG : Ghost.le G.length G G') : ∀ (ds : List D) (us : List Value), RepL F G ds us → RepL F' G' ds us
 | [], us, h => by simpa [RepL] using h
 | d :: ds, us, h => by
  simp only [RepL] at h ⊢
  obtain ⟨u, us', e, h1, h2⟩ := h
  exact ⟨u, us', e, Rep.mono hF hG d u h1, RepL.mono hF hG ds us' h2⟩
end
theorem Mem.le.refl (F : Mem) : F.le F := fun _ _ _ h => h
theorem Mem.le.trans {F F' F'' : Mem} (h : F.le F') (h' : F'.le F'') : F.le F'' := fun b o x e => h' b o x (h b o x e)
theorem Pl.le.refl (p : Pl) : p.le p := .inl rfl
theorem Pl.le.trans {p q r : Pl} (h : p.le q) (h' : q.le r) : p.le r := by
 rcases h with rfl | h
 ·exact h'
 ·rcases h' with rfl | h'
  ·exact .inr h
  ·exact .inr (Nat.lt_trans h h')
theorem Ghost.le.refl (n : Nat) (G : Ghost) : Ghost.le n G G := fun _ p _ h => ⟨p, h, .refl p⟩
theorem Ghost.le.trans {n : Nat} {G G' G'' : Ghost} (h : Ghost.le n G G') (h' : Ghost.le n G' G'') : Ghost.le n G G'' := fun i p hi hp => by
 obtain ⟨q, hq, l⟩ := h i p hi hp
 obtain ⟨r, hr, l'⟩ := h' i q hi hq
 exact ⟨r, hr, l.trans l'⟩
theorem Ghost.le.less {n m : Nat} {G G' : Ghost} (h : Ghost.le n G G') (hm : m ≤ n) : Ghost.le m G G' := fun i p hi hp => h i p (by omega) hp
theorem RepL.length {F : Mem} {G : Ghost} : ∀ {ds : List D} {us : List Value}, RepL F G ds us → us.length = ds.length
 | [], us, h => by simp only [RepL] at h; subst h; rfl
 | d :: ds, us, h => by
  simp only [RepL] at h
  obtain ⟨u, us', rfl, _, h2⟩ := h
  simp [RepL.length h2]
theorem RepL.get {F : Mem} {G : Ghost} : ∀ {ds : List D} {us : List Value}, RepL F G ds us → ∀ {i : Nat} {d : D}, ds[i]? = some d → ∃ u, us[i]? = some u ∧ Rep F G d u
 | [], us, h, i, d, hd => by simp at hd
 | d :: ds, us, h, i, d', hd => by
  simp only [RepL] at h
  obtain ⟨u, us', rfl, h1, h2⟩ := h
  cases i with
  | zero => simp at hd; subst hd; exact ⟨u, by simp, h1⟩
  | succ i => simp at hd; simpa using RepL.get h2 hd
theorem RepL.set {F : Mem} {G : Ghost} : ∀ {ds : List D} {us : List Value}, RepL F G ds us → ∀ (i : Nat) {d : D} {u : Value}, Rep F G d u → RepL F G (ds.set i d) (us.set i u)
 | [], us, h, i, d, u, hd => by simp only [RepL] at h; subst h; simp [RepL]
 | d :: ds, us, h, i, d', u', hd => by
  simp only [RepL] at h
  obtain ⟨u, us', rfl, h1, h2⟩ := h
  cases i with
  | zero => simp only [List.set_cons_zero, RepL]; exact ⟨u', us', rfl, hd, h2⟩
  | succ i => simp only [List.set_cons_succ, RepL]; exact ⟨u, _, rfl, h1, RepL.set h2 i hd⟩
theorem RepL.append {F : Mem} {G : Ghost} : ∀ {ds ds' : List D} {us us' : List Value}, RepL F G ds us → RepL F G ds' us' → RepL F G (ds ++ ds') (us ++ us')
 | [], ds', us, us', h, h' => by simp only [RepL] at h; subst h; simpa using h'
 | d :: ds, ds', us, us', h, h' => by
  simp only [RepL] at h
  obtain ⟨u, us1, rfl, h1, h2⟩ := h
  simp only [List.cons_append, RepL]
  exact ⟨u, _, rfl, h1, RepL.append h2 h'⟩
theorem RepL.take {F : Mem} {G : Ghost} : ∀ {ds : List D} {us : List Value}, RepL F G ds us → ∀ n, RepL F G (ds.take n) (us.take n)
 | [], us, h, n => by simp only [RepL] at h; subst h; simp [RepL]
 | d :: ds, us, h, n => by
  simp only [RepL] at h
  obtain ⟨u, us', rfl, h1, h2⟩ := h
  cases n with
  | zero => simp [RepL]
  | succ n => simp only [List.take_succ_cons, RepL]; exact ⟨u, _, rfl, h1, RepL.take h2 n⟩
theorem RepL.drop {F : Mem} {G : Ghost} : ∀ {ds : List D} {us : List Value}, RepL F G ds us → ∀ n, RepL F G (ds.drop n) (us.drop n)
 | [], us, h, n => by simp only [RepL] at h; subst h; simp [RepL]
 | d :: ds, us, h, n => by
  cases n with
  | zero => simpa using h
  | succ n =>
   simp only [RepL] at h
   obtain ⟨u, us', rfl, h1, h2⟩ := h
   simpa using RepL.drop h2 n
theorem RepL.of_get {F : Mem} {G : Ghost} : ∀ {ds : List D} {us : List Value}, us.length = ds.length → (∀ (i : Nat) (d : D) (u : Value), ds[i]? = some d → us[i]? = some u → Rep F G d u) → RepL F G ds us
 | [], us, h, _ => by simp only [RepL]; exact List.eq_nil_of_length_eq_zero (by simpa using h)
 | d :: ds, [], h, _ => by simp at h
 | d :: ds, u :: us, h, hr => by
  simp only [RepL]
  exact ⟨u, us, rfl, hr 0 d u (by simp) (by simp), RepL.of_get (by simpa using h) fun (i : Nat) (d : D) (u : Value) hd hu => hr (i + 1) d u (by simpa using hd) (by simpa using hu)⟩
structure Blk where
 ty : TypeId
 g : Nat
 cells : List D
abbrev Hp := List (Option Blk)
def RepM : List D → List MapEntry → Prop
 | [], es => es = []
 | .v k :: .v x :: ds, es => ∃ e es', es = e :: es' ∧ e.key = k ∧ e.val = x ∧ RepM ds es'
 | _, _ => False
def Lies (w0 : World) (F : Mem) (G : Ghost) (w : World) (bl : Blk) (p : Pl) : Prop :=
 p.g = bl.g ∧ match p.r with
  | none => p.m = false ∧ bl.cells = []
  | some (r, size) => w0.heap.size ≤ r ∧ (∀ o, F r o = none) ∧ match p.m with
   | false => ∃ vs junk : List Value, w.heap[r]? = some (.cells (vs ++ junk).toArray bl.ty (0, 0)) ∧ vs.length + junk.length = size ∧ RepL F G bl.cells vs
   | true => ∃ es clock, w.heap[r]? = some (.map es clock) ∧ RepM bl.cells es.toList
def Cnd (w : World) : Prop := ∃ t x, w.heap[2]? = some (.cells (Lib.pow10Tab.map fun z => Value.int .u64 z).toArray t x)
theorem Cnd.below {w w' : World} (h : Cnd w) (hb : Below w.heap.size w w') : Cnd w' := by
 obtain ⟨t, x, e⟩ := h
 exact ⟨t, x, (hb.block _ (Array.getElem?_eq_some_iff.1 e).1).trans e⟩
structure Rel (w0 : World) (F : Mem) (G : Ghost) (H : Hp) (t : Nat) (w : World) : Prop where
 below : Below w0.heap.size w0 w
 mem : F.at_ w
 len : H.length ≤ G.length
 top : ∀ (i : Nat) (p : Pl), G[i]? = some p → p.g ≤ t
 own : ∀ (i : Nat) (bl : Blk), H[i]? = some (some bl) → ∃ p, G[i]? = some p ∧ Lies w0 F G w bl p
 inj : ∀ (i j : Nat) (bi bj : Blk) (p q : Pl) (r s t u : Nat), i ≠ j → H[i]? = some (some bi) → H[j]? = some (some bj) → G[i]? = some p → G[j]? = some q → p.r = some (r, s) → q.r = some (t, u) → r ≠ t
 cnd : Cnd w0
theorem Mem.at_.lt {F : Mem} {w : World} (h : F.at_ w) {b o : Nat} {x : Value} (e : F b o = some x) : b < w.heap.size := World.block_lt_of_cell? w _ (h b o x e)
theorem Lies.lt {w0 : World} {F : Mem} {G : Ghost} {w : World} {bl : Blk} {p : Pl} (h : Lies w0 F G w bl p) {r s : Nat} (hr : p.r = some (r, s)) : r < w.heap.size ∧ w0.heap.size ≤ r := by
 obtain ⟨_, h⟩ := h
 rw [hr] at h
 obtain ⟨h1, _, h⟩ := h
 cases hm : p.m with
 | false =>
  rw [hm] at h
  obtain ⟨vs, junk, hh, _⟩ := h
  exact ⟨(Array.getElem?_eq_some_iff.1 hh).1, h1⟩
 | true =>
  rw [hm] at h
  obtain ⟨es, clock, hh, _⟩ := h
  exact ⟨(Array.getElem?_eq_some_iff.1 hh).1, h1⟩
theorem Lies.mono {w0 : World} {F F' : Mem} {G G' : Ghost} {w w' : World} {bl : Blk} {p : Pl} (h : Lies w0 F G w bl p) (hF : F.le F') (hG : Ghost.le G.length G G')
    (hk : ∀ r s, p.r = some (r, s) → w'.heap[r]? = w.heap[r]? ∧ ∀ o, F' r o = none) : Lies w0 F' G' w' bl p := by
  obtain ⟨h0, h⟩ := h
  refine ⟨h0, ?_⟩
  cases hr : p.r with
  | none => rw [hr] at h; exact h
  | some rs =>
    obtain ⟨r, s⟩ := rs
    rw [hr] at h
    obtain ⟨h1, _, h⟩ := h
    obtain ⟨k1, k2⟩ := hk r s hr
    refine ⟨h1, k2, ?_⟩
    cases hm : p.m with
    | false =>
      rw [hm] at h
      obtain ⟨vs, junk, hh, hl, hrep⟩ := h
      exact ⟨vs, junk, k1.trans hh, hl, RepL.mono hF hG _ _ hrep⟩
    | true =>
      rw [hm] at h
      obtain ⟨es, clock, hh, hrep⟩ := h
      exact ⟨es, clock, k1.trans hh, hrep⟩
theorem Rel.frame {w0 : World} {F F' : Mem} {G : Ghost} {H : Hp} {t : Nat} {w w' : World} (R : Rel w0 F G H t w) (hb : Below w.heap.size w w') (hF : F.le F') (hF' : F'.at_ w') (ho : ∀ b o, b < w.heap.size → F' b o = F b o) : Rel w0 F' G H t w' where
 below := R.below.trans (hb.mono R.below.size)
 mem := hF'
 len := R.len
 top := R.top
 own := fun i bl hi => by
  obtain ⟨p, hp, hl⟩ := R.own i bl hi
  refine ⟨p, hp, hl.mono hF (Ghost.le.refl _ _) fun r s hr => ?_⟩
  obtain ⟨l1, l2⟩ := hl.lt hr
  refine ⟨hb.block r l1, fun o => ?_⟩
  rw [ho r o l1]
  obtain ⟨_, h⟩ := hl
  rw [hr] at h
  exact h.2.1 o
 inj := R.inj
 cnd := R.cnd
theorem Rel.extend {w0 : World} {F : Mem} {G : Ghost} {H : Hp} {t : Nat} {w : World} (R : Rel w0 F G H t w) : Rel w0 F (G ++ [⟨none, 0, false⟩]) H t w where
 below := R.below
 mem := R.mem
 len := by have := R.len; simp; omega
 top := fun i p hp => by
  rcases Nat.lt_or_ge i G.length with h | h
  ·rw [List.getElem?_append_left h] at hp; exact R.top i p hp
  ·rw [List.getElem?_append_right h] at hp
   by_cases e : i - G.length = 0
   ·rw [e] at hp; simp at hp; subst hp; exact Nat.zero_le _
   ·rw [List.getElem?_eq_none (by simp; omega)] at hp; cases hp
 own := fun i bl hi => by
  have hlt : i < G.length := Nat.lt_of_lt_of_le (List.getElem?_eq_some_iff.1 hi).1 R.len
  obtain ⟨p, hp, hl⟩ := R.own i bl hi
  refine ⟨p, by rw [List.getElem?_append_left hlt]; exact hp, hl.mono (Mem.le.refl _) (fun j q hj hq => ⟨q, by rw [List.getElem?_append_left hj]; exact hq, .refl q⟩) fun r s hr => ⟨rfl, ?_⟩⟩
  obtain ⟨_, h⟩ := hl
  rw [hr] at h
  exact h.2.1
 inj := fun i j bi bj p q r s t u hij hi hj hp hq hr ht => by
  have key : ∀ (k : Nat) (b : Blk), H[k]? = some (some b) → k < G.length := fun k b hk => Nat.lt_of_lt_of_le (List.getElem?_eq_some_iff.1 hk).1 R.len
  rw [List.getElem?_append_left (key i bi hi)] at hp
  rw [List.getElem?_append_left (key j bj hj)] at hq
  exact R.inj i j bi bj p q r s t u hij hi hj hp hq hr ht
 cnd := R.cnd
def setH (H : Hp) (b : Nat) (bl : Blk) : Hp := if b = H.length then H ++ [some bl] else H.set b (some bl)
theorem Ya5 {H : Hp} {b : Nat} (bl : Blk) (h : b ≤ H.length) : (setH H b bl)[b]? = some (some bl) := by
 unfold setH
 split
 ·rename_i e; subst e; simp
 ·rw [List.getElem?_set_self (by omega)]
theorem Y5m {H : Hp} {b i : Nat} (bl : Blk) (h : i ≠ b) : (setH H b bl)[i]? = H[i]? := by
 unfold setH
 split
 ·rename_i e; subst e
  rcases Nat.lt_or_ge i H.length with h' | h'
  ·rw [List.getElem?_append_left h']
  ·rw [List.getElem?_eq_none (by simp; omega), List.getElem?_eq_none h']
 ·rw [List.getElem?_set_ne (Ne.symm h)]
theorem Yha {H : Hp} {b : Nat} (bl : Blk) : H.length ≤ (setH H b bl).length ∧ (∀ i, (setH H b bl).length ≤ i → H.length ≤ i) ∧ (b ≤ H.length → b < (setH H b bl).length) ∧ ∀ n, b < n → H.length ≤ n → (setH H b bl).length ≤ n := by
 unfold setH
 split
 ·rename_i e
  refine ⟨by simp, fun i h => ?_, fun _ => ?_, fun n h1 h2 => ?_⟩ <;> simp at * <;> omega
 ·rename_i e
  refine ⟨by simp, fun i h => ?_, fun _ => ?_, fun n h1 h2 => ?_⟩ <;> simp at * <;> omega
theorem Ghost.le_set {G : Ghost} {b : Nat} {p p' : Pl} (h : G[b]? = some p) (hle : p.le p') (n : Nat) : Ghost.le n G (G.set b p') := fun i q _ hq => by
 by_cases e : b = i
 ·subst e
  rw [h] at hq
  cases hq
  exact ⟨p', by rw [List.getElem?_set_self (List.getElem?_eq_some_iff.1 h).1], hle⟩
 ·exact ⟨q, by rw [List.getElem?_set_ne e]; exact hq, .refl q⟩
theorem Rel.more {w0 : World} {F : Mem} {G : Ghost} {H : Hp} {t t' : Nat} {w : World} (R : Rel w0 F G H t w) (h : t ≤ t') : Rel w0 F G H t' w := ⟨R.below, R.mem, R.len, fun i p hp => Nat.le_trans (R.top i p hp) h, R.own, R.inj, R.cnd⟩
theorem Rel.put {w0 : World} {F F' : Mem} {G : Ghost} {H : Hp} {t : Nat} {w w' : World} (R : Rel w0 F G H t w) {b : Nat} {bl : Blk} {p p' : Pl} {t' : Nat} (ht : t ≤ t') (hgt : p'.g ≤ t') (hb : b ≤ H.length) (hp : G[b]? = some p) (hle : p.le p')
    (hw : Below w0.heap.size w w') (hF : F.le F') (hF' : F'.at_ w')
    (keep : ∀ (i : Nat) (bi : Blk) (q : Pl) (r s : Nat), i ≠ b → H[i]? = some (some bi) → G[i]? = some q → q.r = some (r, s) → w'.heap[r]? = w.heap[r]? ∧ (∀ o, F' r o = none) ∧ ∀ (r' s' : Nat), p'.r = some (r', s') → r ≠ r')
    (new : Lies w0 F' (G.set b p') w' bl p') : Rel w0 F' (G.set b p') (setH H b bl) t' w' := by
  have hbG : b < G.length := (List.getElem?_eq_some_iff.1 hp).1
  obtain ⟨l1, l2, l3, l4⟩ := Yha (H := H) (b := b) bl
  refine ⟨R.below.trans hw, hF', by simp; exact l4 _ hbG R.len, fun i q hq => ?_, fun i bi hi => ?_, ?_, R.cnd⟩
  · by_cases e : b = i
    · subst e
      rw [List.getElem?_set_self hbG] at hq
      cases hq
      exact hgt
    · rw [List.getElem?_set_ne e] at hq
      exact Nat.le_trans (R.top i q hq) ht
  · by_cases e : b = i
    · subst e
      rw [Ya5 _ hb] at hi
      cases hi
      exact ⟨p', by rw [List.getElem?_set_self hbG], new⟩
    · rw [Y5m _ (Ne.symm e)] at hi
      obtain ⟨q, hq, hl⟩ := R.own i bi hi
      refine ⟨q, by rw [List.getElem?_set_ne e]; exact hq, hl.mono hF (Ghost.le_set hp hle _) fun r s hr => ?_⟩
      obtain ⟨k1, k2, _⟩ := keep i bi q r s (Ne.symm e) hi hq hr
      exact ⟨k1, k2⟩
  · intro i j bi bj q q' r s t u hij hi hj hq hq' hr ht
    by_cases ei : b = i
    · subst ei
      rw [List.getElem?_set_self hbG] at hq
      cases hq
      rw [Y5m _ (Ne.symm hij)] at hj
      rw [List.getElem?_set_ne hij] at hq'
      obtain ⟨_, _, k3⟩ := keep j bj q' t u (Ne.symm hij) hj hq' ht
      exact Ne.symm (k3 r s hr)
    · rw [Y5m _ (Ne.symm ei)] at hi
      rw [List.getElem?_set_ne ei] at hq
      by_cases ej : b = j
      · subst ej
        rw [List.getElem?_set_self hbG] at hq'
        cases hq'
        obtain ⟨_, _, k3⟩ := keep i bi q r s hij hi hq hr
        exact k3 t u ht
      · rw [Y5m _ (Ne.symm ej)] at hj
        rw [List.getElem?_set_ne ej] at hq'
        exact R.inj i j bi bj q q' r s t u hij hi hj hq hq' hr ht
def Mem.with_ (F : Mem) (r : Nat) (vs : List Value) : Mem := fun b o => if b = r then vs[o]? else F b o
theorem Mem.le_with {F : Mem} {r : Nat} {vs : List Value} (h : ∀ o, F r o = none) : F.le (F.with_ r vs) := fun b o x e => by
 unfold Mem.with_
 split
 ·rename_i hb; subst hb; rw [h o] at e; cases e
 ·exact e
theorem Mem.at_.none {F : Mem} {w : World} (h : F.at_ w) {r : Nat} (hr : w.heap.size ≤ r) (o : Nat) : F r o = none := by
 cases e : F r o with
 | none => rfl
 | some x => have := h.lt e; omega
theorem Rel.new {w0 : World} {F : Mem} {G : Ghost} {H : Hp} {t : Nat} {w : World} (R : Rel w0 F G H t w) {b : Nat} {ty : TypeId} {cs : List D} {vs : List Value} {p : Pl} {g t' : Nat} (ht : t ≤ t') (hgt : g ≤ t') (hb : b ≤ H.length) (hp : G[b]? = some p) (hg : p.g < g) (hr : RepL F G cs vs) :
    Rel w0 F (G.set b ⟨some (w.heap.size, vs.length), g, false⟩) (setH H b ⟨ty, g, cs⟩) t' (w.alloc (.cells vs.toArray ty)) := by
  refine R.put ht hgt hb hp (.inr hg) ((Below.refl _ _).alloc R.below.size _) (Mem.le.refl _) (fun c o x e => ?_) (fun i bi q r s hi hbi hq hrs => ?_) ⟨rfl, ?_⟩
  · have hlt := R.mem.lt e
    rw [World.cell?_of_block (w := w) (heap_alloc_old w _ hlt)]
    exact R.mem c o x e
  · obtain ⟨q', hq', hl⟩ := R.own i bi hbi
    rw [hq] at hq'; cases hq'
    obtain ⟨l1, _⟩ := hl.lt hrs
    refine ⟨heap_alloc_old w _ l1, ?_, fun r' s' e => ?_⟩
    · obtain ⟨_, h⟩ := hl; rw [hrs] at h; exact h.2.1
    · cases e; omega
  · exact ⟨R.below.size, R.mem.none (Nat.le_refl _), vs, [], by simpa using heap_alloc_new w _, by simp, RepL.mono (Mem.le.refl _) (Ghost.le_set hp (.inr hg) _) _ _ hr⟩
theorem Rel.drewN {w0 : World} {F : Mem} {G : Ghost} {H : Hp} {t : Nat} {w : World} (R : Rel w0 F G H t w) (n : Nat) : Rel w0 F G H t (w.drewN n) :=
 R.frame ⟨rfl, rfl, rfl, Nat.le_refl _, fun _ _ => rfl⟩ (Mem.le.refl _) (fun b o x e => R.mem b o x e) fun _ _ _ => rfl
theorem Rel.laid {w0 : World} {F : Mem} {G : Ghost} {H : Hp} {t : Nat} {w : World} (R : Rel w0 F G H t w) (ty : TypeId) (vs : List Value) :
    Rel w0 (F.with_ w.heap.size vs) G H t (w.alloc (.cells vs.toArray ty)) := by
  refine R.frame ((Below.refl _ _).alloc (Nat.le_refl _) _) (Mem.le_with (R.mem.none (Nat.le_refl _))) (fun b o x e => ?_) fun b o hb => ?_
  · unfold Mem.with_ at e
    split at e
    · rename_i hb
      subst hb
      rw [cell_of_row _ _ o _ _ _ (heap_alloc_new w _)]
      simpa using e
    · have hlt := R.mem.lt e
      rw [World.cell?_of_block (w := w) (heap_alloc_old w _ hlt)]
      exact R.mem b o x e
  · unfold Mem.with_; rw [if_neg (by omega)]
theorem Y99 {α : Type} {G : List α} {b : Nat} {p : α} (h : G[b]? = some p) : G.set b p = G := by
 apply List.ext_getElem?
 intro j
 by_cases e : b = j
 ·subst e; rw [List.getElem?_set_self (List.getElem?_eq_some_iff.1 h).1, h]
 ·rw [List.getElem?_set_ne e]
theorem Rel.setRow {w0 : World} {F : Mem} {G : Ghost} {H : Hp} {t : Nat} {w : World} (R : Rel w0 F G H t w) {b : Nat} {bl : Blk} {p : Pl} {r s : Nat} (hb : H[b]? = some (some bl)) (hp : G[b]? = some p) (hr : p.r = some (r, s)) (hm : p.m = false)
    {cs : List D} {vs junk : List Value} (hs : vs.length + junk.length = s) (hrep : RepL F G cs vs) :
    Rel w0 F G (setH H b ⟨bl.ty, bl.g, cs⟩) t (w.setRow r (vs ++ junk).toArray) := by
  obtain ⟨p', hp', hlies⟩ := R.own b bl hb
  rw [hp] at hp'; cases hp'
  obtain ⟨l1, l2⟩ := hlies.lt hr
  obtain ⟨h0, h⟩ := hlies
  rw [hr] at h
  rw [hm] at h
  obtain ⟨h1, hF, vs0, junk0, hh, _, _⟩ := h
  have key := R.put (F' := F) (w' := w.setRow r (vs ++ junk).toArray) (bl := ⟨bl.ty, bl.g, cs⟩) (Nat.le_refl t) (R.top b p hp) (Nat.le_of_lt (List.getElem?_eq_some_iff.1 hb).1) hp (.refl p) ⟨rfl, rfl, rfl, by simp, fun k hk => setRow_other w r k _ (by omega)⟩ (Mem.le.refl _)
    (fun c o x e => ?_) (fun i bi q r' s' hi hbi hq hrs => ?_) ⟨h0, ?_⟩
  · rwa [Y99 hp] at key
  · have hne : c ≠ r := fun e' => by subst e'; rw [hF o] at e; cases e
    rw [World.cell?_of_block (w := w) (setRow_other w r c _ hne)]
    exact R.mem c o x e
  · have hne := R.inj i b bi bl q p r' s' r s hi hbi hb hq hp hrs hr
    refine ⟨setRow_other w r r' _ hne, ?_, fun r'' s'' e => by rw [hr] at e; cases e; exact hne⟩
    obtain ⟨q', hq', hl'⟩ := R.own i bi hbi
    rw [hq] at hq'; cases hq'
    obtain ⟨_, h'⟩ := hl'
    rw [hrs] at h'
    exact h'.2.1
  · rw [hr, hm]
    exact ⟨h1, hF, vs, junk, setRow_heap w r _ _ _ _ hh, hs, by rw [Y99 hp]; exact hrep⟩
theorem Rel.newMap {w0 : World} {F : Mem} {G : Ghost} {H : Hp} {t : Nat} {w : World} (R : Rel w0 F G H t w) {b : Nat} {ty : TypeId} {p : Pl} {g t' : Nat} (ht : t ≤ t') (hgt : g ≤ t') (hb : b ≤ H.length) (hp : G[b]? = some p) (hg : p.g < g) :
    Rel w0 F (G.set b ⟨some (w.heap.size, 0), g, true⟩) (setH H b ⟨ty, g, []⟩) t' (w.alloc (.map #[] 0)) := by
  refine R.put ht hgt hb hp (.inr hg) ((Below.refl _ _).alloc R.below.size _) (Mem.le.refl _) (fun c o x e => ?_) (fun i bi q r s hi hbi hq hrs => ?_) ⟨rfl, ?_⟩
  · have hlt := R.mem.lt e
    rw [World.cell?_of_block (w := w) (heap_alloc_old w _ hlt)]
    exact R.mem c o x e
  · obtain ⟨q', hq', hl⟩ := R.own i bi hbi
    rw [hq] at hq'; cases hq'
    obtain ⟨l1, _⟩ := hl.lt hrs
    refine ⟨heap_alloc_old w _ l1, ?_, fun r' s' e => ?_⟩
    · obtain ⟨_, h⟩ := hl; rw [hrs] at h; exact h.2.1
    · cases e; omega
  · exact ⟨R.below.size, R.mem.none (Nat.le_refl _), #[], 0, by simpa using heap_alloc_new w _, by simp [RepM]⟩
theorem Rel.setMap {w0 : World} {F : Mem} {G : Ghost} {H : Hp} {t : Nat} {w : World} (R : Rel w0 F G H t w) {b : Nat} {bl : Blk} {p : Pl} {r s : Nat} (hb : H[b]? = some (some bl)) (hp : G[b]? = some p) (hr : p.r = some (r, s)) (hm : p.m = true)
    {cs : List D} {es : Array MapEntry} {clock : Nat} (hrep : RepM cs es.toList) :
    Rel w0 F G (setH H b ⟨bl.ty, bl.g, cs⟩) t { w with heap := w.heap.setIfInBounds r (.map es clock) } := by
  obtain ⟨p', hp', hlies⟩ := R.own b bl hb
  rw [hp] at hp'; cases hp'
  obtain ⟨l1, l2⟩ := hlies.lt hr
  obtain ⟨h0, h⟩ := hlies
  rw [hr] at h
  rw [hm] at h
  obtain ⟨h1, hF, es0, c0, hh, _⟩ := h
  obtain ⟨s1, s2⟩ := MapKept.heap_set (o' := .map es clock) hh
  have key := R.put (F' := F) (w' := { w with heap := w.heap.setIfInBounds r (.map es clock) }) (bl := ⟨bl.ty, bl.g, cs⟩) (Nat.le_refl t) (R.top b p hp) (Nat.le_of_lt (List.getElem?_eq_some_iff.1 hb).1) hp (.refl p) ⟨rfl, rfl, rfl, by simp, fun k hk => s2 k (by omega)⟩ (Mem.le.refl _)
    (fun c o x e => ?_) (fun i bi q r' s' hi hbi hq hrs => ?_) ⟨h0, ?_⟩
  · rwa [Y99 hp] at key
  · have hne : c ≠ r := fun e' => by subst e'; rw [hF o] at e; cases e
    rw [World.cell?_of_block (w := w) (s2 c hne)]
    exact R.mem c o x e
  · have hne := R.inj i b bi bl q p r' s' r s hi hbi hb hq hp hrs hr
    refine ⟨s2 r' hne, ?_, fun r'' s'' e => by rw [hr] at e; cases e; exact hne⟩
    obtain ⟨q', hq', hl'⟩ := R.own i bi hbi
    rw [hq] at hq'; cases hq'
    obtain ⟨_, h'⟩ := hl'
    rw [hrs] at h'
    exact h'.2.1
  · rw [hr, hm]
    exact ⟨h1, hF, es, clock, s1, hrep⟩
def Y95 : TypeDesc → Bool
 | .struct _ | .array _ _ => true
 | _ => false
inductive TK where
 | int (k : IntKind)
 | bool
 | str
 | slice (e : TypeId)
 | map (k e : TypeId)
 | struct
 | arr (n : Nat) (e : TypeId)
 | other
def Y33 : TypeDesc → TK
 | .int k => .int k
 | .bool => .bool
 | .string => .str
 | .slice e => .slice e
 | .map k e => .map k e
 | .struct _ => .struct
 | .array n e => .arr n e
 | _ => .other
structure TI where
 sz : Nat
 bytes : Nat
 agg : Bool
 zv : List Value
 zes : List Nat
 kind : TK
 esz : Nat
 parts : List (Nat × Nat × Bool)
 eqs : List Bool
def zD (e : Nat) : Value → D
 | .slice none 0 0 => .sl e [] true
 | x => .v x
def zDs : List Nat → List Value → List D
 | e :: es, v :: vs => zD e v :: zDs es vs
 | _, _ => []
def TI.zero (i : TI) : List D := zDs i.zes i.zv
def Yfl (P : Program) : List Field → List (Nat × Nat × Bool) → Prop
 | [], ps => ps = []
 | f :: fs, ps => ∃ p ps', ps = p :: ps' ∧ (∃ info d, P.info? f.type = some info ∧ info.size ≠ 0 ∧ P.underlying f.type = some d ∧ p = (f.offset, info.size, Y95 d)) ∧ Yfl P fs ps'
def eqsI (P : Program) : Nat → List Field → Prop
 | _, [] => True
 | k, f :: fs => (f.name ≠ "_" ∧ f.offset = k ∧ ∃ kk, P.underlying f.type = some (.int kk)) ∧ eqsI P (k + 1) fs
def eqsL (P : Program) : Nat → List Field → List Bool → Prop
  | _, [], ks => ks = []
  | k, f :: fs, ks => f.name ≠ "_" ∧ f.offset = k ∧ ((∃ ks' kk, ks = true :: ks' ∧ P.underlying f.type = some (.int kk) ∧ eqsL P (k + 1) fs ks') ∨ (∃ ks', ks = false :: ks' ∧ P.underlying f.type = some .string ∧ eqsL P (k + 1) fs ks') ∨
      ∃ gs info ks', P.underlying f.type = some (.struct gs) ∧ P.stoodInHeld f.type = false ∧ P.info? f.type = some info ∧ info.size = gs.size ∧ eqsI P 0 gs.toList ∧ ks = List.replicate gs.size true ++ ks' ∧ eqsL P (k + gs.size) fs ks')
def Yoq (P : Program) (i : TI) : TypeDesc → Prop
 | .struct fs => Yfl P fs.toList i.parts
 | .slice e => ∃ info, P.info? e = some info ∧ info.size = i.esz ∧ 0 < i.esz
 | .array _ e => ∃ info, P.info? e = some info ∧ info.size = i.esz ∧ 0 < i.esz
 | _ => True
def Yzv (P : Program) (i : TI) : TypeDesc → Prop
 | .struct fs => eqsL P 0 fs.toList i.eqs
 | _ => False
structure TI.Ok (P : Program) (t : TypeId) (i : TI) : Prop where
 info : ∃ info z, P.info? t = some info ∧ info.size = i.sz ∧ info.bytes = i.bytes ∧ info.zero = some z ∧ z.cells.toList = i.zv
 und : ∃ d, P.underlying t = some d ∧ Y33 d = i.kind ∧ Y95 d = i.agg ∧ Yoq P i d ∧ (i.eqs ≠ [] → P.stoodInHeld t = false ∧ P.eqGuardType P.depth t = false ∧ Yzv P i d)
 lens : i.zv.length = i.sz ∧ i.zes.length = i.sz
 zero1 : i.agg = false → ∃ info z, P.info? t = some info ∧ info.zero = some z ∧ i.zv = [z]
theorem Ybx {P : Program} : ∀ {fs : List Field} {ps : List (Nat × Nat × Bool)}, Yfl P fs ps → ps.length = fs.length ∧ ∀ (k : Nat) (f : Field), fs[k]? = some f → ∃ info d, P.info? f.type = some info ∧ info.size ≠ 0 ∧ P.underlying f.type = some d ∧ ps[k]? = some (f.offset, info.size, Y95 d)
 | [], ps, h => by simp only [Yfl] at h; subst h; exact ⟨rfl, fun k f h => by simp at h⟩
 | f :: fs, ps, h => by
  simp only [Yfl] at h
  obtain ⟨p, ps', rfl, ⟨info, d, h1, h2, h3, rfl⟩, hr⟩ := h
  obtain ⟨g1, g2⟩ := Ybx hr
  refine ⟨by simp [g1], fun k g hg => ?_⟩
  cases k with
  | zero => simp at hg; subst hg; exact ⟨info, d, h1, h2, h3, by simp⟩
  | succ k => simpa using g2 k g (by simpa using hg)
theorem Yk5 {P : Program} : ∀ {fs : List Field} {n : Nat}, eqsI P n fs → ∀ (k : Nat) (f : Field), fs[k]? = some f → f.name ≠ "_" ∧ f.offset = n + k ∧ ∃ kk, P.underlying f.type = some (.int kk)
 | [], n, _, k, f, h => by simp at h
 | g :: fs, n, h, k, f, hf => by
  simp only [eqsI] at h
  cases k with
  | zero => simp at hf; subst hf; simpa using h.1
  | succ k =>
   have := Yk5 h.2 k f (by simpa using hf)
   refine ⟨this.1, by rw [this.2.1]; omega, this.2.2⟩
theorem TI.Ok.slice {P : Program} {t : TypeId} {i : TI} (ok : TI.Ok P t i) {e : TypeId} (h : i.kind = .slice e) : P.underlying t = some (.slice e) ∧ ∃ info, P.info? e = some info ∧ info.size = i.esz ∧ 0 < i.esz := by
 obtain ⟨d, h1, h2, _, h4, _⟩ := ok.und
 rw [h] at h2
 cases d <;> simp [Y33] at h2
 subst h2
 exact ⟨h1, h4⟩
theorem TI.Ok.arr {P : Program} {t : TypeId} {i : TI} (ok : TI.Ok P t i) {n : Nat} {e : TypeId} (h : i.kind = .arr n e) : P.underlying t = some (.array n e) ∧ ∃ info, P.info? e = some info ∧ info.size = i.esz ∧ 0 < i.esz := by
 obtain ⟨d, h1, h2, _, h4, _⟩ := ok.und
 rw [h] at h2
 cases d <;> simp [Y33] at h2
 obtain ⟨rfl, rfl⟩ := h2
 exact ⟨h1, h4⟩
theorem TI.Ok.struct {P : Program} {t : TypeId} {i : TI} (ok : TI.Ok P t i) (h : i.kind = .struct) : ∃ fs : Array Field, P.underlying t = some (.struct fs) ∧ i.parts.length = fs.size ∧ ∀ (k : Nat) (f : Field), fs[k]? = some f → ∃ info d, P.info? f.type = some info ∧ info.size ≠ 0 ∧ P.underlying f.type = some d ∧ i.parts[k]? = some (f.offset, info.size, Y95 d) := by
 obtain ⟨d, h1, h2, _, h4, _⟩ := ok.und
 rw [h] at h2
 cases d <;> simp [Y33] at h2
 obtain ⟨g1, g2⟩ := Ybx h4
 exact ⟨_, h1, by simpa using g1, fun k f hf => g2 k f (by simpa using hf)⟩
theorem TI.Ok.str {P : Program} {t : TypeId} {i : TI} (ok : TI.Ok P t i) (h : i.kind = .str) : P.underlying t = some .string := by
 obtain ⟨d, h1, h2, _⟩ := ok.und
 rw [h] at h2
 cases d <;> simp [Y33] at h2
 exact h1
theorem TI.Ok.map {P : Program} {t : TypeId} {i : TI} (ok : TI.Ok P t i) {k e : TypeId} (h : i.kind = .map k e) : P.underlying t = some (.map k e) := by
 obtain ⟨d, h1, h2, _⟩ := ok.und
 rw [h] at h2
 cases d <;> simp [Y33] at h2
 obtain ⟨rfl, rfl⟩ := h2
 exact h1
theorem TI.Ok.bool {P : Program} {t : TypeId} {i : TI} (ok : TI.Ok P t i) (h : i.kind = .bool) : P.underlying t = some .bool := by
 obtain ⟨d, h1, h2, _⟩ := ok.und
 rw [h] at h2
 cases d <;> simp [Y33] at h2
 exact h1
theorem TI.Ok.int {P : Program} {t : TypeId} {i : TI} (ok : TI.Ok P t i) {k : IntKind} (h : i.kind = .int k) : P.underlying t = some (.int k) := by
 obtain ⟨d, h1, h2, _⟩ := ok.und
 rw [h] at h2
 cases d <;> simp [Y33] at h2
 subst h2
 exact h1
abbrev Tab := TypeId → Option TI
def Tab.Ok (P : Program) (tab : Tab) : Prop := ∀ t i, tab t = some i → TI.Ok P t i
def esz (tab : Tab) (t : TypeId) : Nat := match tab t with | some i => i.esz | none => 1
def Y5e (tab : Tab) (t : TypeId) : Value → D
 | .slice none 0 0 => .sl (esz tab t) [] true
 | .agg cs => .agg (cs.toList.map .v)
 | x => .v x
abbrev TM := List (Nat × D)
def look : TM → Nat → D
 | [], _ => .any
 | (k, d) :: r, j => if k = j then d else look r j
def Y1t (tab : Tab) (tm : TM) (t : TypeId) : Operand → D
 | .tmp k => look tm k
 | .const v => Y5e tab t v
 | .func f => .fn f []
 | .global _ => .any
theorem Y1e (F : Mem) (G : Ghost) (x : Value) : Rep F G (.v x) x := by simp [Rep]
theorem Yiy (F : Mem) (G : Ghost) (sz : Nat) (full : Bool) : Rep F G (.sl sz [] full) (.slice none 0 0) := by
 simp only [Rep]
 exact ⟨none, 0, 0, rfl, by simp, Nat.le_refl _, fun _ => rfl, Or.inl trivial⟩
theorem Y108 (F : Mem) (G : Ghost) (e : Nat) (x : Value) : Rep F G (zD e x) x := by
 unfold zD
 split
 ·exact Yiy _ _ _ _
 ·exact Y1e _ _ _
theorem Ykn (F : Mem) (G : Ghost) : ∀ (es : List Nat) (vs : List Value), es.length = vs.length → RepL F G (zDs es vs) vs
 | [], [], _ => by simp [zDs, RepL]
 | e :: es, v :: vs, h => by simp only [zDs, RepL]; exact ⟨v, vs, rfl, Y108 _ _ _ _, Ykn F G es vs (by simpa using h)⟩
theorem Y86 (F : Mem) (G : Ghost) : ∀ vs : List Value, RepL F G (vs.map .v) vs
 | [] => by simp [RepL]
 | v :: vs => by simp only [List.map_cons, RepL]; exact ⟨v, vs, rfl, Y1e _ _ _, Y86 F G vs⟩
theorem Yct (F : Mem) (G : Ghost) (tab : Tab) (t : TypeId) (x : Value) : Rep F G (Y5e tab t x) x := by
 unfold Y5e
 split
 ·exact Yiy _ _ _ _
 ·rename_i cs
  simp only [Rep]
  exact ⟨cs.toList, by simp, Y86 F G _⟩
 ·exact Y1e _ _ _
def TR (F : Mem) (G : Ghost) (n : Nat) (tm : TM) (tmps : Array Value) : Prop := tmps.size = n ∧ ∀ k, Rep F G (look tm k) (tmps.getD k undef)
theorem TR.look {F : Mem} {G : Ghost} {n : Nat} {tm : TM} {tmps : Array Value} (h : TR F G n tm tmps) (k : Nat) : Rep F G (look tm k) (tmps.getD k undef) := h.2 k
def Y1r : TM → Nat → D → TM
 | [], k, d => [(k, d)]
 | (j, e) :: r, k, d => if j = k then (k, d) :: r else (j, e) :: Y1r r k d
theorem Y6a : ∀ (tm : TM) (k : Nat) (d : D) (j : Nat), T.look (Y1r tm k d) j = if k = j then d else T.look tm j
 | [], k, d, j => rfl
 | (i, e) :: r, k, d, j => by
  unfold Y1r
  by_cases h : i = k
  ·rw [if_pos h]; subst h; simp only [T.look]; split <;> rfl
  ·rw [if_neg h]
   simp only [T.look]
   by_cases h' : i = j
   ·rw [if_pos h', if_neg (by omega)]; rw [if_pos h']
   ·rw [if_neg h', Y6a r k d j, if_neg h']
theorem TR.mono {F F' : Mem} {G G' : Ghost} {n : Nat} {tm : TM} {tmps : Array Value} (h : TR F G n tm tmps) (hF : F.le F') (hG : Ghost.le G.length G G') : TR F' G' n tm tmps := ⟨h.1, fun k => Rep.mono hF hG _ _ (h.2 k)⟩
theorem TR.put {F : Mem} {G : Ghost} {n : Nat} {tm : TM} {tmps : Array Value} (h : TR F G n tm tmps) {k : Nat} {d : D} {u : Value} (hk : k < n) (hd : Rep F G d u) : TR F G n (Y1r tm k d) (tmps.setIfInBounds k u) := by
 refine ⟨by simp [h.1], fun j => ?_⟩
 rw [Y6a]
 split
 ·rename_i e; subst e
  have : (tmps.setIfInBounds k u).getD k undef = u := by rw [Array.getD_eq_getD_getElem?]; simp [h.1, hk]
  rw [this]; exact hd
 ·rename_i e
  have : (tmps.setIfInBounds k u).getD j undef = tmps.getD j undef := by rw [Array.getD_eq_getD_getElem?, Array.getD_eq_getD_getElem?, Array.getElem?_setIfInBounds_ne e]
  rw [this]; exact h.2 j
theorem TR.eval {F : Mem} {G : Ghost} {n : Nat} {tm : TM} {a : Act} (h : TR F G n tm a.tmps) (tab : Tab) (t : TypeId) (x : Operand) : Rep F G (Y1t tab tm t x) (a.eval x) := by
 cases x with
 | tmp k => exact h.look k
 | const v => exact Yct _ _ _ _ _
 | func f => simp only [Y1t, Rep]; exact ⟨[], rfl, by simp [RepL]⟩
 | global g => simp only [Y1t, Rep]
def Y26 : D → Bool
 | .v x => x.oneCell'
 | .agg _ | .tup _ | .any => false
 | _ => true
theorem Rep.oneCell {F : Mem} {G : Ghost} {d : D} {u : Value} (h : Rep F G d u) (hc : Y26 d = true) : u.oneCell' = true := by
 cases d with
 | v x => simp only [Rep] at h; subst h; exact hc
 | sl sz cs f => simp only [Rep] at h; obtain ⟨a, l, c, rfl, _⟩ := h; rfl
 | rp cs o => simp only [Rep] at h; obtain ⟨b, o, vs, rfl, _⟩ := h; rfl
 | own sz b g lo n => simp only [Rep] at h; exact h.1
 | ptr b g o => simp only [Rep] at h; exact h.1
 | mp b g => simp only [Rep] at h; exact h.1
 | agg cs => simp [Y26] at hc
 | tup cs => simp [Y26] at hc
 | fn f cs => simp only [Rep] at h; obtain ⟨vs, rfl, _⟩ := h; rfl
 | any => simp [Y26] at hc
theorem RepL.oneCell {F : Mem} {G : Ghost} : ∀ {ds : List D} {us : List Value}, RepL F G ds us → ds.all Y26 = true → ∀ u ∈ us, u.oneCell' = true
 | [], us, h, _, u, hu => by simp only [RepL] at h; subst h; cases hu
 | d :: ds, us, h, hc, u, hu => by
  simp only [RepL] at h
  obtain ⟨u', us', rfl, h1, h2⟩ := h
  simp only [List.all_cons, Bool.and_eq_true] at hc
  rcases List.mem_cons.1 hu with rfl | hu
  ·exact h1.oneCell hc.1
  ·exact h2.oneCell hc.2 u hu
def Y6l : D → Option (List D)
 | .agg cs => if cs.all Y26 then some cs else none
 | d => if Y26 d then some [d] else none
theorem Rep.cells {F : Mem} {G : Ghost} {d : D} {u : Value} {cs : List D} (h : Rep F G d u) (hc : Y6l d = some cs) : RepL F G cs u.cells.toList ∧ cs.all Y26 = true := by
 unfold Y6l at hc
 split at hc
 ·rename_i ds
  split at hc
  ·cases hc
   rename_i hall
   simp only [Rep] at h
   obtain ⟨vs, rfl, hr⟩ := h
   exact ⟨by simpa [Value.cells] using hr, hall⟩
  ·cases hc
 ·split at hc
  ·cases hc
   rename_i hone
   have h1 := h.oneCell hone
   have hcs : u.cells.toList = [u] := by cases u <;> first | rfl | (simp [Value.oneCell'] at h1)
   rw [hcs]
   exact ⟨by simp only [RepL]; exact ⟨u, [], rfl, h, rfl⟩, by simpa using hone⟩
  ·cases hc
def Yfe (cs : List D) (off sz : Nat) : Option (List D) :=
 if sz = 1 then (cs[off]?).map fun d => [d] else if off + sz ≤ cs.length then some ((cs.drop off).take sz) else none
def Y9t (cs : List D) (off : Nat) (ds : List D) : Option (List D) :=
 if off + ds.length ≤ cs.length then some (match ds with | [d] => cs.set off d | _ => cs.take off ++ ds ++ cs.drop (off + ds.length)) else none
theorem Yde {cs ds : List D} {off sz : Nat} (h : Yfe cs off sz = some ds) : ds = (cs.drop off).take sz ∧ off + sz ≤ cs.length ∧ ds.length = sz := by
 unfold Yfe at h
 split at h
 ·rename_i e
  subst e
  cases hc : cs[off]? with
  | none => rw [hc] at h; cases h
  | some d =>
   rw [hc] at h
   cases h
   obtain ⟨hl, he⟩ := List.getElem?_eq_some_iff.1 hc
   refine ⟨?_, hl, rfl⟩
   rw [List.drop_eq_getElem_cons hl, he]
   rfl
 ·split at h
  ·cases h
   rename_i hle
   exact ⟨rfl, hle, by simp; omega⟩
  ·cases h
theorem Y9s {cs ds es : List D} {off : Nat} (h : Y9t cs off ds = some es) : es = cs.take off ++ ds ++ cs.drop (off + ds.length) ∧ off + ds.length ≤ cs.length := by
 unfold Y9t at h
 split at h
 ·cases h
  rename_i hle
  refine ⟨?_, hle⟩
  split
  ·rename_i d
   rw [List.set_eq_take_append_cons_drop, if_pos (by simp at hle; omega)]
   simp
  ·rfl
 ·cases h
def rdP (H : Hp) (sz : Nat) : D → Option (List D)
 | .rp cs off => Yfe cs off sz
 | .ptr b g off => match H[b]? with
  | some (some bl) => if bl.g = g then Yfe bl.cells off sz else none
  | _ => none
 | _ => none
inductive Wr where
 | no
 | upd (b : Nat) (bl : Blk)
 | put (b : Nat) (bl : Blk)
def Wr.on (H : Hp) : Wr → Hp
 | .no => H
 | .upd b bl => setH H b bl
 | .put b bl => setH H b bl
def Wr.id : Wr → Option Nat
 | .no => none
 | .upd b _ => some b
 | .put b _ => some b
def Wr.pid : Wr → Option Nat
 | .put b _ => some b
 | _ => none
def Gs (wr : Wr) (G G' : Ghost) : Prop := Ghost.le G.length G G' ∧ ∀ i, wr.pid ≠ some i → G'[i]? = G[i]?
theorem Gs.refl (wr : Wr) (G : Ghost) : Gs wr G G := ⟨.refl _ _, fun _ _ => rfl⟩
theorem Gs.set {G : Ghost} {b : Nat} {p p' : Pl} {bl : Blk} (h : G[b]? = some p) (hle : p.le p') : Gs (.put b bl) G (G.set b p') := ⟨Ghost.le_set h hle _, fun i hi => by rw [List.getElem?_set_ne]; intro e; subst e; exact hi rfl⟩
def Wr.tick (t : Nat) : Wr → Nat
 | .put _ _ => t + 1
 | _ => t
theorem Y5c {P : Program} {w : World} {t : TypeId} {d : TypeDesc} {info : TypeInfo} (hi : P.info? t = some info) (hu : P.underlying t = some d) (b o : Nat) (vs : List Value) (hl : vs.length = info.size)
    (hc : ∀ j x, vs[j]? = some x → w.cell? ⟨b, o + j, none⟩ = some x) (h1 : Y95 d = false → vs.length = 1) :
    (Instr.loadAt t (.pointer (some ⟨b, o, none⟩))).run P w = .ok (if Y95 d = true then .agg vs.toArray else vs.headD undef) w := by
  have hadd : ∀ j, (⟨b, o, none⟩ : Addr).add j = ⟨b, o + j, none⟩ := fun j => by unfold Addr.add; split <;> simp_all
  have hlc : (loadCells ⟨b, o, none⟩ info.size).run P w = .ok vs.toArray w := by
    rw [← hl]
    exact run_loadCells_list w _ vs fun j v hv => by rw [hadd]; exact hc j v hv
  have hagg : (isAgg t).run P w = .ok (Y95 d) w := by
    unfold isAgg
    simp only [Sem.run_bind, run_underlying hu, Result.andThen_ok]
    cases d <;> rfl
  simp only [Instr.loadAt, Instr.sureAddr, loadVar, Sem.run_bind, Sem.run_pure, Result.andThen_ok, hagg]
  cases hd : Y95 d with
  | true => simp [sizeOf, typeInfo, hi, hlc]
  | false =>
    obtain ⟨v, rfl⟩ : ∃ v, vs = [v] := by
      have := h1 hd
      match vs, this with
      | [v], _ => exact ⟨v, rfl⟩
    have h0 := hc 0 v (by simp)
    rw [Nat.add_zero] at h0
    simp [h0]
theorem Rel.rdP {w0 : World} {F : Mem} {G : Ghost} {H : Hp} {t : Nat} {w : World} (R : Rel w0 F G H t w) {sz : Nat} {d : D} {u : Value} {cs : List D} (hr : Rep F G d u) (h : rdP H sz d = some cs) :
    ∃ b o vs, u = .pointer (some ⟨b, o, none⟩) ∧ (∀ j x, vs[j]? = some x → w.cell? ⟨b, o + j, none⟩ = some x) ∧ RepL F G cs vs ∧ cs.length = sz := by
  unfold T.rdP at h
  split at h
  · rename_i cs0 off
    simp only [Rep] at hr
    obtain ⟨blk, o, vs, rfl, hc, hL⟩ := hr
    obtain ⟨rfl, hle, hlen⟩ := Yde h
    refine ⟨blk, o + off, (vs.drop off).take sz, rfl, fun j x hx => ?_, (hL.drop off).take sz, hlen⟩
    rw [List.getElem?_take] at hx
    split at hx
    · rw [List.getElem?_drop] at hx
      have := R.mem _ _ _ (hc _ _ hx)
      rwa [Nat.add_assoc]
    · cases hx
  · rename_i b g off
    simp only [Rep] at hr
    obtain ⟨_, p, hp, hg, hr⟩ := hr
    split at h
    · rename_i bl hb
      split at h
      · rename_i hge
        obtain ⟨p', hp', hl⟩ := R.own b bl hb
        rw [hp] at hp'; cases hp'
        obtain ⟨hg', hl⟩ := hl
        obtain ⟨hm, hr⟩ := hr (by omega)
        cases hpr : p.r with
        | none => rw [hpr] at hr; exact hr.elim
        | some rs =>
          obtain ⟨r, s⟩ := rs
          rw [hpr] at hr hl
          rw [hm] at hl
          obtain ⟨_, _, vs, junk, hh, _, hL⟩ := hl
          obtain ⟨rfl, hle, hlen⟩ := Yde h
          refine ⟨r, off, (vs.drop off).take sz, hr, fun j x hx => ?_, (hL.drop off).take sz, hlen⟩
          rw [cell_of_row w r (off + j) _ _ _ hh]
          rw [List.getElem?_take] at hx
          split at hx
          · rw [List.getElem?_drop] at hx
            have hlt : off + j < vs.length := (List.getElem?_eq_some_iff.1 hx).1
            simp only [List.getElem?_toArray]
            rw [List.getElem?_append_left hlt]
            exact hx
          · cases hx
      · cases h
    · cases h
  · cases h
end Go.Proofs.YtpbpafmgkdihlaaGreatDoor.T
