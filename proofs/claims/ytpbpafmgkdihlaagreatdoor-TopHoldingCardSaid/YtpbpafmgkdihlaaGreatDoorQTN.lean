import Derived.Test.YtpbpafmgkdihlaaGreatDoorQTJ
import Derived.Test.YtpbpafmgkdihlaaGreatDoorQTTab
import Derived.Test.YtpbpafmgkdihlaaGreatDoorQBase
set_option linter.all false
namespace Go.Proofs.YtpbpafmgkdihlaaGreatDoor.T
open Go Go.RowKit
abbrev int (n : Int) : D := .v (.int .i64 n)
abbrev word (n : Int) : D := .v (.int .u64 n)
abbrev bool (b : Bool) : D := .v (.bool b)
abbrev ints (l : List Int) : D := .sl 1 (l.map int) false
abbrev mat (m : List (List Int)) : D := .sl 1 (m.map ints) false
theorem Yb0 (tab : Tab) (tm : TM) (t : TypeId) (k : Nat) : Y1t tab tm t (.tmp k) = look tm k := rfl
theorem Yb1 (tab : Tab) (tm : TM) (t : TypeId) (v : Value) : Y1t tab tm t (.const v) = Y5e tab t v := rfl
theorem Ycj (tab : Tab) (tm : TM) (t : TypeId) (f : FuncId) : Y1t tab tm t (.func f) = .fn f [] := rfl
theorem Yh9 {α : Type} : ∀ (R : List α) (x y : α), (R ++ [y]).set R.length x = R ++ [x]
 | [], x, y => rfl
 | a :: R, x, y => by simp only [List.cons_append, List.length_cons, List.set_cons_succ, Yh9 R x y]
theorem wu64 (x : Int) (h : 0 ≤ x ∧ x ≤ 18446744073709551615) : IntKind.u64.wrap x = x := by rw [IntKind.wrap_u64]; omega
theorem Mem.at_.below {F : Mem} {w w' : World} (h : F.at_ w) (hb : Below w.heap.size w w') : F.at_ w' := fun b o x e => by
 rw [(Yb7 hb).1 b o (h.lt e)]; exact h b o x e
theorem PRet.of_calls {P : Program} {f : FuncId} {ds : List D} {us : List Value} {d : D} {u : Value} (hc : Y5b P f) (hds : ∀ F G vs, RepL F G ds vs → vs = us) (hd : ∀ F, Rep F [] d u)
    (h : ∀ w, Calls P f us.toArray w fun e w' => e = .returned u ∧ Below w.heap.size w w') : PRet P f ds d := by
  refine fun F G w vs hF _ hL => .inl ⟨hc, ?_⟩
  rw [hds F G vs hL]
  refine (h w).mono fun e w' hx => ?_
  obtain ⟨rfl, hb⟩ := hx
  exact ⟨F, u, rfl, .refl F, fun _ _ _ => rfl, hF.below hb, hd F, hb⟩
theorem PRet.of_extern {P : Program} {f : FuncId} {ds : List D} {us : List Value} {d : D} {u : Value} (hds : ∀ F G vs, RepL F G ds vs → vs = us) (hd : ∀ F, Rep F [] d u)
    (h : ∀ w, (callFunc f us.toArray).run P w = .ok (.value u) w) : PRet P f ds d := fun F G w vs hF _ hL => by
  rw [hds F G vs hL]
  exact .inr ⟨u, h w, F, u, rfl, .refl F, fun _ _ _ => rfl, hF, hd F, Below.refl _ _⟩
theorem Y8m {e : Ending} {u : Value} {w w' : World} (h : e = .returned u ∧ w = w') : e = .returned u ∧ Below w.heap.size w w' := ⟨h.1, h.2 ▸ Below.refl _ _⟩
theorem Ycr {e : Ending} {u : Value} {w w' : World} (h : e = .returned u ∧ ∃ n, w' = w.drewN n) : e = .returned u ∧ Below w.heap.size w w' := by
 obtain ⟨h1, n, rfl⟩ := h
 exact ⟨h1, Ygp (Below.refl _ _) n⟩
theorem Y6s {F : Mem} {G : Ghost} : ∀ {us vs : List Value}, RepL F G (us.map .v) vs → vs = us
 | [], vs, h => by simpa only [List.map_nil, RepL] using h
 | u :: us, vs, h => by
  simp only [List.map_cons, RepL, Rep] at h
  obtain ⟨_, vs', rfl, rfl, h⟩ := h
  rw [Y6s h]
theorem Y0b : ∀ H : Hp, hpLe H H
 | [] => trivial
 | _x :: xs => ⟨.inr rfl, Y0b xs⟩
theorem Ymp {P : Program} {tab : Tab} {n : Nat} {all : List Oper} {K : St → Prop} {rest : List Oper} {st : St} {dst : Option Tmp} {op : Op} {ty : TypeId} {pos : String} {aft : Array Edge} (hop : opB tab (Y1t tab st.tm) st.H.length (st.t + 1) st.H op ty = none) (hk : dst.getD 0 < n) (hq : nilT tab st op = true)
    (h : ∀ KK : St → Prop, (∀ s, Y16 P tab n all K rest s → KK s) → ∀ b : Bool, KK (st.put dst (.v (.bool b)))) : Y16 P tab n all K (⟨dst, op, ty, pos, aft, none⟩ :: rest) st := Ymo hop hk hq (h _ fun _ h => h)
theorem Y0i {P : Program} {n : Nat} {x y : Code} {Q Q' : Exit → St → Prop} {st : St} {α : Type} (f : α → St) (ok : α → Prop) (hx : AW P n x (Yd3 (fun s => ∃ a, ok a ∧ StLe s (f a)) Q) st) (hy : ∀ a, ok a → AW P n y Q' (f a)) : AW P n x (Yd3 (AW P n y Q') Q) st :=
 hx.mono fun e s hq => by
  cases e with
  | normal =>
   obtain ⟨a, h1, h2⟩ := hq
   exact AW.weaken h2.1 h2.2.1 h2.2.2 (hy a h1)
  | _ => exact hq
theorem Yvo {P : Program} {n : Nat} {x y : Code} {Q : Exit → St → Prop} {st : St} {α : Type} (f : α → St) (ok : α → Prop) (hx : AW P n x (Yd3 (fun s => ∃ a, ok a ∧ StLe s (f a)) Q) st) (hy : ∀ a, ok a → AW P n y Q (f a)) : AW P n (.seq x y) Q st :=
 Y00 (hx.mono fun e s hq => by
  cases e with
  | normal =>
   obtain ⟨a, h1, h2⟩ := hq
   exact AW.weaken h2.1 h2.2.1 h2.2.2 (hy a h1)
  | _ => exact hq)
mutual
def fz (b g : Nat) (cs : List D) : D → D
 | .v x => .v x
 | .sl sz ds full => .sl sz (fzL b g cs ds) full
 | .rp ds o => .rp (fzL b g cs ds) o
 | .own sz b' g' lo n => if b' = b ∧ g' = g ∧ lo + n * sz ≤ cs.length then .sl sz ((cs.drop lo).take (n * sz)) false else .own sz b' g' lo n
 | .ptr b' g' o => if b' = b ∧ g' = g then .rp cs o else .ptr b' g' o
 | .agg ds => .agg (fzL b g cs ds)
 | .tup ds => .tup (fzL b g cs ds)
 | .fn f ds => .fn f (fzL b g cs ds)
 | .mp b' g' => .mp b' g'
 | .any => .any
def fzL (b g : Nat) (cs : List D) : List D → List D
 | [] => []
 | d :: ds => fz b g cs d :: fzL b g cs ds
end
theorem Ypz (b g : Nat) (cs : List D) : ∀ ds, fzL b g cs ds = ds.map (fz b g cs)
 | [] => by simp [fzL]
 | d :: ds => by simp [fzL, Ypz b g cs ds]
theorem Y9p {f : D → D} (hf : ∀ x, f (.v x) = .v x) : ∀ {ds : List D} {es : List MapEntry}, RepM ds es → RepM (ds.map f) es
 | [], es, h => by simpa [RepM] using h
 | [d], es, h => by cases d <;> simp [RepM] at h
 | d :: d' :: ds, es, h => by
  cases d <;> cases d' <;> simp only [RepM] at h
  obtain ⟨e, es', rfl, h1, h2, h3⟩ := h
  simp only [List.map_cons, hf, RepM]
  exact ⟨e, es', rfl, h1, h2, Y9p hf h3⟩
theorem Ykm : ∀ {ds : List D} {es : List MapEntry}, RepM ds es → ∀ d ∈ ds, ∃ x, d = .v x
 | [], es, h, d, hd => by cases hd
 | [d0], es, h, d, hd => by cases d0 <;> simp [RepM] at h
 | d0 :: d1 :: ds, es, h, d, hd => by
  cases d0 <;> cases d1 <;> simp only [RepM] at h
  obtain ⟨e, es', rfl, h1, h2, h3⟩ := h
  rcases List.mem_cons.1 hd with rfl | hd
  ·exact ⟨_, rfl⟩
  rcases List.mem_cons.1 hd with rfl | hd
  ·exact ⟨_, rfl⟩
  exact Ykm h3 d hd
theorem Ycg (b g : Nat) (cs : List D) : ∀ ds, (fzL b g cs ds).length = ds.length
 | [] => by simp [fzL]
 | d :: ds => by simp [fzL, Ycg b g cs ds]
def fzT (b g : Nat) (cs : List D) : TM → TM
 | [] => []
 | (k, d) :: r => (k, fz b g cs d) :: fzT b g cs r
theorem Yjp (b g : Nat) (cs : List D) : ∀ (tm : TM) (k : Nat), look (fzT b g cs tm) k = fz b g cs (look tm k)
 | [], k => by simp [fzT, look, fz]
 | (j, d) :: r, k => by
  simp only [fzT, look]
  split
  ·rfl
  ·exact Yjp b g cs r k
def fzB (b g : Nat) (cs : List D) : Option Blk → Option Blk
 | none => none
 | some bl => some ⟨bl.ty, bl.g, fzL b g cs bl.cells⟩
def fzH (b g : Nat) (cs : List D) : Nat → Hp → Hp
 | _, [] => []
 | 0, _ :: r => none :: r.map (fzB b g cs)
 | k + 1, x :: r => fzB b g cs x :: fzH b g cs k r
theorem Ych (b g : Nat) (cs : List D) : ∀ (k : Nat) (H : Hp), (fzH b g cs k H).length = H.length
 | k, [] => by simp [fzH]
 | 0, x :: r => by simp [fzH]
 | k + 1, x :: r => by simp [fzH, Ych b g cs k r]
theorem Ye1 (b g : Nat) (cs : List D) : ∀ (k : Nat) (H : Hp) (i : Nat) (bl : Blk), (fzH b g cs k H)[i]? = some (some bl) → i ≠ k ∧ ∃ bl', H[i]? = some (some bl') ∧ bl = ⟨bl'.ty, bl'.g, fzL b g cs bl'.cells⟩
 | k, [], i, bl, h => by simp [fzH] at h
 | 0, x :: r, i, bl, h => by
  simp only [fzH] at h
  cases i with
  | zero => simp at h
  | succ i =>
   simp only [List.getElem?_cons_succ, List.getElem?_map, Option.map_eq_some_iff] at h ⊢
   obtain ⟨y, hy, h⟩ := h
   cases y with
   | none => simp [fzB] at h
   | some bl' => simp only [fzB, Option.some.injEq] at h; exact ⟨by omega, bl', hy, h.symm⟩
 | k + 1, x :: r, i, bl, h => by
  simp only [fzH] at h
  cases i with
  | zero =>
   simp only [List.getElem?_cons_zero, Option.some.injEq] at h ⊢
   cases x with
   | none => simp [fzB] at h
   | some bl' => simp only [fzB, Option.some.injEq] at h; exact ⟨by omega, bl', rfl, h.symm⟩
  | succ i =>
   simp only [List.getElem?_cons_succ] at h ⊢
   obtain ⟨h1, h2⟩ := Ye1 b g cs k r i bl h
   exact ⟨by omega, h2⟩
theorem Y0p (b g : Nat) (cs : List D) : ∀ l : List Int, fzL b g cs (l.map int) = l.map int
 | [] => by simp [fzL]
 | x :: l => by simp only [List.map_cons, fzL, fz, Y0p b g cs l]
theorem Y0y (b g : Nat) (cs : List D) : ∀ m : List (List Int), fzL b g cs (m.map ints) = m.map ints
 | [] => by simp [fzL]
 | x :: l => by simp only [List.map_cons, fzL, fz, Y0p, Y0y b g cs l]
section
variable {F F' : Mem} {G : Ghost} {b g : Nat} {cs : List D}
structure Frozen (F' : Mem) (G : Ghost) (b g : Nat) (cs : List D) (p : Pl) : Prop where
 at_ : G[b]? = some p
 mem : p.m = false → match p.r with
  | none => cs = []
  | some (r, _) => ∃ vs, (∀ j x, vs[j]? = some x → F' r j = some x) ∧ RepL F' G cs vs
mutual
theorem Yvd (hF : F.le F') {p : Pl} (hZ : Frozen F' G b g cs p) (hg : p.g = g) : ∀ (d : D) (u : Value), Rep F G d u → Rep F' G (fz b g cs d) u
 | .v x, u, h => by simpa only [Rep, fz] using h
 | .sl sz ds full, u, h => by
  simp only [Rep, fz] at h ⊢
  obtain ⟨a, len, cap, h1, h2, h3, h4, h5⟩ := h
  refine ⟨a, len, cap, h1, by rw [h2, Ycg], h3, h4, ?_⟩
  rcases h5 with rfl | ⟨blk, off, vs, e, hc, hr⟩
  ·left; simp [fzL]
  ·exact .inr ⟨blk, off, vs, e, fun j x hx => hF _ _ _ (hc j x hx), Y6z hF hZ hg ds vs hr⟩
 | .rp ds o, u, h => by
  simp only [Rep, fz] at h ⊢
  obtain ⟨blk, off, vs, e, hc, hr⟩ := h
  exact ⟨blk, off, vs, e, fun j x hx => hF _ _ _ (hc j x hx), Y6z hF hZ hg ds vs hr⟩
 | .own sz b' g' lo n, u, h => by
  simp only [fz]
  split
  ·rename_i hc
   obtain ⟨rfl, rfl, hle⟩ := hc
   simp only [Rep] at h ⊢
   obtain ⟨_, p', hp', _, h⟩ := h
   rw [hZ.at_] at hp'; cases hp'
   obtain ⟨hpm, h⟩ := h hg
   have hm := hZ.mem hpm
   cases hr : p.r with
   | none =>
    rw [hr] at h hm
    obtain ⟨⟨a, rfl⟩, rfl, rfl⟩ := h
    exact ⟨a, 0, 0, rfl, by simp, Nat.le_refl _, fun _ => rfl, .inl (by simp)⟩
   | some rs =>
    obtain ⟨r, s⟩ := rs
    rw [hr] at h hm
    obtain ⟨cap, rfl, h1, h2, h3⟩ := h
    obtain ⟨vs, hv, hL⟩ := hm
    have hvl : vs.length = cs.length := hL.length
    refine ⟨_, n, cap, rfl, by simp; omega, h1, (fun e => by cases e), .inr ⟨r, lo, (vs.drop lo).take (n * sz), rfl, fun j x hx => ?_, (hL.drop lo).take _⟩⟩
    rw [List.getElem?_take] at hx
    split at hx
    ·rw [List.getElem?_drop] at hx
     exact hv _ _ hx
    ·cases hx
  ·exact Rep.mono hF (.refl _ _) _ _ h
 | .ptr b' g' o, u, h => by
  simp only [fz]
  split
  ·rename_i hc
   obtain ⟨rfl, rfl⟩ := hc
   simp only [Rep] at h ⊢
   obtain ⟨_, p', hp', _, h⟩ := h
   rw [hZ.at_] at hp'; cases hp'
   obtain ⟨hpm, h⟩ := h hg
   have hm := hZ.mem hpm
   cases hr : p.r with
   | none => rw [hr] at h; exact h.elim
   | some rs =>
    obtain ⟨r, s⟩ := rs
    rw [hr] at h hm
    obtain ⟨vs, hv, hL⟩ := hm
    exact ⟨r, 0, vs, by rw [h, Nat.zero_add], fun j x hx => by rw [Nat.zero_add]; exact hv j x hx, hL⟩
  ·exact Rep.mono hF (.refl _ _) _ _ h
 | .agg ds, u, h => by
  simp only [Rep, fz] at h ⊢
  obtain ⟨vs, e, hr⟩ := h
  exact ⟨vs, e, Y6z hF hZ hg ds vs hr⟩
 | .tup ds, u, h => by
  simp only [Rep, fz] at h ⊢
  obtain ⟨vs, e, hr⟩ := h
  exact ⟨vs, e, Y6z hF hZ hg ds vs hr⟩
 | .fn f ds, u, h => by
  simp only [Rep, fz] at h ⊢
  obtain ⟨vs, e, hr⟩ := h
  exact ⟨vs, e, Y6z hF hZ hg ds vs hr⟩
 | .mp b' g', u, h => by simp only [fz]; exact Rep.mono hF (.refl _ _) _ _ h
 | .any, u, h => by simp only [Rep, fz]
theorem Y6z (hF : F.le F') {p : Pl} (hZ : Frozen F' G b g cs p) (hg : p.g = g) : ∀ (ds : List D) (us : List Value), RepL F G ds us → RepL F' G (fzL b g cs ds) us
 | [], us, h => by simpa only [RepL, fzL] using h
 | d :: ds, us, h => by
  simp only [RepL, fzL] at h ⊢
  obtain ⟨u, us', e, h1, h2⟩ := h
  exact ⟨u, us', e, Yvd hF hZ hg d u h1, Y6z hF hZ hg ds us' h2⟩
end
end
theorem AW.freeze {P : Program} {n : Nat} {c : Code} {Q : Exit → St → Prop} {st : St} (b : Nat) {bl : Blk} (hb : st.H[b]? = some (some bl)) (h : AW P n c Q ⟨fzT b bl.g bl.cells st.tm, fzH b bl.g bl.cells b st.H, st.t⟩) : AW P n c Q st := fun w0 F G a w hs => by
 obtain ⟨R, hTR, hd⟩ := hs
 obtain ⟨p, hp, hg, hl⟩ := R.own b bl hb
 have go : ∀ F', F.le F' → (∀ c o, c < w0.heap.size → F' c o = F c o) → F'.at_ w → Frozen F' G b bl.g bl.cells p → (∀ (i : Nat) (bi : Blk) (q : Pl) (r s : Nat), i ≠ b → st.H[i]? = some (some bi) → G[i]? = some q → q.r = some (r, s) → ∀ o, F' r o = none) → c.wp P (Lift w0 F G n Q) a w := fun F' h1 h2 h3 hZ h4 => by
  refine wp_mono (h w0 F' G a w ⟨⟨R.below, h3, by rw [Ych]; exact R.len, R.top, fun i bi hi => ?_, fun i j bi bj q q' r s t u hij hi hj hq hq' hr ht => ?_, R.cnd⟩, ⟨hTR.1, fun k => ?_⟩, hd⟩) fun e a' w' l => l.onw ⟨h1, h2, .refl _ _, Nat.le_refl _⟩
  ·obtain ⟨hne, bi', hbi, rfl⟩ := Ye1 _ _ _ _ _ _ _ hi
   obtain ⟨q, hq, hqg, hql⟩ := R.own i bi' hbi
   refine ⟨q, hq, hqg, ?_⟩
   cases hr : q.r with
   | none => rw [hr] at hql; simp only at hql ⊢; rw [hql.2]; exact ⟨hql.1, by simp [fzL]⟩
   | some rs =>
    obtain ⟨r, s⟩ := rs
    rw [hr] at hql
    obtain ⟨k1, _, hql⟩ := hql
    refine ⟨k1, h4 i bi' q r s hne hbi hq hr, ?_⟩
    cases hqm : q.m with
    | false =>
     rw [hqm] at hql
     obtain ⟨vs, junk, k2, k3, k4⟩ := hql
     exact ⟨vs, junk, k2, k3, Y6z h1 hZ hg _ _ k4⟩
    | true =>
     rw [hqm] at hql
     obtain ⟨es, clock, k2, k3⟩ := hql
     exact ⟨es, clock, k2, by rw [Ypz]; exact Y9p (fun x => by simp only [fz]) k3⟩
  ·obtain ⟨_, bi', hbi, rfl⟩ := Ye1 _ _ _ _ _ _ _ hi
   obtain ⟨_, bj', hbj, rfl⟩ := Ye1 _ _ _ _ _ _ _ hj
   exact R.inj i j bi' bj' q q' r s t u hij hbi hbj hq hq' hr ht
  ·rw [Yjp]; exact Yvd h1 hZ hg _ _ (hTR.2 k)
 have other : ∀ (i : Nat) (bi : Blk) (q : Pl) (r s : Nat), st.H[i]? = some (some bi) → G[i]? = some q → q.r = some (r, s) → ∀ o, F r o = none := fun i bi q r s hbi hq hr o => by
  obtain ⟨q', hq', _, hql⟩ := R.own i bi hbi
  rw [hq] at hq'; cases hq'
  rw [hr] at hql
  exact hql.2.1 o
 cases hr : p.r with
 | none =>
  rw [hr] at hl
  exact go F (.refl F) (fun _ _ _ => rfl) R.mem ⟨hp, fun _ => by rw [hr]; exact hl.2⟩ fun i bi q r s _ hbi hq hqr o => other i bi q r s hbi hq hqr o
 | some rs =>
  obtain ⟨r, s⟩ := rs
  rw [hr] at hl
  obtain ⟨k1, k0, hl⟩ := hl
  cases hpm : p.m with
  | true => exact go F (.refl F) (fun _ _ _ => rfl) R.mem ⟨hp, fun e => by rw [hpm] at e; cases e⟩ fun i bi q r s _ hbi hq hqr o => other i bi q r s hbi hq hqr o
  | false =>
  rw [hpm] at hl
  obtain ⟨vs, junk, k2, k3, k4⟩ := hl
  have hF : F.le (F.with_ r vs) := Mem.le_with k0
  have hW : ∀ j x, vs[j]? = some x → F.with_ r vs r j = some x := fun j x hx => by unfold Mem.with_; rw [if_pos rfl]; exact hx
  refine go (F.with_ r vs) hF (fun c o hc => ?_) (fun c o x e => ?_) ⟨hp, fun _ => by rw [hr]; exact ⟨vs, hW, RepL.mono hF (.refl _ _) _ _ k4⟩⟩ fun i bi q r' s' hne hbi hq hqr o => ?_
  ·unfold Mem.with_; rw [if_neg (by omega)]
  ·unfold Mem.with_ at e
   split at e
   ·rename_i hc
    subst hc
    rw [cell_of_row w c o _ _ _ k2]
    have hlt : o < vs.length := (List.getElem?_eq_some_iff.1 e).1
    simp only [List.getElem?_toArray]
    rw [List.getElem?_append_left hlt]
    exact e
   ·exact R.mem c o x e
  ·unfold Mem.with_
   rw [if_neg (R.inj i b bi bl q p r' s' r s hne hbi hb hq hp hqr hr)]
   exact other i bi q r' s' hbi hq hqr o
theorem AW.begin_cell {P : Program} {n : Nat} {c : Code} {Q : Exit → St → Prop} {st : St} (b o sz : Nat) (ty : TypeId) {bl : Blk} {sz0 : Nat} (hb : st.H[b]? = some (some bl)) (hl : bl.cells[o]? = some (.sl sz0 [] true)) (h0 : 0 < sz0)
    (h : AW P n c Q ⟨st.tm, st.H.set b (some ⟨bl.ty, bl.g, bl.cells.set o (.own sz st.H.length (st.t + 1) 0 0)⟩) ++ [some ⟨ty, st.t + 1, []⟩], st.t + 1⟩) : AW P n c Q st := fun w0 F G a w hs => by
  obtain ⟨R, hTR, hd⟩ := hs
  have hbl : b < st.H.length := (List.getElem?_eq_some_iff.1 hb).1
  have go : ∀ G1, Ghost.le G.length G G1 → G.length ≤ G1.length → Rel w0 F G1 st.H st.t w → st.H.length < G1.length → c.wp P (Lift w0 F G n Q) a w := fun G1 g1 g2 R1 hlt => by
    obtain ⟨p, hp⟩ : ∃ p, G1[st.H.length]? = some p := ⟨_, List.getElem?_eq_getElem hlt⟩
    have htop := R1.top _ _ hp
    have hTR1 := hTR.mono (.refl F) g1
    have hle : p.le ⟨none, st.t + 1, false⟩ := .inr (by simp only; omega)
    have R2 := (R1.more (Nat.le_succ st.t)).put (F' := F) (w' := w) (bl := ⟨ty, st.t + 1, []⟩) (p' := ⟨none, st.t + 1, false⟩) (Nat.le_refl _) (Nat.le_refl _) (Nat.le_refl _) hp hle (Below.refl _ _) (.refl _) R1.mem
      (fun i bi q r s hi hbi hq hrs => by
        obtain ⟨q', hq', hl'⟩ := R1.own i bi hbi
        rw [hq] at hq'; cases hq'
        obtain ⟨_, h'⟩ := hl'
        rw [hrs] at h'
        exact ⟨rfl, h'.2.1, fun r' s' e => by cases e⟩) ⟨rfl, rfl, rfl⟩
    have hG2 := Ghost.le_set hp hle
    have hset : setH st.H st.H.length ⟨ty, st.t + 1, []⟩ = st.H ++ [some ⟨ty, st.t + 1, []⟩] := by unfold setH; rw [if_pos rfl]
    rw [hset] at R2
    have hb2 : (st.H ++ [some (⟨ty, st.t + 1, []⟩ : Blk)])[b]? = some (some bl) := by rw [List.getElem?_append_left hbl]; exact hb
    have hset2 : st.H.set b (some ⟨bl.ty, bl.g, bl.cells.set o (.own sz st.H.length (st.t + 1) 0 0)⟩) ++ [some (⟨ty, st.t + 1, []⟩ : Blk)] = (st.H ++ [some (⟨ty, st.t + 1, []⟩ : Blk)]).set b (some ⟨bl.ty, bl.g, bl.cells.set o (.own sz st.H.length (st.t + 1) 0 0)⟩) := by rw [List.set_append_left _ _ hbl]
    rw [hset2] at h
    refine wp_mono (h w0 F (G1.set st.H.length ⟨none, st.t + 1, false⟩) a w ⟨⟨R2.below, R2.mem, by simpa using R2.len, R2.top, fun i bi hi => ?_, fun i j bi bj q q' r s t u hij hi hj hq hq' hr ht => ?_, R2.cnd⟩, ⟨hTR.1, fun j => Rep.mono (.refl _) (hG2 _) _ _ (hTR1.look j)⟩, hd⟩) fun e a' w' l => l.onw ⟨.refl _, fun _ _ _ => rfl, g1.trans ((hG2 _).less g2), by simp; exact g2⟩
    · by_cases hi' : i = b
      · subst hi'
        rw [List.getElem?_set_self (by simp; omega)] at hi
        simp only [Option.some.injEq] at hi
        subst hi
        obtain ⟨q, hq, hqg, hql⟩ := R2.own i bl hb2
        refine ⟨q, hq, hqg, ?_⟩
        cases hr : q.r with
        | none => rw [hr] at hql; simp only at hql; rw [hql.2] at hl; simp at hl
        | some rs =>
          obtain ⟨r, s⟩ := rs
          rw [hr] at hql
          obtain ⟨k1, k2, hql⟩ := hql
          refine ⟨k1, k2, ?_⟩
          cases hqm : q.m with
          | true =>
            rw [hqm] at hql
            obtain ⟨es, clock, _, k5⟩ := hql
            obtain ⟨x, hx⟩ := Ykm k5 _ (List.mem_of_getElem? hl)
            cases hx
          | false =>
          rw [hqm] at hql
          obtain ⟨vs, junk, k3, k4, k5⟩ := hql
          obtain ⟨u, hu, hx⟩ := k5.get hl
          simp only [Rep] at hx
          obtain ⟨ad, len, cap, rfl, hlen, hlc, hfull, _⟩ := hx
          have hl0 : len = 0 := by rcases Nat.mul_eq_zero.1 (hlen.trans (by simp)) with h | h <;> omega
          have hc0 : cap = 0 := by have := hfull trivial; omega
          subst hl0; subst hc0
          have hself : vs = vs.set o (.slice ad 0 0) := by
            obtain ⟨m1, m2⟩ := List.getElem?_eq_some_iff.1 hu
            rw [← m2, List.set_getElem_self]
          refine ⟨vs, junk, k3, k4, ?_⟩
          rw [hself]
          refine k5.set o ?_
          simp only [Rep]
          exact ⟨rfl, ⟨none, st.t + 1, false⟩, by rw [List.getElem?_set_self hlt], Nat.le_refl _, fun _ => ⟨rfl, ⟨ad, rfl⟩, trivial, trivial⟩⟩
      · rw [List.getElem?_set_ne (Ne.symm hi')] at hi
        exact R2.own i bi hi
    · obtain ⟨bi', hbi'⟩ : ∃ bi', (st.H ++ [some (⟨ty, st.t + 1, []⟩ : Blk)])[i]? = some (some bi') := by
        by_cases h' : i = b
        · subst h'; exact ⟨bl, hb2⟩
        · rw [List.getElem?_set_ne (Ne.symm h')] at hi; exact ⟨bi, hi⟩
      obtain ⟨bj', hbj'⟩ : ∃ bj', (st.H ++ [some (⟨ty, st.t + 1, []⟩ : Blk)])[j]? = some (some bj') := by
        by_cases h' : j = b
        · subst h'; exact ⟨bl, hb2⟩
        · rw [List.getElem?_set_ne (Ne.symm h')] at hj; exact ⟨bj, hj⟩
      exact R2.inj i j bi' bj' q q' r s t u hij hbi' hbj' hq hq' hr ht
  rcases Nat.lt_or_ge st.H.length G.length with hlt | hge
  · exact go G (.refl _ _) (Nat.le_refl _) R hlt
  · have heq : st.H.length = G.length := Nat.le_antisymm R.len hge
    exact go (G ++ [⟨none, 0, false⟩]) (fun i p hi hp => ⟨p, by rw [List.getElem?_append_left hi]; exact hp, .refl p⟩) (by simp) R.extend (by simp; omega)
theorem AW.reserve {P : Program} {n : Nat} {c : Code} {Q : Exit → St → Prop} {st : St} (k : Nat) (h : AW P n c Q ⟨st.tm, st.H ++ List.replicate k none, st.t⟩) : AW P n c Q st := fun w0 F G a w hs => by
 obtain ⟨R, hTR, hd⟩ := hs
 have key : ∀ j, ∃ G1, Ghost.le G.length G G1 ∧ G.length ≤ G1.length ∧ st.H.length + j ≤ G1.length ∧ Rel w0 F G1 st.H st.t w := fun j => by
  induction j with
  | zero => exact ⟨G, .refl _ _, Nat.le_refl _, R.len, R⟩
  | succ j ih =>
   obtain ⟨G1, h1, h2, h3, h4⟩ := ih
   exact ⟨G1 ++ [⟨none, 0, false⟩], h1.trans (fun i p hi hp => ⟨p, by rw [List.getElem?_append_left (by omega)]; exact hp, .refl p⟩), by simp; omega, by simp; omega, h4.extend⟩
 obtain ⟨G1, h1, h2, h3, R1⟩ := key k
 have some_ : ∀ (i : Nat) (bl : Blk), (st.H ++ List.replicate k none)[i]? = some (some bl) → st.H[i]? = some (some bl) := fun i bl hi => by
  rcases Nat.lt_or_ge i st.H.length with hlt | hge
  ·rwa [List.getElem?_append_left hlt] at hi
  ·rw [List.getElem?_append_right hge, List.getElem?_replicate] at hi
   split at hi <;> cases hi
 refine wp_mono (h w0 F G1 a w ⟨⟨R1.below, R1.mem, by simpa using h3, R1.top, fun i bl hi => R1.own i bl (some_ i bl hi), fun i j bi bj p q r s t u hij hi hj => R1.inj i j bi bj p q r s t u hij (some_ i bi hi) (some_ j bj hj), R1.cnd⟩, hTR.mono (.refl _) h1, hd⟩) fun e a' w' l => l.onw ⟨.refl _, fun _ _ _ => rfl, h1, h2⟩
mutual
def shD (n : Nat) : D → D
 | .v x => .v x
 | .sl sz cs full => .sl sz (shL n cs) full
 | .rp cs o => .rp (shL n cs) o
 | .own sz b g lo m => .own sz (b + n) g lo m
 | .ptr b g o => .ptr (b + n) g o
 | .agg cs => .agg (shL n cs)
 | .tup cs => .tup (shL n cs)
 | .fn f cs => .fn f (shL n cs)
 | .mp b g => .mp (b + n) g
 | .any => .any
def shL (n : Nat) : List D → List D
 | [] => []
 | d :: ds => shD n d :: shL n ds
end
mutual
def inD (k : Nat) : D → Bool
 | .v _ => true
 | .sl _ cs _ => inL k cs
 | .rp cs _ => inL k cs
 | .own _ b _ _ _ => decide (b < k)
 | .ptr b _ _ => decide (b < k)
 | .agg cs => inL k cs
 | .tup cs => inL k cs
 | .fn _ cs => inL k cs
 | .mp b _ => decide (b < k)
 | .any => true
def inL (k : Nat) : List D → Bool
 | [] => true
 | d :: ds => inD k d && inL k ds
end
theorem Yd9 (n : Nat) : ∀ l, shL n l = l.map (shD n)
 | [] => by simp [shL]
 | d :: l => by simp [shL, Yd9 n l]
theorem Ybq (n : Nat) (l : List D) : (shL n l).length = l.length := by rw [Yd9]; simp
theorem Yi6 {k : Nat} : ∀ {l : List D}, (∀ d ∈ l, inD k d = true) → inL k l = true
 | [], _ => by simp [inL]
 | d :: l, h => by simp only [inL, Bool.and_eq_true]; exact ⟨h d (by simp), Yi6 fun d hd => h d (by simp [hd])⟩
def shB (n : Nat) (bl : Blk) : Blk := ⟨bl.ty, bl.g, shL n bl.cells⟩
section
variable {F : Mem} {G G' : Ghost} {n k : Nat}
mutual
theorem Yv2 (hG : ∀ (i : Nat) (p : Pl), i < k → G[i]? = some p → G'[i + n]? = some p) : ∀ (d : D) (u : Value), inD k d = true → Rep F G d u → Rep F G' (shD n d) u
 | .v x, u, _, h => by simpa only [Rep, shD] using h
 | .sl sz ds full, u, hp, h => by
  simp only [Rep, inD, shD] at h hp ⊢
  obtain ⟨a, len, cap, h1, h2, h3, h4, h5⟩ := h
  refine ⟨a, len, cap, h1, by rw [Ybq]; exact h2, h3, h4, ?_⟩
  rcases h5 with rfl | ⟨blk, off, vs, e, hc, hr⟩
  ·exact .inl (by simp [shL])
  ·exact .inr ⟨blk, off, vs, e, hc, Y6r hG ds vs hp hr⟩
 | .rp ds o, u, hp, h => by
  simp only [Rep, inD, shD] at h hp ⊢
  obtain ⟨blk, off, vs, e, hc, hr⟩ := h
  exact ⟨blk, off, vs, e, hc, Y6r hG ds vs hp hr⟩
 | .own sz b g lo m, u, hp, h => by
  simp only [Rep, inD, shD, decide_eq_true_eq] at h hp ⊢
  obtain ⟨h1, p, h2, h3⟩ := h
  exact ⟨h1, p, hG b p hp h2, h3⟩
 | .ptr b g o, u, hp, h => by
  simp only [Rep, inD, shD, decide_eq_true_eq] at h hp ⊢
  obtain ⟨h1, p, h2, h3⟩ := h
  exact ⟨h1, p, hG b p hp h2, h3⟩
 | .mp b g, u, hp, h => by
  simp only [Rep, inD, shD, decide_eq_true_eq] at h hp ⊢
  obtain ⟨h1, p, h2, h3⟩ := h
  exact ⟨h1, p, hG b p hp h2, h3⟩
 | .agg ds, u, hp, h => by
  simp only [Rep, inD, shD] at h hp ⊢
  obtain ⟨vs, e, hr⟩ := h
  exact ⟨vs, e, Y6r hG ds vs hp hr⟩
 | .tup ds, u, hp, h => by
  simp only [Rep, inD, shD] at h hp ⊢
  obtain ⟨vs, e, hr⟩ := h
  exact ⟨vs, e, Y6r hG ds vs hp hr⟩
 | .fn f ds, u, hp, h => by
  simp only [Rep, inD, shD] at h hp ⊢
  obtain ⟨vs, e, hr⟩ := h
  exact ⟨vs, e, Y6r hG ds vs hp hr⟩
 | .any, u, _, h => by simp only [Rep, shD]
theorem Y6r (hG : ∀ (i : Nat) (p : Pl), i < k → G[i]? = some p → G'[i + n]? = some p) : ∀ (ds : List D) (us : List Value), inL k ds = true → RepL F G ds us → RepL F G' (shL n ds) us
 | [], us, _, h => by simpa only [RepL, shL] using h
 | d :: ds, us, hp, h => by
  simp only [RepL, inL, shL, Bool.and_eq_true] at h hp ⊢
  obtain ⟨u, us', e, h1, h2⟩ := h
  exact ⟨u, us', e, Yv2 hG d u hp.1 h1, Y6r hG ds us' hp.2 h2⟩
end
end
structure New (t : Nat) (d : D) (bs : List Blk) (t' : Nat) : Prop where
 le : t ≤ t'
 res : inD bs.length d = true
 blk : ∀ bl ∈ bs, t < bl.g ∧ inL bs.length bl.cells = true
theorem ACall.of_new {P : Program} {f : FuncId} {ds ds' : List D} {H : Hp} {t : Nat} {K0 : D → Hp → Nat → Prop} {K : D → Hp → Nat → Prop} (h : ACall P f ds' [] t K0) (hd : ds.map ufa = ds') (hp : Y11 ds' = true)
    (hk : ∀ d H' t', K0 d H' t' → ∃ bs : List Blk, H' = bs.map some ∧ New t d bs t' ∧ K (shD H.length d) (H ++ (bs.map (shB H.length)).map some) t') : ACall P f ds H t K := by
  refine fun w0 F G w us R hL => ?_
  subst hd
  have hL' : RepL F [] (ds.map ufa) us := Y1f _ _ hp (Y1w (fun d u _ hd => hd.ufa) hL)
  have R0 : Rel w F [] [] t w := ⟨Below.refl _ _, R.mem, Nat.zero_le _, fun i p h => by simp at h, fun i bl h => by simp at h, fun i j bi bj p q r s t u _ h => by simp at h, R.cnd.below R.below⟩
  refine (h w F [] w us R0 hL').mono fun e w' hx => ?_
  obtain ⟨F1, G1, u, d, H1, t1, rfl, onw, R1, hd1, hK0⟩ := hx
  obtain ⟨bs, rfl, ⟨hle, hres, hblk⟩, hK⟩ := hk d H1 t1 hK0
  have hl1 : bs.length ≤ G1.length := by simpa using R1.len
  have hn : H.length ≤ G.length := R.len
  let n := H.length
  let G2 : Ghost := G.take n ++ G1.take bs.length ++ G.drop (n + bs.length)
  have gold : ∀ i, i < n → G2[i]? = G[i]? := fun i hi => by
    show (G.take n ++ G1.take bs.length ++ G.drop (n + bs.length))[i]? = _
    rw [List.append_assoc, List.getElem?_append_left (by simp; omega), List.getElem?_take, if_pos hi]
  have gnew : ∀ i, i < bs.length → G2[i + n]? = G1[i]? := fun i hi => by
    show (G.take n ++ G1.take bs.length ++ G.drop (n + bs.length))[i + n]? = _
    rw [List.append_assoc, List.getElem?_append_right (by simp; omega), List.getElem?_append_left (by simp; omega), List.getElem?_take]
    have : i + n - (G.take n).length = i := by simp; omega
    rw [this, if_pos hi]
  have gfar : ∀ i, n + bs.length ≤ i → G2[i]? = G[i]? := fun i hi => by
    show (G.take n ++ G1.take bs.length ++ G.drop (n + bs.length))[i]? = _
    rw [List.getElem?_append_right (by simp; omega), List.getElem?_drop]
    congr 1
    simp; omega
  have glen : n + bs.length ≤ G2.length ∧ G.length ≤ G2.length := by
    constructor <;> (simp only [G2, List.length_append, List.length_take, List.length_drop]; omega)
  have hH1 : ∀ (i : Nat) (bl : Blk), bs[i]? = some bl → ∃ p, G1[i]? = some p ∧ Lies w F1 G1 w' bl p := fun i bl hi => R1.own i bl (by simp [hi])
  have hgh : Ghost.le G.length G G2 := fun i p hi hp => by
    by_cases h1 : i < n
    · exact ⟨p, by rw [gold i h1]; exact hp, .refl p⟩
    · by_cases h2 : i < n + bs.length
      · obtain ⟨bl, hbl⟩ : ∃ bl, bs[i - n]? = some bl := ⟨_, List.getElem?_eq_getElem (by omega)⟩
        obtain ⟨q, hq, hql⟩ := hH1 _ bl hbl
        refine ⟨q, ?_, .inr ?_⟩
        · rw [← hq, ← gnew (i - n) (by omega), show i - n + n = i by omega]
        · have := (hblk bl (List.mem_of_getElem? hbl)).1
          have := hql.1
          have := R.top i p hp
          omega
      · exact ⟨p, by rw [gfar i (by omega)]; exact hp, .refl p⟩
  have hsh : ∀ (i : Nat) (p : Pl), i < bs.length → G1[i]? = some p → G2[i + n]? = some p := fun i p hi hp => by rw [gnew i hi]; exact hp
  have hHn : ∀ (i : Nat) (bl : Blk), (H ++ (bs.map (shB n)).map some)[i]? = some (some bl) → (i < n ∧ H[i]? = some (some bl)) ∨ (n ≤ i ∧ ∃ bl0, bs[i - n]? = some bl0 ∧ bl = shB n bl0) := fun i bl hi => by
    by_cases h1 : i < n
    · rw [List.getElem?_append_left h1] at hi; exact .inl ⟨h1, hi⟩
    · rw [List.getElem?_append_right (by omega), List.getElem?_map, List.getElem?_map] at hi
      cases hb : bs[i - H.length]? with
      | none => rw [hb] at hi; cases hi
      | some bl0 => rw [hb] at hi; simp at hi; exact .inr ⟨by omega, bl0, rfl, hi.symm⟩
  refine ⟨F1, G2, u, shD n d, _, t1, rfl, ⟨onw.mem, fun b o hb => onw.old b o (Nat.lt_of_lt_of_le hb R.below.size), hgh, glen.2⟩, ⟨R.below.trans (R1.below.mono R.below.size), R1.mem, by simp; omega, fun i p hp => ?_, fun i bl hi => ?_, fun i j bi bj p q r s x y hij hi hj hp hq hr hy => ?_, R.cnd⟩, Yv2 hsh d u hres hd1, hK⟩
  · by_cases h1 : i < n
    · rw [gold i h1] at hp; exact Nat.le_trans (R.top i p hp) hle
    · by_cases h2 : i < n + bs.length
      · have := gnew (i - n) (by omega)
        rw [show i - n + n = i by omega] at this
        rw [this] at hp; exact R1.top _ p hp
      · rw [gfar i (by omega)] at hp; exact Nat.le_trans (R.top i p hp) hle
  · rcases hHn i bl hi with ⟨h1, h2⟩ | ⟨h1, bl0, h2, rfl⟩
    · obtain ⟨p, hp, hl⟩ := R.own i bl h2
      refine ⟨p, by rw [gold i h1]; exact hp, hl.mono onw.mem hgh fun r s hr => ?_⟩
      obtain ⟨l1, _⟩ := hl.lt hr
      refine ⟨R1.below.block r l1, fun o => ?_⟩
      rw [onw.old r o l1]
      obtain ⟨_, hl⟩ := hl
      rw [hr] at hl
      exact hl.2.1 o
    · obtain ⟨p, hp, hg, hl⟩ := hH1 _ bl0 h2
      have hlt : i - n < bs.length := (List.getElem?_eq_some_iff.1 h2).1
      refine ⟨p, by have := hsh _ p hlt hp; rwa [show i - n + n = i by omega] at this, hg, ?_⟩
      cases hr : p.r with
      | none => rw [hr] at hl; simp only at hl ⊢; simp only [shB]; rw [hl.2]; exact ⟨hl.1, by simp [shL]⟩
      | some rs =>
        obtain ⟨r, s⟩ := rs
        rw [hr] at hl
        obtain ⟨k1, k2, hl⟩ := hl
        refine ⟨Nat.le_trans R.below.size k1, k2, ?_⟩
        cases hpm : p.m with
        | false =>
          rw [hpm] at hl
          obtain ⟨vs, junk, k3, k4, k5⟩ := hl
          exact ⟨vs, junk, k3, k4, Y6r hsh _ _ (hblk bl0 (List.mem_of_getElem? h2)).2 k5⟩
        | true =>
          rw [hpm] at hl
          obtain ⟨es, clock, k3, k4⟩ := hl
          exact ⟨es, clock, k3, by simp only [shB]; rw [Yd9]; exact Y9p (fun x => by simp only [shD]) k4⟩
  · have old_lt : ∀ (i : Nat) (bl : Blk) (p : Pl) (r s : Nat), i < n → H[i]? = some (some bl) → G2[i]? = some p → p.r = some (r, s) → r < w.heap.size := fun i bl p r s h1 h2 hp hr => by
      obtain ⟨p', hp', hl⟩ := R.own i bl h2
      rw [gold i h1, hp'] at hp; cases hp
      exact (hl.lt hr).1
    have new_ge : ∀ (i : Nat) (bl0 : Blk) (p : Pl) (r s : Nat), n ≤ i → bs[i - n]? = some bl0 → G2[i]? = some p → p.r = some (r, s) → w.heap.size ≤ r ∧ G1[i - n]? = some p := fun i bl0 p r s h1 h2 hp hr => by
      have hlt : i - n < bs.length := (List.getElem?_eq_some_iff.1 h2).1
      have := gnew (i - n) hlt
      rw [show i - n + n = i by omega, hp] at this
      obtain ⟨p', hp', hl⟩ := hH1 _ bl0 h2
      rw [hp'] at this; cases this
      exact ⟨(hl.lt hr).2, hp'⟩
    rcases hHn i bi hi with ⟨h1, h2⟩ | ⟨h1, b1, h2, rfl⟩ <;> rcases hHn j bj hj with ⟨g1, g2⟩ | ⟨g1, b2, g2, rfl⟩
    · rw [gold i h1] at hp; rw [gold j g1] at hq
      exact R.inj i j bi bj p q r s x y hij h2 g2 hp hq hr hy
    · have a := old_lt i bi p r s h1 h2 hp hr
      have b := (new_ge j b2 q x y g1 g2 hq hy).1
      omega
    · have a := old_lt j bj q x y g1 g2 hq hy
      have b := (new_ge i b1 p r s h1 h2 hp hr).1
      omega
    · have a := (new_ge i b1 p r s h1 h2 hp hr).2
      have b := (new_ge j b2 q x y g1 g2 hq hy).2
      exact R1.inj (i - n) (j - n) b1 b2 p q r s x y (by omega) (by simp [h2]) (by simp [g2]) a b hr hy
mutual
def zz (R : D → D) (m : Nat) (H2 : Hp) : D → D
 | .v x => .v x
 | .sl sz cs full => .sl sz (zzL R m H2 cs) full
 | .rp cs o => .rp (zzL R m H2 cs) o
 | .own sz b g lo n => if b < m then .own sz b g lo n else match H2[b - m]? with
  | some (some bl) => if bl.g = g ∧ lo + n * sz ≤ bl.cells.length then .sl sz (((bl.cells.drop lo).take (n * sz)).map R) false else .own sz b g lo n
  | _ => .own sz b g lo n
 | .ptr b g o => if b < m then .ptr b g o else match H2[b - m]? with
  | some (some bl) => if bl.g = g then .rp (bl.cells.map R) o else .ptr b g o
  | _ => .ptr b g o
 | .agg cs => .agg (zzL R m H2 cs)
 | .tup cs => .tup (zzL R m H2 cs)
 | .fn f cs => .fn f (zzL R m H2 cs)
 | .mp b g => .mp b g
 | .any => .any
def zzL (R : D → D) (m : Nat) (H2 : Hp) : List D → List D
 | [] => []
 | d :: ds => zz R m H2 d :: zzL R m H2 ds
end
def zv (m : Nat) (H2 : Hp) : Nat → D → D
 | 0, d => d
 | k + 1, d => zz (zv m H2 k) m H2 d
theorem Ymv (R : D → D) (m : Nat) (H2 : Hp) : ∀ ds, zzL R m H2 ds = ds.map (zz R m H2)
 | [] => by simp [zzL]
 | d :: ds => by simp [zzL, Ymv R m H2 ds]
theorem Ykp (R : D → D) (m : Nat) (H2 : Hp) (ds : List D) : (zzL R m H2 ds).length = ds.length := by rw [Ymv]; simp
def zT (m : Nat) (H2 : Hp) (k : Nat) (tm : TM) : TM := tm.map fun p => (p.1, zv m H2 k p.2)
def zH (m : Nat) (H2 : Hp) (k : Nat) (H1 : Hp) : Hp := H1.map fun x => x.map fun bl => ⟨bl.ty, bl.g, bl.cells.map (zv m H2 k)⟩
theorem Yy8 (m : Nat) (H2 : Hp) : ∀ k, zv m H2 k .any = .any
 | 0 => rfl
 | k + 1 => by simp only [zv, zz]
theorem zv_v (m : Nat) (H2 : Hp) : ∀ k x, zv m H2 k (.v x) = .v x
 | 0, _ => rfl
 | k + 1, _ => by simp only [zv, zz]
theorem Ypj (m : Nat) (H2 : Hp) (k : Nat) : ∀ (tm : TM) (j : Nat), look (zT m H2 k tm) j = zv m H2 k (look tm j)
 | [], j => by simp [zT, look, Yy8]
 | (i, d) :: r, j => by
  have := Ypj m H2 k r j
  simp only [zT, List.map_cons, look] at this ⊢
  split
  ·rfl
  ·exact this
section
variable {P : Program} {w0 : World} {F : Mem} {G : Ghost} {H1 H2 : Hp} {t : Nat} {w : World}
open Classical in
noncomputable def tailMem (F : Mem) (G : Ghost) (m : Nat) (H2 : Hp) (w : World) : Mem := fun b o =>
 if ∃ (i : Nat) (bl : Blk) (p : Pl) (s : Nat), m ≤ i ∧ H2[i - m]? = some (some bl) ∧ G[i]? = some p ∧ p.r = some (b, s) then w.cell? ⟨b, o, none⟩ else F b o
theorem Yj8 {m i : Nat} {bl : Blk} {p : Pl} {r s : Nat} (h1 : m ≤ i) (h2 : H2[i - m]? = some (some bl)) (h3 : G[i]? = some p) (h4 : p.r = some (r, s)) (o : Nat) : tailMem F G m H2 w r o = w.cell? ⟨r, o, none⟩ := by
 unfold tailMem
 rw [if_pos ⟨i, bl, p, s, h1, h2, h3, h4⟩]
theorem Y6q (R : Rel w0 F G (H1 ++ H2) t w) : F.le (tailMem F G H1.length H2 w) := fun b o x e => by
 unfold tailMem
 split
 ·exact R.mem b o x e
 ·exact e
theorem Yw7 (R : Rel w0 F G (H1 ++ H2) t w) : (tailMem F G H1.length H2 w).at_ w := fun b o x e => by
 unfold tailMem at e
 split at e
 ·exact e
 ·exact R.mem b o x e
theorem Ysa (R : Rel w0 F G (H1 ++ H2) t w) (b o : Nat) (hb : b < w0.heap.size) : tailMem F G H1.length H2 w b o = F b o := by
 unfold tailMem
 split
 ·rename_i h
  obtain ⟨i, bl, p, s, h1, h2, h3, h4⟩ := h
  obtain ⟨p', hp', hl⟩ := R.own i bl (by rw [List.getElem?_append_right h1]; exact h2)
  rw [h3] at hp'; cases hp'
  have := (hl.lt h4).2
  omega
 ·rfl
mutual
theorem Yus (R : Rel w0 F G (H1 ++ H2) t w) {S : D → D} (hS : ∀ d u, Rep F G d u → Rep (tailMem F G H1.length H2 w) G (S d) u) : ∀ (d : D) (u : Value), Rep F G d u → Rep (tailMem F G H1.length H2 w) G (zz S H1.length H2 d) u
 | .v x, u, h => by simpa only [Rep, zz] using h
 | .sl sz cs full, u, h => by
  simp only [Rep, zz] at h ⊢
  obtain ⟨a, len, cap, h1, h2, h3, h4, h5⟩ := h
  refine ⟨a, len, cap, h1, by rw [h2, Ykp], h3, h4, ?_⟩
  rcases h5 with rfl | ⟨blk, off, vs, e, hc, hr⟩
  ·left; simp [zzL]
  ·exact .inr ⟨blk, off, vs, e, fun j x hx => Y6q R _ _ _ (hc j x hx), Y87 R hS cs vs hr⟩
 | .rp cs o, u, h => by
  simp only [Rep, zz] at h ⊢
  obtain ⟨blk, off, vs, e, hc, hr⟩ := h
  exact ⟨blk, off, vs, e, fun j x hx => Y6q R _ _ _ (hc j x hx), Y87 R hS cs vs hr⟩
 | .own sz b g lo n, u, h => by
  have keep : Rep (tailMem F G H1.length H2 w) G (.own sz b g lo n) u := Rep.mono (Y6q R) (.refl _ _) _ _ h
  simp only [zz]
  split
  ·exact keep
  ·rename_i hbm
   split
   ·rename_i bl hb
    split
    ·rename_i hc
     obtain ⟨hg, hle⟩ := hc
     have hbH : (H1 ++ H2)[b]? = some (some bl) := by rw [List.getElem?_append_right (by omega)]; exact hb
     rcases R.own_some h hbH hg with ⟨⟨a, rfl⟩, rfl, rfl, hnil, _⟩ | ⟨r, size, cap, vs, junk, hG, rfl, hcap, _, hsz, hr, hh, hlen, hL⟩
     ·simp only [Rep]
      exact ⟨a, 0, 0, rfl, by simp, Nat.le_refl _, fun _ => rfl, .inl (by simp)⟩
     ·simp only [Rep]
      have hvl : vs.length = bl.cells.length := hL.length
      refine ⟨_, n, cap, rfl, by simp; omega, hcap, (fun e => by cases e), .inr ⟨r, lo, (vs.drop lo).take (n * sz), rfl, fun j x hx => ?_, Y1w (fun d u _ hd => hS d u hd) ((hL.drop lo).take _)⟩⟩
      rw [List.getElem?_take] at hx
      split at hx
      ·rw [List.getElem?_drop] at hx
       have hlt : lo + j < vs.length := (List.getElem?_eq_some_iff.1 hx).1
       rw [Yj8 (by omega) hb hG rfl, cell_of_row w r (lo + j) _ _ _ hh]
       simp only [List.getElem?_toArray]
       rw [List.getElem?_append_left hlt]
       exact hx
      ·cases hx
    ·exact keep
   ·exact keep
 | .ptr b g o, u, h => by
  have keep : Rep (tailMem F G H1.length H2 w) G (.ptr b g o) u := Rep.mono (Y6q R) (.refl _ _) _ _ h
  simp only [zz]
  split
  ·exact keep
  ·rename_i hbm
   split
   ·rename_i bl hb
    split
    ·rename_i hg
     have hbH : (H1 ++ H2)[b]? = some (some bl) := by rw [List.getElem?_append_right (by omega)]; exact hb
     simp only [Rep] at h ⊢
     obtain ⟨_, p, hp, _, h⟩ := h
     obtain ⟨p', hp', hl⟩ := R.own b bl hbH
     rw [hp] at hp'; cases hp'
     obtain ⟨hg', hl⟩ := hl
     obtain ⟨hpm, h⟩ := h (by omega)
     cases hr : p.r with
     | none => rw [hr] at h; exact h.elim
     | some rs =>
      obtain ⟨r, s⟩ := rs
      rw [hr] at h hl
      rw [hpm] at hl
      subst h
      obtain ⟨hb0, _, vs, junk, hh, _, hL⟩ := hl
      refine ⟨r, 0, vs, by rw [Nat.zero_add], fun j x hx => ?_, Y1w (fun d u _ hd => hS d u hd) hL⟩
      have hlt : j < vs.length := (List.getElem?_eq_some_iff.1 hx).1
      rw [Nat.zero_add, Yj8 (by omega) hb hp hr, cell_of_row w r j _ _ _ hh]
      simp only [List.getElem?_toArray]
      rw [List.getElem?_append_left hlt]
      exact hx
    ·exact keep
   ·exact keep
 | .agg cs, u, h => by
  simp only [Rep, zz] at h ⊢
  obtain ⟨vs, e, hr⟩ := h
  exact ⟨vs, e, Y87 R hS cs vs hr⟩
 | .tup cs, u, h => by
  simp only [Rep, zz] at h ⊢
  obtain ⟨vs, e, hr⟩ := h
  exact ⟨vs, e, Y87 R hS cs vs hr⟩
 | .fn f cs, u, h => by
  simp only [Rep, zz] at h ⊢
  obtain ⟨vs, e, hr⟩ := h
  exact ⟨vs, e, Y87 R hS cs vs hr⟩
 | .mp b g, u, h => by simp only [zz]; exact Rep.mono (Y6q R) (.refl _ _) _ _ h
 | .any, u, h => by simp only [Rep, zz]
theorem Y87 (R : Rel w0 F G (H1 ++ H2) t w) {S : D → D} (hS : ∀ d u, Rep F G d u → Rep (tailMem F G H1.length H2 w) G (S d) u) : ∀ (ds : List D) (us : List Value), RepL F G ds us → RepL (tailMem F G H1.length H2 w) G (zzL S H1.length H2 ds) us
 | [], us, h => by simpa only [RepL, zzL] using h
 | d :: ds, us, h => by
  simp only [RepL, zzL] at h ⊢
  obtain ⟨u, us', e, h1, h2⟩ := h
  exact ⟨u, us', e, Yus R hS d u h1, Y87 R hS ds us' h2⟩
end
theorem Ymw (R : Rel w0 F G (H1 ++ H2) t w) : ∀ (k : Nat) (d : D) (u : Value), Rep F G d u → Rep (tailMem F G H1.length H2 w) G (zv H1.length H2 k d) u
 | 0, _, _, h => Rep.mono (Y6q R) (.refl _ _) _ _ h
 | k + 1, d, u, h => Yus R (fun d u h => Ymw R k d u h) d u h
theorem Rel.tail (R : Rel w0 F G (H1 ++ H2) t w) (k : Nat) : Rel w0 (tailMem F G H1.length H2 w) G (zH H1.length H2 k H1) t w := by
 have hget : ∀ (i : Nat) (bl : Blk), (zH H1.length H2 k H1)[i]? = some (some bl) → ∃ bl0, H1[i]? = some (some bl0) ∧ bl = ⟨bl0.ty, bl0.g, bl0.cells.map (zv H1.length H2 k)⟩ := fun i bl hi => by
  simp only [zH, List.getElem?_map] at hi
  cases hx : H1[i]? with
  | none => rw [hx] at hi; cases hi
  | some x =>
   cases x with
   | none => rw [hx] at hi; simp at hi
   | some bl0 => rw [hx] at hi; simp at hi; exact ⟨bl0, rfl, hi.symm⟩
 have hlen := R.len
 have hl : ∀ (i : Nat) (x : Option Blk), H1[i]? = some x → (H1 ++ H2)[i]? = some x := fun i x hi => by rw [List.getElem?_append_left (List.getElem?_eq_some_iff.1 hi).1]; exact hi
 refine ⟨R.below, Yw7 R, by simp [zH] at hlen ⊢; omega, R.top, fun i bl hi => ?_, fun i j bi bj p q r s x y hij hi hj hp hq hr hy => ?_, R.cnd⟩
 ·obtain ⟨bl0, h0, rfl⟩ := hget i bl hi
  obtain ⟨p, hp, hg, hql⟩ := R.own i bl0 (hl i _ h0)
  refine ⟨p, hp, hg, ?_⟩
  cases hr : p.r with
  | none => rw [hr] at hql; simp only at hql ⊢; rw [hql.2]; exact ⟨hql.1, rfl⟩
  | some rs =>
   obtain ⟨r, s⟩ := rs
   rw [hr] at hql
   obtain ⟨k1, k2, hql⟩ := hql
   refine ⟨k1, fun o => ?_, ?_⟩
   rotate_left 1
   ·cases hpm : p.m with
    | false =>
     rw [hpm] at hql
     obtain ⟨vs, junk, k3, k4, k5⟩ := hql
     exact ⟨vs, junk, k3, k4, Y1w (fun d u _ h => Ymw R k d u h) k5⟩
    | true =>
     rw [hpm] at hql
     obtain ⟨es, clock, k3, k4⟩ := hql
     exact ⟨es, clock, k3, Y9p (fun x => zv_v _ _ k x) k4⟩
   unfold tailMem
   rw [if_neg]
   ·exact k2 o
   ·rintro ⟨j, bj, q, s', g1, g2, g3, g4⟩
    have hi1 : i < H1.length := (List.getElem?_eq_some_iff.1 h0).1
    exact R.inj i j bl0 bj p q r s r s' (by omega) (hl i _ h0) (by rw [List.getElem?_append_right g1]; exact g2) hp g3 hr g4 rfl
 ·obtain ⟨b1, h1, _⟩ := hget i bi hi
  obtain ⟨b2, h2, _⟩ := hget j bj hj
  exact R.inj i j b1 b2 p q r s x y hij (hl i _ h1) (hl j _ h2) hp hq hr hy
end
theorem AW.tail {P : Program} {n : Nat} {c : Code} {Q : Exit → St → Prop} {st : St} (k : Nat) (H1 H2 : Hp) (e : st.H = H1 ++ H2) (h : AW P n c Q ⟨zT H1.length H2 k st.tm, zH H1.length H2 k H1, st.t⟩) : AW P n c Q st := fun w0 F G a w hs => by
 obtain ⟨R, hTR, hd⟩ := hs
 rw [e] at R
 exact wp_mono (h w0 (tailMem F G H1.length H2 w) G a w ⟨R.tail k, ⟨hTR.1, fun j => by rw [Ypj]; exact Ymw R k _ _ (hTR.2 j)⟩, hd⟩) fun e a' w' l => l.onw ⟨Y6q R, fun b o hb => Ysa R b o hb, .refl _ _, Nat.le_refl _⟩
end Go.Proofs.YtpbpafmgkdihlaaGreatDoor.T
