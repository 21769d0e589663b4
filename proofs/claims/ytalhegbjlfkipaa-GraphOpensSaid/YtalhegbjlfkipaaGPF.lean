import Derived.Test.YtalhegbjlfkipaaGPD
set_option linter.all false
/- Graphs, in plain Lean: bridges, depth first. -/
section
namespace Go.Proofs.Ytalhegbjlfkipaa.Gr
variable {E : List (Nat × Nat)} {x y z n : Nat}
/-! Joined over the edges that S has. -/
def CR (E : List (Nat × Nat)) (S : Nat → Prop) (x y : Nat) : Prop := ∃ l, IW E S x l y
variable {S S' : Nat → Prop}
theorem IW.mono {l : List Nat} (hs : ∀ k, S k → S' k) (h : IW E S x l y) : IW E S' x l y := by
  induction h with
  | nil => exact .nil _
  | cons s e _ ih => exact .cons (hs _ s) e ih
theorem IW.app {l m : List Nat} (h : IW E S x l y) (k : IW E S y m z) : IW E S x (l ++ m) z := by
  induction h with
  | nil => exact k
  | cons s e _ ih => exact .cons s e (ih k)
theorem IW.rev (ho : Ok n E) {l : List Nat} (h : IW E S x l y) : IW E S y l.reverse x := by
  induction h with
  | nil => exact .nil _
  | cons s e _ ih => rw [List.reverse_cons]; exact ih.app (.cons s (oth_symm ho e) (.nil _))
theorem CR.refl (E : List (Nat × Nat)) (S : Nat → Prop) (x : Nat) : CR E S x x := ⟨[], .nil x⟩
theorem CR.trans (h : CR E S x y) (k : CR E S y z) : CR E S x z := by
  obtain ⟨l, h⟩ := h; obtain ⟨m, k⟩ := k; exact ⟨_, h.app k⟩
theorem CR.symm (ho : Ok n E) (h : CR E S x y) : CR E S y x := by
  obtain ⟨l, h⟩ := h; exact ⟨_, h.rev ho⟩
theorem CR.one {k : Nat} (s : S k) (e : oth E k x = some y) : CR E S x y := ⟨[k], .cons s e (.nil _)⟩
theorem CR.mono (hs : ∀ k, S k → S' k) (h : CR E S x y) : CR E S' x y := by
  obtain ⟨l, h⟩ := h; exact ⟨l, h.mono hs⟩
theorem CR.stay {W : Nat → Prop} (hw : ∀ k u v, S k → oth E k u = some v → W u → W v) (h : CR E S x y) (hx : W x) : W y := by
  obtain ⟨l, h⟩ := h
  induction h with
  | nil => exact hx
  | cons s e _ ih => exact ih (hw _ _ _ s e hx)
theorem bridge_cr (ho : Ok n E) {k u v : Nat} (h : oth E k u = some v) : bridgeP E k = true ↔ ¬ CR E (· ≠ k) u v := by
  have key : ∀ x y, Con (E.eraseIdx k) x y ↔ CR E (· ≠ k) x y := fun x y => by
    constructor
    · refine fun c => c.lift (P := CR E (· ≠ k)) (CR.refl E _) (fun _ _ _ => CR.trans) fun u v a => ?_
      obtain ⟨j, h1, h2⟩ := (adj_erase ho k u v).1 a
      exact CR.one h1 h2
    · rintro ⟨l, hl⟩
      exact hl.con fun j hj u v e => .adj ((adj_erase ho k u v).2 ⟨j, hl.all j hj, e⟩)
  rcases oth_some h with e | e
  · rw [bridge_iff e, key]
  · rw [bridge_iff e, key]
    exact not_congr ⟨CR.symm ho, CR.symm ho⟩

/-! Depth first: counts, lows, bridges. -/
structure DF where
  ct : Nat
  od : List Nat
  lw : List Nat
  br : List Bool
def DF.o (s : DF) (x : Nat) : Nat := s.od.getD x 0
def DF.l (s : DF) (x : Nat) : Nat := s.lw.getD x 0
def DF.b (s : DF) (k : Nat) : Bool := s.br.getD k false
def DF.vis (s : DF) (x : Nat) : Prop := 0 < s.o x
/-- An edge at a node is looked at. -/
def stepV (call : Nat → Int → DF → DF) (E : List (Nat × Nat)) (node : Nat) (by_ : Int) (s : DF) (i : Nat) : DF :=
  match oth E i node with
  | none => s
  | some k => if (i : Int) = by_ then s
    else if 0 < s.o k then { s with lw := s.lw.set node (min (s.l node) (s.o k)) }
    else { call k i s with lw := (call k i s).lw.set node (min ((call k i s).l node) ((call k i s).l k)), br := (call k i s).br.set i (decide ((call k i s).o node < (call k i s).l k)) }
def beginV (node : Nat) (s : DF) : DF := { s with ct := s.ct + 1, od := s.od.set node (s.ct + 1), lw := s.lw.set node (s.ct + 1) }
def visitP (E : List (Nat × Nat)) (at_ : Nat → List Nat) : Nat → Nat → Int → DF → DF
  | 0, _, _, s => s
  | f + 1, node, by_, s => (at_ node).foldl (stepV (visitP E at_ f) E node by_) (beginV node s)
/-- How many nodes have not been seen. -/
def unv (s : DF) : Nat := (s.od.filter (· == 0)).length
structure Len (n : Nat) (E : List (Nat × Nat)) (s : DF) : Prop where
  od : s.od.length = n
  lw : s.lw.length = n
  br : s.br.length = E.length
def inW (E : List (Nat × Nat)) (W : Nat → Prop) (k : Nat) : Prop := ∀ u v, oth E k u = some v → W u
structure Pre (n : Nat) (E : List (Nat × Nat)) (s : DF) (node : Nat) (by_ : Int) : Prop where
  len : Len n E s
  new : ¬ s.vis node
  lt : node < n
  top : ∀ x, s.o x ≤ s.ct
  fr : ∀ j : Nat, by_ = j → ∃ p, oth E j p = some node ∧ s.vis p
  open_ : ∀ y z k, s.vis y → oth E k y = some z → ¬ s.vis z → ∃ p, ∃ j : Nat, by_ = j ∧ oth E j p = some node ∧ s.vis p ∧ s.o y ≤ s.o p ∧ CR E (inW E s.vis) y p
  no : ∀ k x z, oth E k x = some z → ¬ s.vis x → s.b k = false
def Nu (s s' : DF) (x : Nat) : Prop := s'.vis x ∧ ¬ s.vis x
structure Post (n : Nat) (E : List (Nat × Nat)) (s : DF) (node : Nat) (by_ : Int) (s' : DF) : Prop where
  len : Len n E s'
  top : ∀ x, s'.o x ≤ s'.ct
  ct : s.ct < s'.ct
  old : ∀ x, s.vis x → s'.o x = s.o x
  hi : ∀ x, Nu s s' x → s.ct < s'.o x
  me : s'.o node = s.ct + 1
  shut : ∀ x z k, Nu s s' x → oth E k x = some z → s'.vis z
  con : ∀ x, Nu s s' x → CR E (inW E (Nu s s')) x node
  lo : ∀ x, ¬ Nu s s' x → s'.l x = s.l x
  low : s'.l node ≤ s.ct + 1
  low1 : s'.l node = s.ct + 1 ∨ ∃ x y k : Nat, Nu s s' x ∧ s.vis y ∧ (k : Int) ≠ by_ ∧ oth E k x = some y ∧ s.o y = s'.l node
  low2 : ∀ x y k : Nat, Nu s s' x → s.vis y → (k : Int) ≠ by_ → oth E k x = some y → s'.l node ≤ s.o y
  br : ∀ k x z : Nat, (k : Int) ≠ by_ → Nu s s' x → oth E k x = some z → s'.b k = bridgeP E k
  keep : ∀ k : Nat, ((k : Int) = by_ ∨ ∀ x z, oth E k x = some z → ¬ Nu s s' x) → s'.b k = s.b k
/-- While the node's edges are looked at: those in p have been. -/
structure Mid (n : Nat) (E : List (Nat × Nat)) (s : DF) (node : Nat) (by_ : Int) (p : Nat → Prop) (s' : DF) : Prop where
  len : Len n E s'
  top : ∀ x, s'.o x ≤ s'.ct
  ct : s.ct < s'.ct
  old : ∀ x, s.vis x → s'.o x = s.o x
  hi : ∀ x, Nu s s' x → s.ct < s'.o x
  me : s'.o node = s.ct + 1
  shut : ∀ x z k, Nu s s' x → x ≠ node → oth E k x = some z → s'.vis z
  shut2 : ∀ z k, p k → oth E k node = some z → s'.vis z
  con : ∀ x, Nu s s' x → CR E (inW E (Nu s s')) x node
  lo : ∀ x, ¬ Nu s s' x → s'.l x = s.l x
  low : s'.l node ≤ s.ct + 1
  low1 : s'.l node = s.ct + 1 ∨ ∃ x y k : Nat, Nu s s' x ∧ s.vis y ∧ (k : Int) ≠ by_ ∧ oth E k x = some y ∧ s.o y = s'.l node
  low2 : ∀ x y k : Nat, Nu s s' x → x ≠ node → s.vis y → (k : Int) ≠ by_ → oth E k x = some y → s'.l node ≤ s.o y
  low3 : ∀ y k : Nat, p k → s.vis y → (k : Int) ≠ by_ → oth E k node = some y → s'.l node ≤ s.o y
  br : ∀ k x z : Nat, (k : Int) ≠ by_ → Nu s s' x → x ≠ node → oth E k x = some z → s'.b k = bridgeP E k
  keep : ∀ k : Nat, ((k : Int) = by_ ∨ ∀ x z, oth E k x = some z → Nu s s' x → x = node) → s'.b k = s.b k
theorem getD_set (l : List Nat) (i v x : Nat) (hi : i < l.length) : (l.set i v).getD x 0 = if x = i then v else l.getD x 0 := by
  simp only [List.getD_eq_getElem?_getD, List.getElem?_set]
  by_cases h : x = i
  · subst h; simp [hi]
  · rw [if_neg (fun e => h e.symm), if_neg h]
theorem getD_setB (l : List Bool) (i : Nat) (v : Bool) (x : Nat) (hi : i < l.length) : (l.set i v).getD x false = if x = i then v else l.getD x false := by
  simp only [List.getD_eq_getElem?_getD, List.getElem?_set]
  by_cases h : x = i
  · subst h; simp [hi]
  · rw [if_neg (fun e => h e.symm), if_neg h]
variable {s s' s1 : DF} {node i k : Nat} {by_ : Int} {p : Nat → Prop}
theorem oth_idx (h : oth E k x = some y) : k < E.length := by
  rcases oth_some h with h | h <;> exact (List.getElem?_eq_some_iff.1 h).1
theorem oth_fun {y z : Nat} (h : oth E k x = some y) (h' : oth E k x = some z) : y = z := by rw [h] at h'; cases h'; rfl
/-- The two ends. -/
theorem oth_ends {u v : Nat} (h : oth E k x = some y) (h' : oth E k u = some v) : u = x ∧ v = y ∨ u = y ∧ v = x := by
  rcases oth_some h with h | h <;> rcases oth_some h' with h' | h' <;> rw [h] at h' <;> cases h' <;> simp
theorem inW_of (ho : Ok n E) {W : Nat → Prop} (h : oth E k x = some y) (hx : W x) (hy : W y) : inW E W k := fun u v e => by
  rcases oth_ends h e with ⟨rfl, _⟩ | ⟨rfl, _⟩
  · exact hx
  · exact hy

theorem Pre.begin_ (h : Pre n E s node by_) : Mid n E s node by_ (fun _ => False) (beginV node s) := by
  have hlo := h.len.od
  have hll := h.len.lw
  have hlt := h.lt
  have ho1 : ∀ x, (beginV node s).o x = if x = node then s.ct + 1 else s.o x := fun x => getD_set _ _ _ _ (by omega)
  have hl1 : ∀ x, (beginV node s).l x = if x = node then s.ct + 1 else s.l x := fun x => getD_set _ _ _ _ (by omega)
  have hnew : ∀ x, Nu s (beginV node s) x ↔ x = node := fun x => by
    unfold Nu DF.vis
    rw [ho1]
    constructor
    · rintro ⟨h1, h2⟩
      by_cases e : x = node
      · exact e
      · rw [if_neg e] at h1; exact absurd h1 h2
    · rintro rfl
      rw [if_pos rfl]
      exact ⟨by omega, h.new⟩
  have hb : ∀ k, (beginV node s).b k = s.b k := fun k => rfl
  refine ⟨⟨by simp [beginV, hlo], by simp [beginV, hll], h.len.br⟩, fun x => ?_, by simp [beginV], fun x hx => ?_, fun x hx => ?_, by rw [ho1, if_pos rfl], fun x z k hx hne _ => absurd ((hnew x).1 hx) hne, fun z k hk => hk.elim, fun x hx => ?_, fun x hx => ?_, ?_, .inl ?_,
    fun x y k hx hne => absurd ((hnew x).1 hx) hne, fun y k hk => hk.elim, fun k x z _ hx hne => absurd ((hnew x).1 hx) hne, fun k _ => hb k⟩
  · rw [ho1]; have := h.top x; simp only [beginV]; split <;> omega
  · rw [ho1, if_neg fun (e : x = node) => h.new (e ▸ hx)]
  · rw [(hnew x).1 hx, ho1, if_pos rfl]; omega
  · rw [(hnew x).1 hx]; exact .refl _ _ _
  · rw [hl1, if_neg fun e => hx ((hnew x).2 e)]
  · rw [hl1, if_pos rfl]; omega
  · rw [hl1, if_pos rfl]
theorem Mid.same (h : Mid n E s node by_ p s') {z : Nat} (hz : oth E i node = some z) (hv : s'.vis z) (hl : (i : Int) = by_ ∨ ¬ s.vis z ∨ s'.l node ≤ s.o z) : Mid n E s node by_ (fun k => p k ∨ k = i) s' :=
  { h with
    shut2 := fun z' k hk e => hk.elim (fun hk => h.shut2 z' k hk e) fun hk => by subst hk; rw [hz] at e; cases e; exact hv
    low3 := fun y k hk hy hb e => hk.elim (fun hk => h.low3 y k hk hy hb e) fun hk => by
      subst hk
      rw [hz] at e; cases e
      rcases hl with hl | hl | hl
      · exact absurd hl hb
      · exact absurd hy hl
      · exact hl }
/-- An edge to a node that was seen before. -/
theorem Mid.back (hp : Pre n E s node by_) (h : Mid n E s node by_ p s') {z : Nat} (hz : oth E i node = some z) (hv : s'.vis z) (hb : (i : Int) ≠ by_) :
    Mid n E s node by_ (fun k => p k ∨ k = i) { s' with lw := s'.lw.set node (min (s'.l node) (s'.o z)) } := by
  have hlt := hp.lt
  have hl1 : ∀ x, DF.l { s' with lw := s'.lw.set node (min (s'.l node) (s'.o z)) } x = if x = node then min (s'.l node) (s'.o z) else s'.l x := fun x => getD_set _ _ _ _ (by rw [h.len.lw]; exact hlt)
  have hme : Nu s s' node := ⟨by unfold DF.vis; rw [h.me]; omega, hp.new⟩
  have hlow := h.low
  refine ⟨⟨h.len.od, by simp [h.len.lw], h.len.br⟩, h.top, h.ct, h.old, h.hi, h.me, h.shut, fun z' k hk e => ?_, h.con, fun x hx => ?_, ?_, ?_, fun x y k hx hne hy hk e => ?_, fun y k hk hy hkb e => ?_, h.br, h.keep⟩
  · rcases hk with hk | rfl
    · exact h.shut2 z' k hk e
    · rw [hz] at e; cases e; exact hv
  · have hne : x ≠ node := fun e => hx (e ▸ hme)
    rw [hl1, if_neg hne]; exact h.lo x hx
  · rw [hl1, if_pos rfl]; omega
  · rw [hl1, if_pos rfl]
    by_cases hs : s.vis z
    · have hz' := h.old z hs
      rcases Nat.le_total (s'.l node) (s'.o z) with hle | hle
      · rw [Nat.min_eq_left hle]; exact h.low1
      · rw [Nat.min_eq_right hle]
        exact .inr ⟨node, z, i, hme, hs, hb, hz, hz'.symm⟩
    · have := h.hi z ⟨hv, hs⟩
      rw [Nat.min_eq_left (by omega)]; exact h.low1
  · rw [hl1, if_pos rfl]
    have := h.low2 x y k hx hne hy hk e
    omega
  · rw [hl1, if_pos rfl]
    rcases hk with hk | rfl
    · have := h.low3 y k hk hy hkb e
      omega
    · rw [hz] at e; cases e
      have := h.old _ hy
      omega
/-- What a call at an edge to a node that was not seen asks for. -/
theorem Mid.pre (ho : Ok n E) (hp : Pre n E s node by_) (h : Mid n E s node by_ p s') (hz : oth E i node = some z) (hv : ¬ s'.vis z) : Pre n E s' z i := by
  have hvs : ∀ x, s.vis x → s'.vis x := fun x hx => by unfold DF.vis; rw [h.old x hx]; exact hx
  have hme : s'.vis node := by unfold DF.vis; rw [h.me]; omega
  refine ⟨h.len, hv, (oth_lt ho hz).2.1, h.top, fun j e => ?_, fun y w k hy e hw => ?_, fun k x w e hx => ?_⟩
  · have : i = j := by omega
    subst this
    exact ⟨node, hz, hme⟩
  · refine ⟨node, i, rfl, hz, hme, ?_⟩
    by_cases hyn : y = node
    · subst hyn; exact ⟨Nat.le_refl _, .refl _ _ _⟩
    by_cases hys : s.vis y
    · obtain ⟨q, j, e1, e2, e3, e4, e5⟩ := hp.open_ y w k hys e fun hw' => hw (hvs w hw')
      have e6 := h.old y hys
      have e7 := hp.top y
      have e8 := h.me
      refine ⟨by omega, (e5.mono fun k hk u v e => hvs u (hk u v e)).trans (.one (inW_of ho e2 (hvs q e3) hme) e2)⟩
    · exact absurd (h.shut y w k ⟨hy, hys⟩ hyn e) hw
  · rw [h.keep k (.inr fun u v e' hu => Classical.byContradiction fun hne => ?_)]
    · exact hp.no k x w e fun hx' => hx (hvs x hx')
    · rcases oth_ends e e' with ⟨rfl, _⟩ | ⟨rfl, rfl⟩
      · exact hx hu.1
      · exact hx (h.shut _ _ k hu hne e')
theorem Mid.call (ho : Ok n E) (hp : Pre n E s node by_) (h : Mid n E s node by_ p s1) (hz : oth E i node = some z) (hv : ¬ s1.vis z) (hb : (i : Int) ≠ by_) {s2 : DF} (q : Post n E s1 z i s2) :
    Mid n E s node by_ (fun k => p k ∨ k = i) { s2 with lw := s2.lw.set node (min (s2.l node) (s2.l z)), br := s2.br.set i (decide (s2.o node < s2.l z)) } := by
  have hq := h.pre ho hp hz hv
  have hlt := hp.lt
  have hiE := oth_idx hz
  have hne := (oth_lt ho hz).2.2
  have hzs := oth_symm ho hz
  have hvs : ∀ x, s.vis x → s1.vis x := fun x hx => by unfold DF.vis; rw [h.old x hx]; exact hx
  have hv1 : ∀ x, s1.vis x → s2.vis x := fun x hx => by unfold DF.vis; rw [q.old x hx]; exact hx
  have hme : s1.vis node := by unfold DF.vis; rw [h.me]; omega
  have hmn : Nu s s1 node := ⟨hme, hp.new⟩
  have hme2 : s2.o node = s.ct + 1 := by rw [q.old node hme, h.me]
  have hzn : Nu s1 s2 z := ⟨by unfold DF.vis; rw [q.me]; omega, hv⟩
  have hnn : ¬ Nu s1 s2 node := fun hn => hn.2 hme
  have hsplit : ∀ x, Nu s s2 x → Nu s s1 x ∨ Nu s1 s2 x := fun x hx => by
    by_cases e : s1.vis x
    · exact .inl ⟨e, hx.2⟩
    · exact .inr ⟨hx.1, e⟩
  have hin1 : ∀ x, Nu s s1 x → Nu s s2 x := fun x hx => ⟨hv1 x hx.1, hx.2⟩
  have hin2 : ∀ x, Nu s1 s2 x → Nu s s2 x := fun x hx => ⟨hx.1, fun e => hx.2 (hvs x e)⟩
  generalize hs3 : ({ s2 with lw := s2.lw.set node (min (s2.l node) (s2.l z)), br := s2.br.set i (decide (s2.o node < s2.l z)) } : DF) = s3
  have hl3 : ∀ x, s3.l x = if x = node then min (s2.l node) (s2.l z) else s2.l x := fun x => by subst hs3; exact getD_set _ _ _ _ (by rw [q.len.lw]; exact hlt)
  have hb3 : ∀ k, s3.b k = if k = i then decide (s2.o node < s2.l z) else s2.b k := fun k => by subst hs3; exact getD_setB _ _ _ _ (by rw [q.len.br]; exact hiE)
  have ho3 : ∀ x, s3.o x = s2.o x := fun x => by subst hs3; rfl
  have hvv : ∀ x, s3.vis x ↔ s2.vis x := fun x => by unfold DF.vis; rw [ho3]
  have hN : ∀ x, Nu s s3 x ↔ Nu s s2 x := fun x => by unfold Nu; rw [hvv]
  have hct : s3.ct = s2.ct := by subst hs3; rfl
  have hlen : Len n E s3 := by subst hs3; exact ⟨q.len.od, by simp [q.len.lw], by simp [q.len.br]⟩
  have hinW : ∀ k, inW E (Nu s s2) k → inW E (Nu s s3) k := fun k hk u v e => (hN u).2 (hk u v e)
  have c1 := h.ct
  have c2 := q.ct
  have low := h.low
  have hl2 := q.lo node hnn
  -- the edge back is none of the call's
  have hby : ∀ k x y, Nu s1 s2 x → oth E k x = some y → (k : Int) ≠ by_ := fun k x y hx e hk => by
    obtain ⟨w, e1, e2⟩ := hp.fr k hk.symm
    rcases oth_ends e1 e with ⟨rfl, _⟩ | ⟨rfl, _⟩
    · exact hx.2 (hvs _ e2)
    · exact hnn hx
  have hopen : ∀ x y k, Nu s1 s2 x → s1.vis y → oth E k x = some y → s1.o y ≤ s1.o node ∧ CR E (inW E s1.vis) y node := fun x y k hx hy e => by
    obtain ⟨w, j, e1, e2, e3, e4, e5⟩ := hq.open_ y x k hy (oth_symm ho e) hx.2
    have : i = j := by omega
    subst this
    have : w = node := by
      rcases oth_ends hz e2 with ⟨e, _⟩ | ⟨_, e⟩
      · exact e
      · exact absurd e.symm hne
    subst this
    exact ⟨e4, e5⟩
  have hbr : decide (s2.o node < s2.l z) = bridgeP E i := by
    rw [Bool.eq_iff_iff, bridge_cr ho hz, decide_eq_true_eq]
    constructor
    · intro hlt' hc
      refine hnn ((hc.symm ho).stay (W := Nu s1 s2) (fun k u v hk e hu => ⟨q.shut u v k hu e, fun hv' => ?_⟩) hzn)
      have h1 := q.low2 u v k hu hv' (by omega) e
      have h2 := (hopen u v k hu hv' e).1
      rw [h.me] at h2
      omega
    · intro hc
      refine Nat.lt_of_not_le fun hle => hc ?_
      rcases q.low1 with e | ⟨x, y, k, e1, e2, e3, e4, e5⟩
      · omega
      · have g1 : CR E (· ≠ i) z x := ((q.con x e1).symm ho).mono fun k hk e => by subst e; exact hnn (hk node z hz)
        have g2 : CR E (· ≠ i) x y := .one (by omega) e4
        have g3 : CR E (· ≠ i) y node := (hopen x y k e1 e2 e4).2.mono fun k hk e => by subst e; exact hv (hk z node hzs)
        exact ((g1.trans g2).trans g3).symm ho
  refine ⟨hlen, fun x => ?_, by omega, fun x hx => ?_, fun x hx => ?_, by rw [ho3]; exact hme2, fun x w k hx hxn e => ?_, fun w k hk e => ?_, fun x hx => ?_, fun x hx => ?_, ?_, ?_, fun x y k hx hxn hy hk e => ?_, fun y k hk hy hkb e => ?_, fun k x w hk hx hxn e => ?_, fun k hk => ?_⟩
  · rw [ho3, hct]; exact q.top x
  · rw [ho3, q.old x (hvs x hx), h.old x hx]
  · rw [hN] at hx
    rw [ho3]
    rcases hsplit x hx with hx | hx
    · rw [q.old x hx.1]; exact h.hi x hx
    · have := q.hi x hx; omega
  · rw [hN] at hx
    rw [hvv]
    rcases hsplit x hx with hx | hx
    · exact hv1 w (h.shut x w k hx hxn e)
    · exact q.shut x w k hx e
  · rw [hvv]
    rcases hk with hk | rfl
    · exact hv1 w (h.shut2 w k hk e)
    · rw [hz] at e; cases e; exact hzn.1
  · rw [hN] at hx
    rcases hsplit x hx with hx | hx
    · exact (h.con x hx).mono fun k hk => hinW k fun u v e => hin1 u (hk u v e)
    · exact ((q.con x hx).mono fun k hk => hinW k fun u v e => hin2 u (hk u v e)).trans (.one (hinW i (inW_of ho hzs (hin2 z hzn) (hin1 node hmn))) hzs)
  · rw [hN] at hx
    have hxn : x ≠ node := fun e => hx (e ▸ hin1 node hmn)
    rw [hl3, if_neg hxn, q.lo x fun k => hx (hin2 x k), h.lo x fun k => hx (hin1 x k)]
  · rw [hl3, if_pos rfl]; omega
  · rw [hl3, if_pos rfl, hl2]
    rcases Nat.le_total (s1.l node) (s2.l z) with hle | hle
    · rw [Nat.min_eq_left hle]
      refine h.low1.imp id ?_
      rintro ⟨x, y, k, e1, e2⟩
      exact ⟨x, y, k, (hN x).2 (hin1 x e1), e2⟩
    · rw [Nat.min_eq_right hle]
      rcases q.low1 with e | ⟨x, y, k, e1, e2, e3, e4, e5⟩
      · omega
      · by_cases hy : s.vis y
        · exact .inr ⟨x, y, k, (hN x).2 (hin2 x e1), hy, hby k x y e1 e4, e4, by rw [← h.old y hy]; exact e5⟩
        · have := h.hi y ⟨e2, hy⟩
          exact .inl (by omega)
  · rw [hl3, if_pos rfl, hl2]
    rw [hN] at hx
    rcases hsplit x hx with hx | hx
    · have := h.low2 x y k hx hxn hy hk e
      omega
    · have hki : k ≠ i := fun e' => by
        subst e'
        rcases oth_ends hz e with ⟨rfl, _⟩ | ⟨_, rfl⟩
        · exact hxn rfl
        · exact hp.new hy
      have := q.low2 x y k hx (hvs y hy) (by omega) e
      have := h.old y hy
      omega
  · rw [hl3, if_pos rfl, hl2]
    rcases hk with hk | rfl
    · have := h.low3 y k hk hy hkb e
      omega
    · rw [hz] at e; cases e
      exact absurd (hvs _ hy) hv
  · rw [hN] at hx
    rw [hb3]
    split
    · rename_i e'; subst e'; exact hbr
    · rename_i hki
      by_cases hx2 : Nu s1 s2 x
      · exact q.br k x w (by omega) hx2 e
      · by_cases hw2 : Nu s1 s2 w
        · exact q.br k w x (by omega) hw2 (oth_symm ho e)
        · rw [q.keep k (.inr fun u v e' hu => ?_)]
          · exact h.br k x w hk ((hsplit x hx).resolve_right hx2) hxn e
          · rcases oth_ends e e' with ⟨rfl, _⟩ | ⟨rfl, _⟩
            · exact hx2 hu
            · exact hw2 hu
  · have hki : k ≠ i := fun e => by
      subst e
      rcases hk with hk | hk
      · exact hb hk
      · exact hne (hk z node hzs ((hN z).2 (hin2 z hzn))).symm
    rw [hb3, if_neg hki, q.keep k (.inr fun u v e hu => ?_)]
    · refine h.keep k (hk.imp id fun hk u v e hu => hk u v e ((hN u).2 (hin1 u hu)))
    · rcases hk with hk | hk
      · exact hby k u v hu e hk
      · have := hk u v e ((hN u).2 (hin2 u hu))
        subst this
        exact hnn hu
theorem Mid.end_ (ho : Ok n E) (hp : Pre n E s node by_) (h : Mid n E s node by_ p s') (hall : ∀ k z, oth E k node = some z → p k) : Post n E s node by_ s' := by
  have hmn : Nu s s' node := ⟨by unfold DF.vis; rw [h.me]; omega, hp.new⟩
  refine ⟨h.len, h.top, h.ct, h.old, h.hi, h.me, fun x z k hx e => ?_, h.con, h.lo, h.low, h.low1, fun x y k hx hy hk e => ?_, fun k x z hk hx e => ?_, fun k hk => ?_⟩
  · by_cases hxn : x = node
    · subst hxn; exact h.shut2 z k (hall k z e) e
    · exact h.shut x z k hx hxn e
  · by_cases hxn : x = node
    · subst hxn; exact h.low3 y k (hall k y e) hy hk e
    · exact h.low2 x y k hx hxn hy hk e
  · by_cases hxn : x = node
    · subst hxn
      by_cases hz : Nu s s' z
      · exact h.br k z x hk hz (oth_lt ho e).2.2.symm (oth_symm ho e)
      · have hvz : s'.vis z := h.shut2 z k (hall k z e) e
        have hvs : s.vis z := Classical.byContradiction fun hn => hz ⟨hvz, hn⟩
        rw [h.keep k (.inr fun u v e' hu => ?_), hp.no k x z e hp.new]
        · symm
          rw [← Bool.not_eq_true, bridge_cr ho e, Classical.not_not]
          obtain ⟨w, j, e1, e2, e3, e4, e5⟩ := hp.open_ z x k hvs (oth_symm ho e) hp.new
          have g1 : CR E (· ≠ k) z w := e5.mono fun j' hj' e' => by subst e'; exact hp.new (hj' x z e)
          have g2 : CR E (· ≠ k) w x := .one (by omega) e2
          exact (g1.trans g2).symm ho
        · rcases oth_ends e e' with ⟨rfl, _⟩ | ⟨rfl, _⟩
          · rfl
          · exact absurd hu hz
    · exact h.br k x z hk hx hxn e
  · exact h.keep k (hk.imp id fun hk u v e hu => absurd hu (hk u v e))
theorem unv_le : ∀ (a b : List Nat), a.length = b.length → (∀ x, 0 < a.getD x 0 → 0 < b.getD x 0) → (b.filter (· == 0)).length ≤ (a.filter (· == 0)).length
  | [], [], _, _ => Nat.le_refl _
  | [], _ :: _, h, _ => by simp at h
  | _ :: _, [], h, _ => by simp at h
  | u :: a, v :: b, hl, h => by
    have ih := unv_le a b (by simpa using hl) fun x hx => by simpa using h (x + 1) (by simpa using hx)
    have h0 := h 0
    simp at h0
    by_cases hv : v = 0
    · have hu : u = 0 := by omega
      simp [hu, hv, ih]
    · by_cases hu : u = 0
      · simp [hu, hv]; omega
      · simp [hu, hv, ih]
theorem unv_set : ∀ (a : List Nat) (i v : Nat), i < a.length → a.getD i 0 = 0 → 0 < v → ((a.set i v).filter (· == 0)).length + 1 = (a.filter (· == 0)).length
  | [], i, v, h, _, _ => by simp at h
  | u :: a, 0, v, _, h, hv => by
    simp at h
    have : v ≠ 0 := by omega
    simp [h, this]
  | u :: a, i + 1, v, hi, h, hv => by
    have ih := unv_set a i v (by simpa using hi) (by simpa using h) hv
    by_cases hu : u = 0 <;> simp [hu] <;> omega
/-- One call. -/
theorem visit_post (ho : Ok n E) {at_ : Nat → List Nat} (hat : ∀ x k, k ∈ at_ x ↔ ∃ y, oth E k x = some y) : ∀ (f : Nat) (s : DF) (node : Nat) (by_ : Int), Pre n E s node by_ → unv s ≤ f → Post n E s node by_ (visitP E at_ f node by_ s)
  | 0, s, node, by_, hp, hf => by
    have := unv_set s.od node 1 (by rw [hp.len.od]; exact hp.lt) (by have := hp.new; unfold DF.vis DF.o at this; omega) (by omega)
    unfold unv at hf
    omega
  | f + 1, s, node, by_, hp, hf => by
    unfold visitP
    have h0 := hp.begin_
    have key : ∀ (l : List Nat) (p : Nat → Prop) (s1 : DF), (∀ k ∈ l, k ∈ at_ node) → Mid n E s node by_ p s1 → unv s1 ≤ f → Mid n E s node by_ (fun k => p k ∨ k ∈ l) (l.foldl (stepV (visitP E at_ f) E node by_) s1) := fun l => by
      induction l with
      | nil => intro p s1 _ h _; simpa using h
      | cons i l ih =>
        intro p s1 hl h hu
        obtain ⟨z, hz⟩ := (hat node i).1 (hl i (by simp))
        have go : ∀ s2, Mid n E s node by_ (fun k => p k ∨ k = i) s2 → unv s2 ≤ f → Mid n E s node by_ (fun k => p k ∨ k ∈ i :: l) (l.foldl (stepV (visitP E at_ f) E node by_) s2) := fun s2 h2 hu2 => by
          have := ih _ s2 (fun k hk => hl k (by simp [hk])) h2 hu2
          have e : (fun k => (p k ∨ k = i) ∨ k ∈ l) = fun k => p k ∨ k ∈ i :: l := by funext k; simp [or_assoc]
          rwa [e] at this
        rw [List.foldl_cons]
        unfold stepV
        rw [hz]
        simp only
        split
        · rename_i hb
          obtain ⟨w, e1, e2⟩ := hp.fr i hb.symm
          have hwz : w = z := by
            rcases oth_ends hz e1 with ⟨_, e⟩ | ⟨e, _⟩
            · exact absurd e (oth_lt ho hz).2.2
            · exact e
          subst hwz
          exact go _ (h.same hz (by unfold DF.vis; rw [h.old _ e2]; exact e2) (.inl hb)) hu
        · rename_i hb
          split
          · rename_i hv
            exact go _ (h.back hp hz hv hb) hu
          · rename_i hv
            have q := visit_post ho hat f s1 z i (h.pre ho hp hz hv) hu
            refine go _ (h.call ho hp hz hv hb q) ?_
            refine Nat.le_trans (unv_le s1.od _ (by rw [h.len.od]; exact q.len.od.symm) fun x hx => ?_) hu
            have := q.old x hx
            unfold DF.o at this
            show 0 < (visitP E at_ f z (↑i) s1).od.getD x 0
            omega
    have hb : unv (beginV node s) + 1 = unv s := unv_set s.od node (s.ct + 1) (by rw [hp.len.od]; exact hp.lt) (by have := hp.new; unfold DF.vis DF.o at this; omega) (by omega)
    refine (key (at_ node) _ _ (fun _ h => h) h0 (by omega)).end_ ho hp fun k z e => .inr ((hat node k).2 ⟨z, e⟩)
/-- Between the calls for the parts. -/
structure All (n : Nat) (E : List (Nat × Nat)) (s : DF) : Prop where
  len : Len n E s
  top : ∀ x, s.o x ≤ s.ct
  shut : ∀ x z k, s.vis x → oth E k x = some z → s.vis z
  br : ∀ k x z, s.vis x → oth E k x = some z → s.b k = bridgeP E k
  no : ∀ k x z, oth E k x = some z → ¬ s.vis x → s.b k = false
theorem All.start (n : Nat) (E : List (Nat × Nat)) : All n E ⟨0, List.replicate n 0, List.replicate n 0, List.replicate E.length false⟩ := by
  have hv : ∀ x, DF.o ⟨0, List.replicate n 0, List.replicate n 0, List.replicate E.length false⟩ x = 0 := fun x => by
    unfold DF.o; simp only [List.getD_eq_getElem?_getD, List.getElem?_replicate]; split <;> rfl
  have hb : ∀ x, DF.b ⟨0, List.replicate n 0, List.replicate n 0, List.replicate E.length false⟩ x = false := fun x => by
    unfold DF.b; simp only [List.getD_eq_getElem?_getD, List.getElem?_replicate]; split <;> rfl
  refine ⟨⟨by simp, by simp, by simp⟩, fun x => by rw [hv]; exact Nat.le_refl _, fun x z k h => ?_, fun k x z h => ?_, fun k x z _ _ => hb k⟩
  · unfold DF.vis at h; rw [hv] at h; omega
  · unfold DF.vis at h; rw [hv] at h; omega
theorem All.pre (h : All n E s) (hx : x < n) (hn : ¬ s.vis x) : Pre n E s x (-1) :=
  ⟨h.len, hn, hx, h.top, fun j e => by omega, fun y z k hy e hz => absurd (h.shut y z k hy e) hz, h.no⟩
theorem All.next (ho : Ok n E) (h : All n E s) {node : Nat} (q : Post n E s node (-1) s') : All n E s' := by
  have hvs : ∀ x, s.vis x → s'.vis x := fun x hx => by unfold DF.vis; rw [q.old x hx]; exact hx
  refine ⟨q.len, q.top, fun x z k hx e => ?_, fun k x z hx e => ?_, fun k x z e hx => ?_⟩
  · by_cases hs : s.vis x
    · exact hvs z (h.shut x z k hs e)
    · exact q.shut x z k ⟨hx, hs⟩ e
  · by_cases hs : s.vis x
    · have hz := h.shut x z k hs e
      rw [q.keep k (.inr fun u v e' hu => ?_)]
      · exact h.br k x z hs e
      · rcases oth_ends e e' with ⟨rfl, _⟩ | ⟨rfl, _⟩
        · exact hu.2 hs
        · exact hu.2 hz
    · exact q.br k x z (by omega) ⟨hx, hs⟩ e
  · rw [q.keep k (.inr fun u v e' hu => ?_)]
    · exact h.no k x z e fun h => hx (hvs x h)
    · rcases oth_ends e e' with ⟨rfl, _⟩ | ⟨rfl, rfl⟩
      · exact hx hu.1
      · exact hx (q.shut _ _ k hu e')
/-- All parts. -/
def dfsP (E : List (Nat × Nat)) (at_ : Nat → List Nat) (n : Nat) (s : DF) : DF := (List.range n).foldl (fun s x => if s.o x = 0 then visitP E at_ n x (-1) s else s) s
theorem unv_n (h : Len n E s) : unv s ≤ n := by unfold unv; rw [← h.od]; exact List.length_filter_le _ _
theorem dfs_bridges (ho : Ok n E) {at_ : Nat → List Nat} (hat : ∀ x k, k ∈ at_ x ↔ ∃ y, oth E k x = some y) : (dfsP E at_ n ⟨0, List.replicate n 0, List.replicate n 0, List.replicate E.length false⟩).br = (List.range E.length).map (bridgeP E) := by
  have key : ∀ (l : List Nat) (s : DF), (∀ x ∈ l, x < n) → All n E s → All n E (l.foldl (fun s x => if s.o x = 0 then visitP E at_ n x (-1) s else s) s) ∧ (∀ x, s.vis x → DF.vis (l.foldl (fun s x => if s.o x = 0 then visitP E at_ n x (-1) s else s) s) x) ∧ ∀ x ∈ l, DF.vis (l.foldl (fun s x => if s.o x = 0 then visitP E at_ n x (-1) s else s) s) x := fun l => by
    induction l with
    | nil => intro s _ h; exact ⟨h, fun x hx => hx, fun x hx => by cases hx⟩
    | cons x l ih =>
      intro s hl h
      rw [List.foldl_cons]
      by_cases hx : s.o x = 0
      · rw [if_pos hx]
        have q := visit_post ho hat n s x (-1) (h.pre (hl x (by simp)) (by unfold DF.vis; omega)) (unv_n h.len)
        obtain ⟨g1, g2, g3⟩ := ih _ (fun y hy => hl y (by simp [hy])) (h.next ho q)
        refine ⟨g1, fun y hy => g2 y (by unfold DF.vis; rw [q.old y hy]; exact hy), fun y hy => ?_⟩
        rcases List.mem_cons.1 hy with rfl | hy
        · exact g2 y (by unfold DF.vis; rw [q.me]; omega)
        · exact g3 y hy
      · rw [if_neg hx]
        obtain ⟨g1, g2, g3⟩ := ih s (fun y hy => hl y (by simp [hy])) h
        refine ⟨g1, g2, fun y hy => ?_⟩
        rcases List.mem_cons.1 hy with rfl | hy
        · exact g2 y (by unfold DF.vis; omega)
        · exact g3 y hy
  obtain ⟨g1, _, g3⟩ := key (List.range n) _ (fun x hx => by simpa using hx) (All.start n E)
  unfold dfsP
  refine List.ext_getElem? fun k => ?_
  rcases Nat.lt_or_ge k E.length with hk | hk
  · obtain ⟨⟨a, b⟩, he⟩ : ∃ e, E[k]? = some e := ⟨_, List.getElem?_eq_getElem hk⟩
    have hb := g1.br k a b (g3 a (by simpa using (ho.get he).1)) (oth_of ho he).1
    unfold DF.b at hb
    rw [List.getD_eq_getElem?_getD, List.getElem?_eq_getElem (by rw [g1.len.br]; exact hk)] at hb
    rw [List.getElem?_eq_getElem (by rw [g1.len.br]; exact hk), List.getElem?_map, List.getElem?_range hk]
    simp only [Option.getD_some] at hb
    rw [hb]; rfl
  · rw [List.getElem?_eq_none (by rw [g1.len.br]; exact hk), List.getElem?_eq_none (by simpa using hk)]
end Go.Proofs.Ytalhegbjlfkipaa.Gr
end
