import Derived.WalkKit
set_option linter.all false
/- Graphs, in plain Lean: parts, sets of nodes, the forest, distances, shortest ways. -/
section
namespace Go.Proofs.Ytalhegbjlfkipaa.Gr
/-- Two nodes that an edge of the list joins. -/
def Adj (L : List (Nat × Nat)) (x y : Nat) : Prop := (x, y) ∈ L ∨ (y, x) ∈ L
theorem Adj.symm {L : List (Nat × Nat)} {x y : Nat} (h : Adj L x y) : Adj L y x := h.elim .inr .inl
theorem Adj.mono {L L' : List (Nat × Nat)} (hs : ∀ e ∈ L, e ∈ L') {x y : Nat} (h : Adj L x y) : Adj L' x y := h.imp (hs _) (hs _)
/-- A walk of so many edges. -/
inductive Wk (L : List (Nat × Nat)) : Nat → Nat → Nat → Prop
  | nil (x : Nat) : Wk L x 0 x
  | cons {x y z d : Nat} : Adj L x y → Wk L y d z → Wk L x (d + 1) z
def Con (L : List (Nat × Nat)) (x y : Nat) : Prop := ∃ d, Wk L x d y
def Ok (n : Nat) (L : List (Nat × Nat)) : Prop := ∀ e ∈ L, e.1 < n ∧ e.2 < n ∧ e.1 ≠ e.2
variable {L L' : List (Nat × Nat)} {x y z n : Nat}
theorem Ok.adj (h : Ok n L) (a : Adj L x y) : x < n ∧ y < n ∧ x ≠ y := by
  rcases a with a | a
  · exact h _ a
  · have := h _ a; simp only at this; exact ⟨this.2.1, this.1, fun e => this.2.2 e.symm⟩
theorem Wk.app {c d : Nat} (h : Wk L x c y) (k : Wk L y d z) : Wk L x (c + d) z := by
  induction h with
  | nil => simpa using k
  | cons a _ ih => rw [Nat.add_right_comm]; exact .cons a (ih k)
theorem Wk.rev {d : Nat} (h : Wk L x d y) : Wk L y d x := by
  induction h with
  | nil => exact .nil _
  | cons a _ ih => exact ih.app (.cons a.symm (.nil _))
theorem Wk.mono {d : Nat} (hs : ∀ u v, Adj L u v → Adj L' u v) (h : Wk L x d y) : Wk L' x d y := by
  induction h with
  | nil => exact .nil _
  | cons a _ ih => exact .cons (hs _ _ a) ih
theorem Con.refl (L : List (Nat × Nat)) (x : Nat) : Con L x x := ⟨0, .nil x⟩
theorem Con.symm (h : Con L x y) : Con L y x := h.imp fun _ h => h.rev
theorem Con.trans (h : Con L x y) (k : Con L y z) : Con L x z := by
  obtain ⟨c, h⟩ := h; obtain ⟨d, k⟩ := k; exact ⟨_, h.app k⟩
theorem Con.adj (h : Adj L x y) : Con L x y := ⟨1, .cons h (.nil _)⟩
theorem Con.lift {P : Nat → Nat → Prop} (hr : ∀ u, P u u) (ht : ∀ u v w, P u v → P v w → P u w) (ha : ∀ u v, Adj L u v → P u v) (h : Con L x y) : P x y := by
  obtain ⟨d, h⟩ := h
  induction h with
  | nil => exact hr _
  | cons a _ ih => exact ht _ _ _ (ha _ _ a) ih
theorem Con.sub (hs : ∀ u v, Adj L u v → Con L' u v) (h : Con L x y) : Con L' x y := h.lift (.refl L') (fun _ _ _ => .trans) hs
theorem Con.mono (hs : ∀ e ∈ L, e ∈ L') (h : Con L x y) : Con L' x y := h.sub fun _ _ a => .adj (a.mono hs)
theorem Con.eq {f : Nat → Nat} (hs : ∀ u v, Adj L u v → f u = f v) (h : Con L x y) : f x = f y := h.lift (P := fun u v => f u = f v) (fun _ => rfl) (fun _ _ _ => .trans) hs
theorem Con.lt (ho : Ok n L) (h : Con L x y) (hx : x < n) : y < n := by
  have : x < n → y < n := h.lift (P := fun u v => u < n → v < n) (fun _ h => h) (fun _ _ _ h k l => k (h l)) fun u v a _ => (ho.adj a).2.1
  exact this hx

theorem least {p : Nat → Prop} (h : ∃ m, p m) : ∃ m, p m ∧ ∀ k, p k → m ≤ k := by
  obtain ⟨m, hm⟩ := h
  induction m using Nat.strongRecOn with
  | ind m ih =>
    by_cases hk : ∃ k, k < m ∧ p k
    · obtain ⟨k, hk, hp⟩ := hk; exact ih k hk hp
    · exact ⟨m, hm, fun k hp => Nat.le_of_not_lt fun hlt => hk ⟨k, hlt, hp⟩⟩
/-- The least node that is joined to a node. -/
noncomputable def lab (L : List (Nat × Nat)) (x : Nat) : Nat := (least ⟨x, Con.refl L x⟩).choose
theorem lab_con (L : List (Nat × Nat)) (x : Nat) : Con L x (lab L x) := (least ⟨x, Con.refl L x⟩).choose_spec.1
theorem lab_le (h : Con L x y) : lab L x ≤ y := (least ⟨x, Con.refl L x⟩).choose_spec.2 _ h
theorem lab_self (L : List (Nat × Nat)) (x : Nat) : lab L x ≤ x := lab_le (.refl _ _)
theorem lab_eq : lab L x = lab L y ↔ Con L x y := by
  constructor
  · intro h
    have := lab_con L y
    rw [← h] at this
    exact (lab_con L x).trans this.symm
  · intro h
    exact Nat.le_antisymm (lab_le (h.trans (lab_con L y))) (lab_le (h.symm.trans (lab_con L x)))
theorem lab_lab (L : List (Nat × Nat)) (x : Nat) : lab L (lab L x) = lab L x := lab_eq.2 (lab_con L x).symm
theorem lab_of {f : Nat → Nat} (h1 : Con L x (f x)) (h2 : ∀ y, Con L x y → f x ≤ y) : f x = lab L x := Nat.le_antisymm (h2 _ (lab_con L x)) (lab_le h1)
theorem lab_congr (h : ∀ u v, Con L u v ↔ Con L' u v) (x : Nat) : lab L x = lab L' x := Nat.le_antisymm (lab_le ((h _ _).2 (lab_con L' x))) (lab_le ((h _ _).1 (lab_con L x)))

/-- Labels: each node's is joined to it, not greater than it, and edges join equal ones. -/
structure Lab (n : Nat) (L : List (Nat × Nat)) (f : Nat → Nat) : Prop where
  con : ∀ x, x < n → Con L x (f x)
  le : ∀ x, x < n → f x ≤ x
  adj : ∀ x y, Adj L x y → f x = f y
theorem Lab.is {f : Nat → Nat} (h : Lab n L f) (ho : Ok n L) (hx : x < n) : f x = lab L x :=
  lab_of (h.con x hx) fun y hy => by rw [hy.eq h.adj]; exact h.le y (hy.lt ho hx)

/-! Sets of nodes as a list: each one leads to a smaller one, the first one to itself. -/
def par (s : List Nat) (x : Nat) : Nat := s[x]?.getD x
def UF (s : List Nat) : Prop := ∀ x, par s x ≤ x
def rt (s : List Nat) (x : Nat) : Nat := if _h : par s x < x then rt s (par s x) else x
termination_by x
theorem rt_up {s : List Nat} (h : par s x < x) : rt s x = rt s (par s x) := by rw [rt, dif_pos h]
theorem rt_top {s : List Nat} (h : ¬ par s x < x) : rt s x = x := by rw [rt, dif_neg h]
theorem rt_le (s : List Nat) (x : Nat) : rt s x ≤ x := by
  induction x using Nat.strongRecOn with
  | ind x ih =>
    by_cases h : par s x < x
    · rw [rt_up h]; have := ih _ h; omega
    · rw [rt_top h]; exact Nat.le_refl _
theorem rt_par (s : List Nat) (x : Nat) : ¬ par s (rt s x) < rt s x := by
  induction x using Nat.strongRecOn with
  | ind x ih =>
    by_cases h : par s x < x
    · rw [rt_up h]; exact ih _ h
    · rw [rt_top h]; exact h
theorem rt_rt (s : List Nat) (x : Nat) : rt s (rt s x) = rt s x := rt_top (rt_par s x)
theorem UF.rt_par {s : List Nat} (h : UF s) (x : Nat) : par s (rt s x) = rt s x := by
  have := Gr.rt_par s x; have := h (rt s x); omega
theorem UF.rt_step {s : List Nat} (h : UF s) (x : Nat) : rt s (par s x) = rt s x := by
  by_cases k : par s x < x
  · rw [rt_up k]
  · have := h x; have e : par s x = x := by omega
    rw [e]
theorem par_set (s : List Nat) (i j : Nat) (hi : i < s.length) : par (s.set i j) x = if x = i then j else par s x := by
  unfold par
  rw [List.getElem?_set]
  by_cases h : x = i
  · subst h; simp [hi]
  · rw [if_neg (fun e => h e.symm), if_neg h]
theorem UF.half {s : List Nat} (h : UF s) {i : Nat} (hi : i < s.length) : UF (s.set i (par s (par s i))) ∧ ∀ x, rt (s.set i (par s (par s i))) x = rt s x := by
  have hp : ∀ x, par (s.set i (par s (par s i))) x = if x = i then par s (par s i) else par s x := fun x => par_set s i _ hi
  have h1 := h i
  have h2 := h (par s i)
  constructor
  · intro x; rw [hp]; split
    · omega
    · exact h x
  · intro x
    induction x using Nat.strongRecOn with
    | ind x ih =>
      by_cases hx : x = i
      · subst hx
        have e := hp x
        rw [if_pos rfl] at e
        by_cases hl : par s (par s x) < x
        · rw [rt_up (by rw [e]; exact hl), e, ih _ hl, h.rt_step, h.rt_step]
        · rw [rt_top (by rw [e]; exact hl), rt_top (by omega)]
      · have e := hp x
        rw [if_neg hx] at e
        by_cases hl : par s x < x
        · rw [rt_up (by rw [e]; exact hl), e, ih _ hl, ← rt_up hl]
        · rw [rt_top (by rw [e]; exact hl), rt_top hl]
theorem UF.join {s : List Nat} (h : UF s) {M m : Nat} (hM : M < s.length) (hm : m ≤ M) (h1 : rt s M = M) (h2 : rt s m = m) : UF (s.set M m) ∧ ∀ x, rt (s.set M m) x = if rt s x = M then m else rt s x := by
  have hp : ∀ x, par (s.set M m) x = if x = M then m else par s x := fun x => par_set s M _ hM
  have hr := h.rt_par M; rw [h1] at hr
  have hr2 := h.rt_par m; rw [h2] at hr2
  constructor
  · intro x; rw [hp]; split
    · omega
    · exact h x
  · intro x
    induction x using Nat.strongRecOn with
    | ind x ih =>
      have e := hp x
      by_cases hx : x = M
      · subst hx
        rw [if_pos rfl] at e
        rw [h1, if_pos rfl]
        by_cases hl : m < x
        · rw [rt_up (by rw [e]; exact hl), e, ih _ hl, h2, if_neg (by omega)]
        · have : m = x := by omega
          rw [rt_top (by rw [e]; exact hl), this]
      · rw [if_neg hx] at e
        by_cases hl : par s x < x
        · rw [rt_up (by rw [e]; exact hl), e, ih _ hl, h.rt_step]
        · rw [rt_top (by rw [e]; exact hl), rt_top hl, if_neg hx]

/-- One more edge. -/
theorem Lab.join {f : Nat → Nat} (h : Lab n L f) {a b : Nat} (ha : a < n) (hb : b < n) (hL : ∀ u v, Adj L' u v ↔ Adj L u v ∨ (u = a ∧ v = b) ∨ (u = b ∧ v = a)) :
    Lab n L' fun x => if f x = max (f a) (f b) then min (f a) (f b) else f x := by
  have hs : ∀ {u v}, Con L u v → Con L' u v := fun k => k.sub fun u v a => .adj ((hL u v).2 (.inl a))
  have hab : Con L' a b := .adj ((hL a b).2 (.inr (.inl ⟨rfl, rfl⟩)))
  have ca := hs (h.con a ha)
  have cb := hs (h.con b hb)
  have hc : Con L' (f a) (f b) := (ca.symm.trans hab).trans cb
  have hMm : Con L' (max (f a) (f b)) (min (f a) (f b)) := by
    rcases Nat.le_total (f a) (f b) with l | l
    · rw [Nat.max_eq_right l, Nat.min_eq_left l]; exact hc.symm
    · rw [Nat.max_eq_left l, Nat.min_eq_right l]; exact hc
  refine ⟨fun x hx => ?_, fun x hx => ?_, fun x y hxy => ?_⟩
  · split
    · rename_i e
      have := hs (h.con x hx)
      rw [e] at this
      exact this.trans hMm
    · exact hs (h.con x hx)
  · have := h.le x hx
    split
    · omega
    · exact this
  · have key : ∀ u v, u = a → v = b → (if f u = max (f a) (f b) then min (f a) (f b) else f u) = if f v = max (f a) (f b) then min (f a) (f b) else f v := by
      rintro u v rfl rfl
      split <;> split <;> omega
    rcases (hL x y).1 hxy with k | ⟨rfl, rfl⟩ | ⟨rfl, rfl⟩
    · rw [h.adj x y k]
    · exact key _ _ rfl rfl
    · exact (key _ _ rfl rfl).symm
theorem Lab.start (n : Nat) : Lab n [] fun x => x := ⟨fun x _ => .refl _ _, fun x _ => Nat.le_refl _, fun x y h => by rcases h with h | h <;> simp at h⟩
theorem adj_snoc {a b : Nat} (u v : Nat) : Adj (L ++ [(a, b)]) u v ↔ Adj L u v ∨ (u = a ∧ v = b) ∨ (u = b ∧ v = a) := by
  unfold Adj; simp; grind
theorem adj_take {E : List (Nat × Nat)} {k a b : Nat} (h : E[k]? = some (a, b)) (u v : Nat) : Adj (E.take (k + 1)) u v ↔ Adj (E.take k) u v ∨ (u = a ∧ v = b) ∨ (u = b ∧ v = a) := by
  rw [List.take_add_one, h]; exact adj_snoc u v
theorem Ok.take {E : List (Nat × Nat)} (h : Ok n E) (k : Nat) : Ok n (E.take k) := fun e he => h e (List.mem_of_mem_take he)
theorem Ok.get {E : List (Nat × Nat)} (h : Ok n E) {k a b : Nat} (e : E[k]? = some (a, b)) : a < n ∧ b < n ∧ a ≠ b := h (a, b) (List.mem_of_getElem? e)
/-- Whether an edge is in the forest. -/
noncomputable def inF (E : List (Nat × Nat)) (k : Nat) : Bool := match E[k]? with
  | some (a, b) => lab (E.take k) a != lab (E.take k) b
  | none => false
theorem inF_eq {E : List (Nat × Nat)} {k a b : Nat} (h : E[k]? = some (a, b)) : inF E k = (lab (E.take k) a != lab (E.take k) b) := by unfold inF; rw [h]
/-- The labels after one more edge. -/
theorem lab_step {E : List (Nat × Nat)} (ho : Ok n E) {k a b : Nat} (h : E[k]? = some (a, b)) (hx : x < n) :
    lab (E.take (k + 1)) x = if lab (E.take k) x = max (lab (E.take k) a) (lab (E.take k) b) then min (lab (E.take k) a) (lab (E.take k) b) else lab (E.take k) x := by
  have h0 : Lab n (E.take k) (lab (E.take k)) := ⟨fun x _ => lab_con _ x, fun x _ => lab_self _ x, fun x y a => lab_eq.2 (.adj a)⟩
  obtain ⟨ha, hb, _⟩ := ho.get h
  exact ((h0.join ha hb (adj_take h)).is (ho.take _) hx).symm
/-- The first nodes of the parts. -/
def roots (n : Nat) (f : Nat → Nat) : List Nat := (List.range n).filter fun x => f x == x
theorem filter_drop (l : List Nat) (hn : l.Nodup) (p q : Nat → Bool) (M : Nat) (hM : M ∈ l) (hp : p M = true) (hq : ∀ x ∈ l, q x = (p x && x != M)) : (l.filter q).length + 1 = (l.filter p).length := by
  induction l with
  | nil => cases hM
  | cons a l ih =>
    simp only [List.nodup_cons] at hn
    have hqa := hq a (by simp)
    by_cases e : a = M
    · subst e
      have : l.filter q = l.filter p := List.filter_congr fun x hx => by
        rw [hq x (by simp [hx])]
        have : x ≠ a := fun e => hn.1 (e ▸ hx)
        simp [this]
      simp [hp, hqa, this]
    · have hM' : M ∈ l := by simpa [Ne.symm e] using hM
      have := ih hn.2 hM' fun x hx => hq x (by simp [hx])
      have e2 : q a = p a := by rw [hqa]; simp [e]
      simp only [List.filter_cons, e2]
      split
      · simp; omega
      · exact this
theorem roots_step {E : List (Nat × Nat)} (ho : Ok n E) {k a b : Nat} (h : E[k]? = some (a, b)) : (roots n (lab (E.take (k + 1)))).length + (if inF E k then 1 else 0) = (roots n (lab (E.take k))).length := by
  obtain ⟨ha, hb, _⟩ := ho.get h
  rw [inF_eq h]
  have hs : ∀ x, x < n → _ := fun x hx => lab_step ho h (x := x) hx
  have la := lab_self (E.take k) a
  have lb := lab_self (E.take k) b
  have ra := lab_lab (E.take k) a
  have rb := lab_lab (E.take k) b
  by_cases e : lab (E.take k) a = lab (E.take k) b
  · simp only [e, bne_self_eq_false, Bool.false_eq_true, if_false, Nat.add_zero]
    unfold roots
    congr 1
    refine List.filter_congr fun x hx => ?_
    rw [hs x (by simpa using hx), e, Nat.max_self, Nat.min_self]
    split
    · rename_i e; rw [e]
    · rfl
  · have hb' : (lab (E.take k) a != lab (E.take k) b) = true := by simpa using e
    rw [if_pos hb']
    refine filter_drop _ List.nodup_range _ _ (max (lab (E.take k) a) (lab (E.take k) b)) (by simp; omega) ?_ fun x hx => ?_
    · simp only [beq_iff_eq]
      rcases Nat.le_total (lab (E.take k) a) (lab (E.take k) b) with l | l
      · rw [Nat.max_eq_right l]; exact rb
      · rw [Nat.max_eq_left l]; exact ra
    · have hxn : x < n := by simpa using hx
      rw [hs x hxn]
      have hle := lab_self (E.take k) x
      rw [Bool.eq_iff_iff]
      simp only [beq_iff_eq, Bool.and_eq_true, bne_iff_ne]
      split
      · rename_i e2
        constructor
        · intro e3; omega
        · intro e3; omega
      · omega
/-- The edges of the forest and the parts are together as many as the nodes. -/
theorem forest_roots {E : List (Nat × Nat)} (ho : Ok n E) : ∀ k, k ≤ E.length → ((List.range k).filter (inF E)).length + (roots n (lab (E.take k))).length = n
  | 0, _ => by
    have : roots n (lab (E.take 0)) = List.range n := by
      unfold roots
      refine List.filter_eq_self.2 fun x _ => ?_
      have : x = lab [] x := (Lab.start (x + 1)).is (fun e he => by cases he) (Nat.lt_succ_self x)
      simp [← this]
    rw [this]; simp
  | k + 1, hk => by
    have ih := forest_roots ho k (by omega)
    obtain ⟨⟨a, b⟩, he⟩ : ∃ e, E[k]? = some e := ⟨_, List.getElem?_eq_getElem (by omega)⟩
    have := roots_step ho he
    rw [List.range_succ, List.filter_append, List.length_append]
    cases hi : inF E k <;> simp [hi] at this ⊢ <;> omega
end Go.Proofs.Ytalhegbjlfkipaa.Gr
end
section
namespace Go.Proofs.Ytalhegbjlfkipaa.Gr
variable {L L' : List (Nat × Nat)} {x y z n : Nat}
/-! Distances. -/
/-- How far a node is from b, over the edges of the list; -1 where no walk leads. -/
noncomputable def dist (L : List (Nat × Nat)) (b x : Nat) : Int := open Classical in if h : ∃ d, Wk L x d b then ((least h).choose : Int) else -1
theorem dist_wk {b : Nat} (h : 0 ≤ dist L b x) : Wk L x (dist L b x).toNat b := by
  unfold dist at h ⊢
  split
  · rename_i k
    rw [Int.toNat_natCast]
    exact (least k).choose_spec.1
  · rename_i k; rw [dif_neg k] at h; omega
theorem dist_le {b d : Nat} (h : Wk L x d b) : 0 ≤ dist L b x ∧ dist L b x ≤ d := by
  unfold dist
  rw [dif_pos ⟨d, h⟩]
  exact ⟨by omega, by have := (least (p := fun d => Wk L x d b) ⟨d, h⟩).choose_spec.2 d h; omega⟩
theorem dist_con {b : Nat} : 0 ≤ dist L b x ↔ Con L x b := ⟨fun h => ⟨_, dist_wk h⟩, fun ⟨_, h⟩ => (dist_le h).1⟩
theorem dist_neg (L : List (Nat × Nat)) (b x : Nat) : -1 ≤ dist L b x := by
  unfold dist; split <;> omega
theorem dist_congr (h : ∀ u v, Adj L u v ↔ Adj L' u v) (b x : Nat) : dist L b x = dist L' b x := by
  have key : ∀ {L L' : List (Nat × Nat)}, (∀ u v, Adj L u v → Adj L' u v) → 0 ≤ dist L b x → 0 ≤ dist L' b x ∧ dist L' b x ≤ dist L b x := fun hs k => by
    have := dist_le ((dist_wk k).mono hs); omega
  have k1 := key (L := L) (L' := L') fun u v => (h u v).1
  have k2 := key (L := L') (L' := L) fun u v => (h u v).2
  have := dist_neg L b x
  have := dist_neg L' b x
  omega
/-- What tells the distances. -/
structure IsFar (n : Nat) (L : List (Nat × Nat)) (b : Nat) (f : Nat → Int) : Prop where
  lo : ∀ x, x < n → -1 ≤ f x
  at_ : f b = 0
  zero : ∀ x, x < n → f x = 0 → x = b
  up : ∀ x y, Adj L x y → 0 ≤ f x → 0 ≤ f y ∧ f y ≤ f x + 1
  down : ∀ x, x < n → 0 < f x → ∃ y, Adj L x y ∧ f y = f x - 1
theorem IsFar.wk {b : Nat} {f : Nat → Int} (h : IsFar n L b f) (ho : Ok n L) : ∀ (d x : Nat), x < n → f x = d → Wk L x d b
  | 0, x, hx, e => by rw [h.zero x hx (by simpa using e)]; exact .nil b
  | d + 1, x, hx, e => by
    obtain ⟨y, ha, hy⟩ := h.down x hx (by omega)
    exact .cons ha (h.wk ho d y (ho.adj ha).2.1 (by omega))
theorem IsFar.le {b : Nat} {f : Nat → Int} (h : IsFar n L b f) {d : Nat} (w : Wk L x d b) : 0 ≤ f x ∧ f x ≤ d := by
  have key : ∀ u v c, Wk L u c v → v = b → 0 ≤ f u ∧ f u ≤ c := fun u v c w => by
    induction w with
    | nil u => intro e; rw [e, h.at_]; omega
    | cons a _ ih =>
      intro e
      have := ih e
      have := h.up _ _ a.symm this.1
      omega
  exact key _ _ _ w rfl
theorem IsFar.is {b : Nat} {f : Nat → Int} (h : IsFar n L b f) (ho : Ok n L) (hx : x < n) : f x = dist L b x := by
  rcases Int.lt_or_le (f x) 0 with hf | hf
  · have : dist L b x < 0 := Int.not_le.1 fun hd => by have := (h.le (dist_wk hd)).1; omega
    have := dist_neg L b x
    have := h.lo x hx
    omega
  · have hw := h.wk ho (f x).toNat x hx (by omega)
    have h1 := dist_le hw
    have h2 := h.le (dist_wk h1.1)
    omega
theorem isFar (L : List (Nat × Nat)) (n b : Nat) : IsFar n L b (dist L b) where
  lo := fun x _ => dist_neg L b x
  at_ := by have := dist_le (.nil (L := L) b); omega
  zero := fun x _ e => by
    have := dist_wk (L := L) (b := b) (x := x) (by omega)
    rw [e] at this
    cases this; rfl
  up := fun x y a h => by have := dist_le (.cons a.symm (dist_wk h)); omega
  down := fun x _ h => by
    have hw := dist_wk (L := L) (b := b) (x := x) (by omega)
    generalize hd : (dist L b x).toNat = d at hw
    cases hw with
    | nil => omega
    | cons a w =>
      rename_i y d
      have h1 := dist_le w
      have h2 := dist_le (.cons a (dist_wk h1.1))
      exact ⟨y, a, by omega⟩

/-! Breadth first. f: distances found so far; q: the nodes that wait. -/
structure BF (n : Nat) (L : List (Nat × Nat)) (b : Nat) (f : Nat → Int) (q : List Nat) : Prop where
  lo : ∀ x, x < n → -1 ≤ f x
  at_ : f b = 0
  zero : ∀ x, x < n → f x = 0 → x = b
  down : ∀ x, x < n → 0 < f x → ∃ y, Adj L x y ∧ f y = f x - 1
  qs : ∀ x ∈ q, x < n ∧ 0 ≤ f x
  done : ∀ x y, Adj L x y → 0 ≤ f x → x ∉ q → 0 ≤ f y ∧ f y ≤ f x + 1
  sorted : q.Pairwise fun u v => f u ≤ f v
  near : ∀ u ∈ q, ∀ x, x < n → f x ≤ f u + 1
theorem BF.start (n : Nat) (L : List (Nat × Nat)) {b : Nat} (hb : b < n) : BF n L b (fun x => if x = b then 0 else -1) [b] where
  lo := fun x _ => by split <;> omega
  at_ := by simp
  zero := fun x _ h => by split at h; assumption; omega
  down := fun x _ h => by split at h <;> omega
  qs := fun x hx => by simp at hx; subst hx; simp [hb]
  done := fun x y _ h hq => by split at h; simp_all; omega
  sorted := by simp
  near := fun u hu x _ => by simp at hu; subst hu; split <;> simp
theorem BF.end_ {b : Nat} {f : Nat → Int} (h : BF n L b f []) : IsFar n L b f where
  lo := h.lo
  at_ := h.at_
  zero := h.zero
  down := h.down
  up := fun x y a k => h.done x y a k (by simp)
/-- While the first node of the queue is looked at: its neighbours in S have been. -/
structure BFi (n : Nat) (L : List (Nat × Nat)) (b : Nat) (f : Nat → Int) (u : Nat) (q : List Nat) (S : Nat → Prop) : Prop where
  lo : ∀ x, x < n → -1 ≤ f x
  at_ : f b = 0
  zero : ∀ x, x < n → f x = 0 → x = b
  down : ∀ x, x < n → 0 < f x → ∃ y, Adj L x y ∧ f y = f x - 1
  qs : ∀ x ∈ u :: q, x < n ∧ 0 ≤ f x
  done : ∀ x y, Adj L x y → 0 ≤ f x → x ∉ u :: q → 0 ≤ f y ∧ f y ≤ f x + 1
  seen : ∀ y, S y → 0 ≤ f y
  sorted : (u :: q).Pairwise fun u v => f u ≤ f v
  near : ∀ x, x < n → f x ≤ f u + 1
theorem BF.head {b u : Nat} {f : Nat → Int} {q : List Nat} (h : BF n L b f (u :: q)) : BFi n L b f u q fun _ => False where
  lo := h.lo
  at_ := h.at_
  zero := h.zero
  down := h.down
  qs := h.qs
  done := h.done
  seen := fun _ h => h.elim
  sorted := h.sorted
  near := h.near u (by simp)
theorem BFi.end_ {b u : Nat} {f : Nat → Int} {q : List Nat} {S : Nat → Prop} (h : BFi n L b f u q S) (ho : Ok n L) (hS : ∀ y, Adj L u y → S y) : BF n L b f q where
  lo := h.lo
  at_ := h.at_
  zero := h.zero
  down := h.down
  qs := fun x hx => h.qs x (by simp [hx])
  done := fun x y a k hq => by
    by_cases e : x = u
    · subst e
      exact ⟨h.seen y (hS y a), h.near y (ho.adj a).2.1⟩
    · exact h.done x y a k (by simp [e, hq])
  sorted := (List.pairwise_cons.1 h.sorted).2
  near := fun v hv x hx => by
    have := (List.pairwise_cons.1 h.sorted).1 v hv
    have := h.near x hx
    omega
theorem BFi.seen1 {b u k : Nat} {f : Nat → Int} {q : List Nat} {S : Nat → Prop} (h : BFi n L b f u q S) (hk : 0 ≤ f k) : BFi n L b f u q fun y => S y ∨ y = k :=
  { h with seen := fun y hy => hy.elim (h.seen y) fun e => e ▸ hk }
theorem BFi.new {b u k : Nat} {f : Nat → Int} {q : List Nat} {S : Nat → Prop} (h : BFi n L b f u q S) (ho : Ok n L) (ha : Adj L u k) (hk : f k < 0) : BFi n L b (fun x => if x = k then f u + 1 else f x) u (q ++ [k]) fun y => S y ∨ y = k := by
  have hu := h.qs u (by simp)
  have hkn := (ho.adj ha).2.1
  have huk := (ho.adj ha).2.2
  have hq : ∀ x ∈ u :: q, x ≠ k := fun x hx e => by have := (h.qs x hx).2; rw [e] at this; omega
  have hne : ∀ x, 0 ≤ f x → x ≠ k := fun x hx e => by rw [e] at hx; omega
  refine ⟨fun x hx => ?_, ?_, fun x hx e => ?_, fun x hx e => ?_, fun x hx => ?_, fun x y a e hxq => ?_, fun y hy => ?_, ?_, fun x hx => ?_⟩
  · have := h.lo x hx; split <;> omega
  · have := h.at_; split
    · rename_i e; rw [← e] at hk; omega
    · exact this
  · split at e
    · omega
    · exact h.zero x hx e
  · split at e
    · rename_i e2; subst e2
      exact ⟨u, ha.symm, by rw [if_neg huk, if_pos rfl]; omega⟩
    · rename_i e2
      obtain ⟨y, hy, hf⟩ := h.down x hx e
      exact ⟨y, hy, by rw [if_neg (hne y (by omega)), if_neg e2]; exact hf⟩
  · rw [← List.cons_append, List.mem_append] at hx
    rcases hx with hx | hx
    · have := h.qs x hx; rw [if_neg (hq x hx)]; exact this
    · simp at hx; subst hx; rw [if_pos rfl]; exact ⟨hkn, by omega⟩
  · rw [← List.cons_append, List.mem_append, not_or] at hxq
    have hxk : x ≠ k := fun e => hxq.2 (by simp [e])
    rw [if_neg hxk] at e ⊢
    have := h.done x y a e hxq.1
    rw [if_neg (hne y this.1)]
    exact this
  · split
    · omega
    · rename_i e; exact h.seen y (hy.resolve_right e)
  · rw [← List.cons_append, List.pairwise_append]
    refine ⟨h.sorted.imp_of_mem fun {x y} hx hy hxy => ?_, by simp, fun x hx y hy => ?_⟩
    · rw [if_neg (hq x hx), if_neg (hq y hy)]; exact hxy
    · simp at hy; subst hy
      rw [if_pos rfl, if_neg (hq x hx)]
      exact h.near x (h.qs x hx).1
  · rw [if_neg huk]
    split
    · omega
    · exact h.near x hx

/-! Far: all edges are looked at, again and again. Round d: the nodes at distance d make those at d + 1. -/
structure FR (n : Nat) (L : List (Nat × Nat)) (b : Nat) (f : Nat → Int) (d : Nat) (S : Nat → Nat → Prop) : Prop where
  lo : ∀ x, x < n → -1 ≤ f x
  at_ : f b = 0
  zero : ∀ x, x < n → f x = 0 → x = b
  down : ∀ x, x < n → 0 < f x → ∃ y, Adj L x y ∧ f y = f x - 1
  top : ∀ x, x < n → f x ≤ d + 1
  done : ∀ x y, Adj L x y → 0 ≤ f x → f x < d → 0 ≤ f y ∧ f y ≤ f x + 1
  seen : ∀ x y, S x y → f x = d → 0 ≤ f y
theorem FR.start (n : Nat) (L : List (Nat × Nat)) {b : Nat} : FR n L b (fun x => if x = b then 0 else -1) 0 fun _ _ => False where
  lo := fun x _ => by split <;> omega
  at_ := by simp
  zero := fun x _ h => by split at h; assumption; omega
  down := fun x _ h => by split at h <;> omega
  top := fun x _ => by split <;> omega
  done := fun x y _ h k => by split at h <;> simp_all <;> omega
  seen := fun _ _ h => h.elim
theorem FR.next {b d : Nat} {f : Nat → Int} {S : Nat → Nat → Prop} (h : FR n L b f d S) (ho : Ok n L) (hS : ∀ x y, Adj L x y → S x y) : FR n L b f (d + 1) fun _ _ => False where
  lo := h.lo
  at_ := h.at_
  zero := h.zero
  down := h.down
  top := fun x hx => by have := h.top x hx; omega
  done := fun x y a k l => by
    rcases Int.lt_or_le (f x) d with e | e
    · exact h.done x y a k e
    · have e : f x = d := by omega
      exact ⟨h.seen x y (hS x y a) e, by have := h.top y (ho.adj a).2.1; omega⟩
  seen := fun _ _ h => h.elim
theorem FR.same {b d : Nat} {f : Nat → Int} {S : Nat → Nat → Prop} (h : FR n L b f d S) {u v : Nat} (hk : ¬ (f u = d ∧ f v < 0)) : FR n L b f d fun x y => S x y ∨ (x = u ∧ y = v) :=
  { h with seen := fun x y hy e => hy.elim (fun k => h.seen x y k e) fun ⟨e1, e2⟩ => by subst e1; subst e2; omega }
theorem FR.new {b d : Nat} {f : Nat → Int} {S : Nat → Nat → Prop} (h : FR n L b f d S) (ho : Ok n L) {u v : Nat} (ha : Adj L u v) (hu : f u = d) (hv : f v < 0) : FR n L b (fun x => if x = v then (d : Int) + 1 else f x) d fun x y => S x y ∨ (x = u ∧ y = v) := by
  have huv := (ho.adj ha).2.2
  have hne : ∀ x, 0 ≤ f x → x ≠ v := fun x hx e => by rw [e] at hx; omega
  refine ⟨fun x hx => ?_, ?_, fun x hx e => ?_, fun x hx e => ?_, fun x hx => ?_, fun x y a e l => ?_, fun x y hy e => ?_⟩
  · have := h.lo x hx; split <;> omega
  · have := h.at_; rw [if_neg (hne b (by omega))]; exact this
  · split at e
    · omega
    · exact h.zero x hx e
  · split at e
    · rename_i e2; subst e2
      exact ⟨u, ha.symm, by rw [if_neg huv, if_pos rfl]; omega⟩
    · rename_i e2
      obtain ⟨y, hy, hf⟩ := h.down x hx e
      exact ⟨y, hy, by rw [if_neg (hne y (by omega)), if_neg e2]; exact hf⟩
  · have := h.top x hx; split <;> omega
  · split at e
    · rename_i e2; rw [if_pos e2] at l; omega
    · rename_i e2
      rw [if_neg e2] at l ⊢
      have := h.done x y a e l
      rw [if_neg (hne y this.1)]
      exact this
  · split
    · omega
    · rename_i e2
      rcases hy with hy | ⟨rfl, rfl⟩
      · refine h.seen x y hy ?_
        split at e
        · omega
        · exact e
      · exact absurd rfl e2
/-- There is no room for a chain of n + 1 nodes. -/
theorem chain {b : Nat} {f : Nat → Int} (ho : Ok n L) (hdown : ∀ x, x < n → 0 < f x → ∃ y, Adj L x y ∧ f y = f x - 1) : ∀ (d x : Nat), x < n → f x = d → ∃ l : List Nat, l.length = d + 1 ∧ l.Nodup ∧ (∀ y ∈ l, y < n ∧ f y ≤ d)
  | 0, x, hx, e => ⟨[x], rfl, by simp, fun y hy => by simp at hy; subst hy; exact ⟨hx, by omega⟩⟩
  | d + 1, x, hx, e => by
    obtain ⟨y, ha, hy⟩ := hdown x hx (by omega)
    obtain ⟨l, h1, h2, h3⟩ := chain (b := b) ho hdown d y (ho.adj ha).2.1 (by omega)
    refine ⟨x :: l, by simp [h1], ?_, fun z hz => ?_⟩
    · rw [List.nodup_cons]
      exact ⟨fun hm => by have := (h3 x hm).2; omega, h2⟩
    · rcases List.mem_cons.1 hz with rfl | hz
      · exact ⟨hx, by omega⟩
      · exact ⟨(h3 z hz).1, by have := (h3 z hz).2; omega⟩
theorem nodup_len : ∀ (n : Nat) (l : List Nat), l.Nodup → (∀ y ∈ l, y < n) → l.length ≤ n
  | 0, [], _, _ => Nat.le_refl _
  | 0, a :: l, _, h => by have := h a (by simp); omega
  | n + 1, l, hd, h => by
    have h1 := nodup_len n (l.filter (· ≠ n)) (hd.filter _) fun y hy => by
      simp at hy
      have := h y hy.1
      omega
    have h2 : l.length ≤ (l.filter (· ≠ n)).length + 1 := by
      clear h1 h
      induction l with
      | nil => simp
      | cons a l ih =>
        rw [List.nodup_cons] at hd
        by_cases e : a = n
        · subst e
          have : l.filter (· ≠ a) = l := List.filter_eq_self.2 fun y hy => by
            have : y ≠ a := fun e => hd.1 (e ▸ hy)
            simpa using this
          rw [List.filter_cons_of_neg (by simp), this]; simp
        · rw [List.filter_cons_of_pos (by simpa using e)]
          have := ih hd.2
          simp only [List.length_cons]; omega
    omega
theorem FR.end_ {b : Nat} {f : Nat → Int} {S : Nat → Nat → Prop} (h : FR n L b f n S) (ho : Ok n L) : IsFar n L b f where
  lo := h.lo
  at_ := h.at_
  zero := h.zero
  down := h.down
  up := fun x y a k => by
    refine h.done x y a k (Int.not_le.1 fun e => ?_)
    have hx := (ho.adj a).1
    obtain ⟨l, h1, h2, h3⟩ := chain (b := b) ho h.down (f x).toNat x hx (by omega)
    have := nodup_len n l h2 fun y hy => (h3 y hy).1
    omega
end Go.Proofs.Ytalhegbjlfkipaa.Gr
end
section
namespace Go.Proofs.Ytalhegbjlfkipaa.Gr
variable {L L' : List (Nat × Nat)} {E : List (Nat × Nat)} {x y z n : Nat}
/-- The other end of an edge. -/
def oth (E : List (Nat × Nat)) (k a : Nat) : Option Nat := match E[k]? with
  | some (x, y) => if x = a then some y else if y = a then some x else none
  | none => none
/-- The edges with these numbers. -/
def sub (E : List (Nat × Nat)) (l : List Nat) : List (Nat × Nat) := l.filterMap (E[·]?)
theorem oth_some {k a b : Nat} (h : oth E k a = some b) : E[k]? = some (a, b) ∨ E[k]? = some (b, a) := by
  unfold oth at h
  split at h
  · rename_i x y e
    split at h
    · rename_i e2; cases h; subst e2; exact .inl e
    · split at h
      · rename_i e2; cases h; subst e2; exact .inr e
      · cases h
  · cases h
theorem oth_of (ho : Ok n E) {k a b : Nat} (h : E[k]? = some (a, b)) : oth E k a = some b ∧ oth E k b = some a := by
  have := (ho.get h).2.2
  unfold oth
  rw [h]
  simp [this]
theorem oth_symm (ho : Ok n E) {k a b : Nat} (h : oth E k a = some b) : oth E k b = some a := by
  rcases oth_some h with h | h
  · exact (oth_of ho h).2
  · exact (oth_of ho h).1
theorem oth_lt (ho : Ok n E) {k a b : Nat} (h : oth E k a = some b) : a < n ∧ b < n ∧ a ≠ b := by
  rcases oth_some h with h | h
  · exact ho.get h
  · have := ho.get h; exact ⟨this.2.1, this.1, this.2.2.symm⟩
theorem adj_sub (ho : Ok n E) {l : List Nat} (u v : Nat) : Adj (sub E l) u v ↔ ∃ k ∈ l, oth E k u = some v := by
  unfold Adj sub
  simp only [List.mem_filterMap]
  constructor
  · rintro (⟨k, hk, e⟩ | ⟨k, hk, e⟩)
    · exact ⟨k, hk, (oth_of ho e).1⟩
    · exact ⟨k, hk, (oth_of ho e).2⟩
  · rintro ⟨k, hk, e⟩
    rcases oth_some e with e | e
    · exact .inl ⟨k, hk, e⟩
    · exact .inr ⟨k, hk, e⟩
theorem adj_all (ho : Ok n E) (u v : Nat) : Adj E u v ↔ ∃ k, oth E k u = some v := by
  constructor
  · rintro (h | h)
    · obtain ⟨k, e⟩ := List.getElem?_of_mem h; exact ⟨k, (oth_of ho e).1⟩
    · obtain ⟨k, e⟩ := List.getElem?_of_mem h; exact ⟨k, (oth_of ho e).2⟩
  · rintro ⟨k, e⟩
    rcases oth_some e with e | e
    · exact .inl (List.mem_of_getElem? e)
    · exact .inr (List.mem_of_getElem? e)
theorem mem_erase {i : Nat} {p : Nat × Nat} : p ∈ E.eraseIdx i ↔ ∃ k, k ≠ i ∧ E[k]? = some p := by
  rw [List.mem_eraseIdx_iff_getElem?]
theorem adj_erase (ho : Ok n E) (i u v : Nat) : Adj (E.eraseIdx i) u v ↔ ∃ k, k ≠ i ∧ oth E k u = some v := by
  unfold Adj
  simp only [mem_erase]
  constructor
  · rintro (⟨k, hk, e⟩ | ⟨k, hk, e⟩)
    · exact ⟨k, hk, (oth_of ho e).1⟩
    · exact ⟨k, hk, (oth_of ho e).2⟩
  · rintro ⟨k, hk, e⟩
    rcases oth_some e with e | e
    · exact .inl ⟨k, hk, e⟩
    · exact .inr ⟨k, hk, e⟩
theorem Ok.sub (ho : Ok n E) (l : List Nat) : Ok n (Gr.sub E l) := fun e he => by
  obtain ⟨k, _, hk⟩ := List.mem_filterMap.1 he
  exact ho e (List.mem_of_getElem? hk)
theorem Ok.erase (ho : Ok n E) (i : Nat) : Ok n (E.eraseIdx i) := fun e he => ho e (List.mem_of_mem_eraseIdx he)
theorem sub_len {l : List Nat} (h : ∀ k ∈ l, k < E.length) : (sub E l).length = l.length := by
  induction l with
  | nil => rfl
  | cons a l ih =>
    have ha := h a (by simp)
    unfold sub at ih ⊢
    rw [List.filterMap_cons_some (List.getElem?_eq_getElem ha)]
    simp [ih fun k hk => h k (by simp [hk])]
/-- The edges of the forest. -/
noncomputable def forestP (E : List (Nat × Nat)) : List Nat := (List.range E.length).filter (inF E)
theorem mem_forest {k : Nat} : k ∈ forestP E ↔ k < E.length ∧ inF E k = true := by unfold forestP; simp
theorem inF_lt {k : Nat} (h : inF E k = true) : k < E.length := by
  unfold inF at h
  split at h
  · rename_i e; exact (List.getElem?_eq_some_iff.1 e).1
  · cases h
theorem con_take (ho : Ok n E) : ∀ k, k ≤ E.length → ∀ x y, Con (E.take k) x y → Con (sub E (forestP E)) x y
  | 0, _, x, y, h => h.sub fun u v a => by rcases a with a | a <;> simp at a
  | k + 1, hk, x, y, h => h.sub fun u v a => by
    obtain ⟨⟨p, q⟩, he⟩ : ∃ e, E[k]? = some e := ⟨_, List.getElem?_eq_getElem (by omega)⟩
    have ih := con_take ho k (by omega)
    have key : Con (sub E (forestP E)) p q := by
      by_cases hf : inF E k = true
      · exact .adj ((adj_sub ho p q).2 ⟨k, mem_forest.2 ⟨by omega, hf⟩, (oth_of ho he).1⟩)
      · rw [inF_eq he] at hf
        exact ih p q (lab_eq.1 (by simpa using hf))
    rcases (adj_take he u v).1 a with a | ⟨rfl, rfl⟩ | ⟨rfl, rfl⟩
    · exact ih u v (.adj a)
    · exact key
    · exact key.symm
theorem con_forest (ho : Ok n E) (x y : Nat) : Con (sub E (forestP E)) x y ↔ Con E x y := by
  constructor
  · exact fun h => h.sub fun u v a => .adj <| by
      obtain ⟨k, _, e⟩ := (adj_sub ho u v).1 a
      exact (adj_all ho u v).2 ⟨k, e⟩
  · intro h
    refine con_take ho E.length (Nat.le_refl _) x y ?_
    rwa [List.take_length]
theorem forest_count (ho : Ok n E) : (forestP E).length + (roots n (lab E)).length = n := by
  have := forest_roots ho E.length (Nat.le_refl _)
  rwa [List.take_length] at this
theorem roots_congr {f g : Nat → Nat} (h : ∀ x, f x = g x) : roots n f = roots n g := by
  have : f = g := funext h
  rw [this]
/-- The parts. -/
noncomputable def partsP (n : Nat) (E : List (Nat × Nat)) : List (List Nat) := (roots n (lab E)).map fun r => (List.range n).filter fun y => lab E y == r
theorem partsP_len : (partsP n E).length = (roots n (lab E)).length := by unfold partsP; simp
theorem partsP_congr (h : ∀ u v, Con L u v ↔ Con L' u v) : partsP n L = partsP n L' := by
  have : lab L = lab L' := funext fun x => lab_congr h x
  unfold partsP; rw [this]
theorem parts_mem {a b : Nat} (ha : a < n) (hb : b < n) : ((partsP n E).any fun l => l.contains a && l.contains b) = decide (0 ≤ dist E b a) := by
  rw [Bool.eq_iff_iff]
  simp only [decide_eq_true_eq, dist_con, List.any_eq_true, Bool.and_eq_true, List.contains_iff_mem]
  unfold partsP
  constructor
  · rintro ⟨l, hl, h1, h2⟩
    obtain ⟨r, _, rfl⟩ := List.mem_map.1 hl
    simp at h1 h2
    exact lab_eq.1 (h1.2.trans h2.2.symm)
  · intro h
    refine ⟨_, List.mem_map.2 ⟨lab E a, ?_, rfl⟩, ?_, ?_⟩
    · unfold roots; simp; exact ⟨Nat.lt_of_le_of_lt (lab_self E a) ha, lab_lab E a⟩
    · simp [ha]
    · simp [hb]; exact (lab_eq.2 h).symm
/-- The edges that are not in the forest, and the edges, and the parts. -/
theorem forest_none (ho : Ok n E) : (forestP (sub E (forestP E))).length = (forestP E).length := by
  have h1 := forest_count ho
  have h2 := forest_count (ho.sub (forestP E))
  rw [roots_congr (lab_congr (con_forest ho))] at h2
  omega
theorem filter_not (p : Nat → Bool) (l : List Nat) : (l.filter p).length + (l.filter fun x => !p x).length = l.length := by
  induction l with
  | nil => rfl
  | cons a l ih => cases h : p a <;> simp [h] <;> omega
theorem forest_rest (E : List (Nat × Nat)) : (forestP E).length + ((List.range E.length).filter fun k => !inF E k).length = E.length := by
  have := filter_not (inF E) (List.range E.length)
  simpa [forestP] using this
theorem few_roots (ho : Ok n L) : n ≤ L.length + (roots n (lab L)).length := by
  have := forest_count ho
  have : (forestP L).length ≤ L.length := by
    unfold forestP
    exact Nat.le_trans (List.length_filter_le _ _) (by simp)
  omega
/-- Without a bridge there is a part more. -/
theorem roots_erase (ho : Ok n E) {i a b : Nat} (h : E[i]? = some (a, b)) : (roots n (lab (E.eraseIdx i))).length = (roots n (lab E)).length + if lab (E.eraseIdx i) a != lab (E.eraseIdx i) b then 1 else 0 := by
  have hi := (List.getElem?_eq_some_iff.1 h).1
  have hlen : (E.eraseIdx i).length = E.length - 1 := by rw [List.length_eraseIdx, if_pos hi]
  have he : (E.eraseIdx i ++ [(a, b)])[(E.eraseIdx i).length]? = some (a, b) := by simp
  have ho' : Ok n (E.eraseIdx i ++ [(a, b)]) := fun e k => by
    rcases List.mem_append.1 k with k | k
    · exact ho.erase i e k
    · simp at k; subst k; exact ho _ (List.mem_of_getElem? h)
  have hs := roots_step ho' he
  have hc : ∀ u v, Con ((E.eraseIdx i ++ [(a, b)]).take ((E.eraseIdx i).length + 1)) u v ↔ Con E u v := fun u v => by
    rw [List.take_of_length_le (by simp)]
    constructor
    · refine fun k => k.mono fun e he => ?_
      rcases List.mem_append.1 he with he | he
      · exact List.mem_of_mem_eraseIdx he
      · simp at he; subst he; exact List.mem_of_getElem? h
    · refine fun k => k.mono fun e he => ?_
      obtain ⟨j, hj⟩ := List.getElem?_of_mem he
      by_cases e2 : j = i
      · subst e2; rw [h] at hj; cases hj; simp
      · exact List.mem_append_left _ (mem_erase.2 ⟨j, e2, hj⟩)
  have e1 : lab ((E.eraseIdx i ++ [(a, b)]).take ((E.eraseIdx i).length + 1)) = lab E := funext (lab_congr hc)
  rw [e1, List.take_left, inF_eq he, List.take_left] at hs
  exact hs.symm
theorem con_erase (ho : Ok n E) {i a b : Nat} (h : E[i]? = some (a, b)) (hc : Con (E.eraseIdx i) a b) (u v : Nat) : Con (E.eraseIdx i) u v ↔ Con E u v := by
  constructor
  · exact fun k => k.mono fun e he => List.mem_of_mem_eraseIdx he
  · refine fun k => k.sub fun u v a' => ?_
    obtain ⟨j, hj⟩ := (adj_all ho u v).1 a'
    by_cases e : j = i
    · subst e
      rcases oth_some hj with hj | hj
      · rw [h] at hj; cases hj; exact hc
      · rw [h] at hj; cases hj; exact hc.symm
    · exact .adj ((adj_erase ho i u v).2 ⟨j, e, hj⟩)

/-! Walks by the numbers of their edges. -/
inductive IW (E : List (Nat × Nat)) (S : Nat → Prop) : Nat → List Nat → Nat → Prop
  | nil (x : Nat) : IW E S x [] x
  | cons {x y z k : Nat} {l : List Nat} : S k → oth E k x = some y → IW E S y l z → IW E S x (k :: l) z
variable {S : Nat → Prop}
theorem IW.con {l : List Nat} (h : IW E S x l y) {L : List (Nat × Nat)} (hs : ∀ k, k ∈ l → ∀ u v, oth E k u = some v → Con L u v) : Con L x y := by
  induction h with
  | nil => exact .refl _ _
  | cons _ e _ ih => exact (hs _ (by simp) _ _ e).trans (ih fun k hk => hs k (by simp [hk]))
theorem IW.all {l : List Nat} (h : IW E S x l y) : ∀ k ∈ l, S k := by
  induction h with
  | nil => simp
  | cons s _ _ ih => intro k hk; rcases List.mem_cons.1 hk with rfl | hk; exact s; exact ih k hk
theorem IW.split {i : Nat} {l : List Nat} (h : IW E S x l y) (hi : i ∈ l) : ∃ l1 l2 u v, l = l1 ++ i :: l2 ∧ IW E S x l1 u ∧ oth E i u = some v ∧ IW E S v l2 y := by
  induction h with
  | nil => cases hi
  | cons s e w ih =>
    rename_i x y z k l
    by_cases ek : i = k
    · subst ek; exact ⟨[], l, x, y, rfl, .nil _, e, w⟩
    · obtain ⟨l1, l2, u, v, e1, w1, e2, w2⟩ := ih (by simpa [ek] using hi)
      exact ⟨k :: l1, l2, u, v, by rw [e1]; rfl, .cons s e w1, e2, w2⟩
/-- Whether an edge leads on. -/
def wayIs (E : List (Nat × Nat)) (f : Nat → Int) (d a k : Nat) : Bool := match oth E k a with
  | some y => f y == d
  | none => false
/-- The first one of the shortest walks over some edges: by the distances f. -/
def wayP (f : Nat → Int) (E : List (Nat × Nat)) (l : List Nat) : Nat → Nat → List Nat
  | 0, _ => []
  | d + 1, a => match l.find? (wayIs E f d a) with
    | some k => match oth E k a with
      | some y => k :: wayP f E l d y
      | none => []
    | none => []
theorem way_step (ho : Ok n E) {l : List Nat} {b d a : Nat} (ha : dist (sub E l) b a = d + 1) : ∃ k y, l.find? (wayIs E (dist (sub E l) b) d a) = some k ∧ k ∈ l ∧ oth E k a = some y ∧ dist (sub E l) b y = d := by
  obtain ⟨y, hy, hd⟩ := (isFar (sub E l) (a + 1) b).down a (Nat.lt_succ_self a) (by omega)
  obtain ⟨k, hk, he⟩ := (adj_sub ho a y).1 hy
  obtain ⟨k', hk'⟩ : ∃ k', l.find? (wayIs E (dist (sub E l) b) d a) = some k' := by
    rw [← Option.isSome_iff_exists, List.find?_isSome]
    exact ⟨k, hk, by unfold wayIs; rw [he]; simp; omega⟩
  have h1 := List.find?_some hk'
  have h2 := List.mem_of_find?_eq_some hk'
  unfold wayIs at h1
  cases ho' : oth E k' a with
  | none => rw [ho'] at h1; cases h1
  | some y' => rw [ho'] at h1; exact ⟨k', y', hk', h2, ho', by simpa using h1⟩
theorem way_walk (ho : Ok n E) {l : List Nat} {b : Nat} : ∀ (d a : Nat), dist (sub E l) b a = d → a < n → IW E (· ∈ l) a (wayP (dist (sub E l) b) E l d a) b ∧ (wayP (dist (sub E l) b) E l d a).length = d
  | 0, a, h, _ => by
    have := (isFar (sub E l) (a + 1) b).zero a (Nat.lt_succ_self a) h
    subst this
    exact ⟨.nil a, rfl⟩
  | d + 1, a, h, _ => by
    obtain ⟨k, y, h1, h2, h3, h4⟩ := way_step ho h
    obtain ⟨w1, w2⟩ := way_walk ho d y h4 (oth_lt ho h3).2.1
    unfold wayP
    rw [h1]
    simp only [h3]
    exact ⟨.cons h2 h3 w1, by simp [w2]⟩
/-- Its edges are at different distances. -/
theorem way_at (ho : Ok n E) {l : List Nat} {b : Nat} : ∀ (d a : Nat), dist (sub E l) b a = d → ∀ k ∈ wayP (dist (sub E l) b) E l d a, ∃ u v c, oth E k u = some v ∧ dist (sub E l) b u = c + 1 ∧ dist (sub E l) b v = c ∧ c < d
  | 0, a, h, k, hk => by simp [wayP] at hk
  | d + 1, a, h, k, hk => by
    obtain ⟨k', y, h1, h2, h3, h4⟩ := way_step ho h
    unfold wayP at hk
    rw [h1] at hk
    simp only [h3] at hk
    rcases List.mem_cons.1 hk with rfl | hk
    · exact ⟨a, y, d, h3, h, h4, by omega⟩
    · obtain ⟨u, v, c, e1, e2, e3, e4⟩ := way_at ho d y h4 k hk
      exact ⟨u, v, c, e1, e2, e3, by omega⟩
theorem way_nodup (ho : Ok n E) {l : List Nat} {b : Nat} : ∀ (d a : Nat), dist (sub E l) b a = d → (wayP (dist (sub E l) b) E l d a).Nodup
  | 0, a, h => by simp [wayP]
  | d + 1, a, h => by
    obtain ⟨k', y, h1, h2, h3, h4⟩ := way_step ho h
    unfold wayP
    rw [h1]
    simp only [h3]
    rw [List.nodup_cons]
    refine ⟨fun hk => ?_, way_nodup ho d y h4⟩
    obtain ⟨u, v, c, e1, e2, e3, e4⟩ := way_at ho d y h4 k' hk
    rcases oth_some e1 with e | e <;> rcases oth_some h3 with e' | e' <;> rw [e] at e' <;> cases e' <;> omega
end Go.Proofs.Ytalhegbjlfkipaa.Gr
end
