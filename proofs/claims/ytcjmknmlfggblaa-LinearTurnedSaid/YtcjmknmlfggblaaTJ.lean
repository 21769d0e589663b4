import Derived.Test.YtcjmknmlfggblaaTY
import Derived.IntWalk
import Derived.Deep.Slices
import Derived.Carry
import Derived.OpenShut
set_option linter.all false
/- The walk over abstract states: regions in their text's order, branches, loops, calls. -/
section
namespace Go.Proofs.Ytcjmknmlfggblaa.T
open Go Go.RowKit

/-- An abstract state: the slots, the heap, how many stamps were given. -/
structure St where
  tm : TM
  H : Hp
  t : Nat

def Sim (w0 : World) (F : Mem) (G : Ghost) (n : Nat) (st : St) (a : Act) (w : World) : Prop := Rel w0 F G st.H st.t w ∧ TR F G n st.tm a.tmps ∧ a.defers = []

/-- What has become of the ghosts. -/
structure Onw (w0 : World) (F : Mem) (G : Ghost) (F' : Mem) (G' : Ghost) : Prop where
  mem : F.le F'
  old : ∀ b o, b < w0.heap.size → F' b o = F b o
  gh : Ghost.le G.length G G'
  len : G.length ≤ G'.length
theorem Onw.refl (w0 : World) (F : Mem) (G : Ghost) : Onw w0 F G F G := ⟨.refl _, fun _ _ _ => rfl, .refl _ _, Nat.le_refl _⟩
theorem Onw.trans {w0 : World} {F F' F'' : Mem} {G G' G'' : Ghost} (h : Onw w0 F G F' G') (h' : Onw w0 F' G' F'' G'') : Onw w0 F G F'' G'' :=
  ⟨h.mem.trans h'.mem, fun b o hb => (h'.old b o hb).trans (h.old b o hb), h.gh.trans (h'.gh.less h.len), Nat.le_trans h.len h'.len⟩

def Lift (w0 : World) (F : Mem) (G : Ghost) (n : Nat) (Q : Exit → St → Prop) (e : Exit) (a : Act) (w : World) : Prop :=
  ∃ F' G' st', Onw w0 F G F' G' ∧ Sim w0 F' G' n st' a w ∧ Q e st'

theorem Lift.onw {w0 : World} {F F' : Mem} {G G' : Ghost} {n : Nat} {Q : Exit → St → Prop} {e : Exit} {a : Act} {w : World} (h : Onw w0 F G F' G') (l : Lift w0 F' G' n Q e a w) : Lift w0 F G n Q e a w := by
  obtain ⟨F2, G2, st, h1, h2, h3⟩ := l
  exact ⟨F2, G2, st, h.trans h1, h2, h3⟩

def AW (P : Program) (n : Nat) (c : Code) (Q : Exit → St → Prop) (st : St) : Prop :=
  ∀ w0 F G a w, Sim w0 F G n st a w → c.wp P (Lift w0 F G n Q) a w

section
variable {P : Program} {n : Nat} {Q : Exit → St → Prop} {st : St}

theorem AW.mono {c : Code} {Q' : Exit → St → Prop} (h : AW P n c Q st) (hq : ∀ e s, Q e s → Q' e s) : AW P n c Q' st := fun w0 F G a w hs =>
  wp_mono (h w0 F G a w hs) fun _e _a' _w' ⟨F', G', s, h1, h2, h3⟩ => ⟨F', G', s, h1, h2, hq _ _ h3⟩

theorem AW_skip (h : Q .normal st) : AW P n .skip Q st := fun _w0 F G _ _ hs => wp_skip ⟨F, G, st, .refl _ _ _, hs, h⟩
theorem AW_ret (h : Q .ret st) : AW P n .ret Q st := fun _w0 F G _ _ hs => wp_ret ⟨F, G, st, .refl _ _ _, hs, h⟩
theorem AW_exit {id : Nat} (h : Q (.exit id) st) : AW P n (.exit id) Q st := fun _w0 F G _ _ hs => wp_exit ⟨F, G, st, .refl _ _ _, hs, h⟩

def thenQ (K : St → Prop) (Q : Exit → St → Prop) : Exit → St → Prop
  | .normal, s => K s
  | e, s => Q e s
theorem AW_seq {x y : Code} (h : AW P n x (thenQ (AW P n y Q) Q) st) : AW P n (.seq x y) Q st := fun w0 F G a w hs => by
  refine wp_seq (wp_mono (h w0 F G a w hs) fun e a' w' l => ?_)
  obtain ⟨F', G', s, h1, h2, h3⟩ := l
  cases e with
  | normal => exact wp_mono (h3 w0 F' G' a' w' h2) fun e a w l => l.onw h1
  | _ => exact ⟨F', G', s, h1, h2, h3⟩

def blockQ (id : Nat) (Q : Exit → St → Prop) : Exit → St → Prop
  | .exit id', s => if id' = id then Q .normal s else Q (.exit id') s
  | e, s => Q e s
theorem AW_block {id : Nat} {c : Code} (h : AW P n c (blockQ id Q) st) : AW P n (.block id c) Q st := fun w0 F G a w hs => by
  refine wp_block (wp_mono (h w0 F G a w hs) fun e a' w' l => ?_)
  obtain ⟨F', G', s, h1, h2, h3⟩ := l
  cases e with
  | exit id' =>
    simp only [blockQ] at h3
    simp only [Exit.inBlock]
    split
    · rename_i e; rw [if_pos e] at h3; exact ⟨F', G', s, h1, h2, h3⟩
    · rename_i e; rw [if_neg e] at h3; exact ⟨F', G', s, h1, h2, h3⟩
  | _ => exact ⟨F', G', s, h1, h2, h3⟩

theorem AW_cond {c : Operand} {x y : Code} {b : Bool} {tab : Tab} (hc : evalD tab st.tm 0 c = .v (.bool b)) (h : AW P n (if b = true then x else y) Q st) : AW P n (.cond c x y) Q st := fun w0 F G a w hs => by
  have hv := hs.2.1.eval tab 0 c
  rw [hc] at hv
  simp only [Rep] at hv
  refine wp_cond hv ?_
  exact h w0 F G a w hs

theorem exists_least {p : Nat → Prop} (h : ∃ m, p m) : ∃ m, p m ∧ ∀ k, p k → m ≤ k := by
  obtain ⟨m, hm⟩ := h
  induction m using Nat.strongRecOn with
  | _ m ih =>
    by_cases hx : ∃ k, k < m ∧ p k
    · obtain ⟨k, hk, hp⟩ := hx; exact ih k hk hp
    · refine ⟨m, hm, fun k hp => ?_⟩
      rcases Nat.lt_or_ge k m with hlt | hge
      · exact absurd ⟨k, hlt, hp⟩ hx
      · exact hge

/-- A loop: an invariant with a number that every round lowers. -/
theorem wp_loop_n {c : Code} {Q : Exit → Act → World → Prop} {a : Act} {w : World} (I : Nat → Act → World → Prop) {m : Nat} (h₀ : I m a w)
    (round : ∀ m a w, I m a w → c.wp P (Exit.then (fun a' w' => ∃ k, k < m ∧ I k a' w') Q) a w) : (Code.loop c).wp P Q a w := by
  classical
  have hI : ∃ m, I m a w := ⟨m, h₀⟩
  let μ : Act → World → Nat := fun a w => if h : ∃ m, I m a w then Classical.choose (exists_least h) else 0
  refine wp_loop (fun a w => ∃ m, I m a w) μ hI fun a w hm => ?_
  have hμ : I (μ a w) a w := by simp only [μ, dif_pos hm]; exact (Classical.choose_spec (exists_least hm)).1
  refine wp_mono (round _ _ _ hμ) fun e a' w' q => ?_
  cases e with
  | normal =>
    obtain ⟨k, hk, hIk⟩ := q
    refine ⟨⟨k, hIk⟩, Nat.lt_of_le_of_lt ?_ hk⟩
    have hx : ∃ m, I m a' w' := ⟨k, hIk⟩
    simp only [μ, dif_pos hx]
    exact (Classical.choose_spec (exists_least hx)).2 k hIk
  | _ => exact q

theorem AW_loop {c : Code} (I : Nat → St → Prop) {m : Nat} (h₀ : I m st) (round : ∀ m s, I m s → AW P n c (thenQ (fun s' => ∃ k, k < m ∧ I k s') Q) s) : AW P n (.loop c) Q st := fun w0 F G a w hs => by
  refine wp_loop_n (fun m a w => ∃ F' G' s, Onw w0 F G F' G' ∧ Sim w0 F' G' n s a w ∧ I m s) ⟨F, G, st, .refl _ _ _, hs, h₀⟩ fun m a w ⟨F', G', s, h1, h2, h3⟩ => ?_
  refine wp_mono (round m s h3 w0 F' G' a w h2) fun e a' w' l => ?_
  obtain ⟨F2, G2, s2, k1, k2, k3⟩ := l.onw h1
  cases e with
  | normal =>
    obtain ⟨k, hk, hI⟩ := k3
    exact ⟨k, hk, F2, G2, s2, k1, k2, hI⟩
  | _ => exact ⟨F2, G2, s2, k1, k2, k3⟩
end

/-- A function that can be called. -/
def Callable (P : Program) (f : FuncId) : Prop := ∃ fn, P.funcs[f]? = some fn ∧ fn.body.isSome = true ∧ (fn.name == "runtime.NumGoroutine") = false

/-- A function runs: it is entered, or the model answers for it. -/
def Runs (P : Program) (f : FuncId) (us : Array Value) (w : World) (R : Ending → World → Prop) : Prop :=
  (Callable P f ∧ Calls P f us w R) ∨ ∃ u, (callFunc f us).run P w = .ok (.value u) w ∧ R (.returned u) w
theorem Runs.mono {P : Program} {f : FuncId} {us : Array Value} {w : World} {R R' : Ending → World → Prop} (h : Runs P f us w R) (hr : ∀ e w', R e w' → R' e w') : Runs P f us w R' := by
  rcases h with ⟨h1, h2⟩ | ⟨u, h1, h2⟩
  · exact .inl ⟨h1, h2.mono hr⟩
  · exact .inr ⟨u, h1, hr _ _ h2⟩

/-- A call. -/
def ACall (P : Program) (f : FuncId) (ds : List D) (H : Hp) (t : Nat) (K : D → Hp → Nat → Prop) : Prop :=
  ∀ w0 F G w us, Rel w0 F G H t w → RepL F G ds us → Runs P f us.toArray w fun e w' => ∃ F' G' u d H' t', e = .returned u ∧ Onw w0 F G F' G' ∧ Rel w0 F' G' H' t' w' ∧ Rep F' G' d u ∧ K d H' t'

theorem ACall.mono {P : Program} {f : FuncId} {ds : List D} {H : Hp} {t : Nat} {K K' : D → Hp → Nat → Prop} (h : ACall P f ds H t K) (hk : ∀ d H t, K d H t → K' d H t) : ACall P f ds H t K' :=
  fun w0 F G w us hr hL => (h w0 F G w us hr hL).mono fun _e _w' ⟨F', G', u, d, H', t', h1, h2, h3, h4, h5⟩ => ⟨F', G', u, d, H', t', h1, h2, h3, h4, hk _ _ _ h5⟩

def argsD (tab : Tab) (tm : TM) : List Operand → List TypeId → List D
  | x :: xs, t :: ts => evalD tab tm t x :: argsD tab tm xs ts
  | x :: xs, [] => evalD tab tm 0 x :: argsD tab tm xs []
  | [], _ => []
theorem TR.args {F : Mem} {G : Ghost} {n : Nat} {tm : TM} {a : Act} (h : TR F G n tm a.tmps) (tab : Tab) : ∀ (xs : List Operand) (ts : List TypeId), RepL F G (argsD tab tm xs ts) (xs.map a.eval)
  | [], ts => by cases ts <;> simp [argsD, RepL]
  | x :: xs, [] => by simp only [argsD, List.map_cons, RepL]; exact ⟨_, _, rfl, h.eval tab 0 x, h.args tab xs []⟩
  | x :: xs, t :: ts => by simp only [argsD, List.map_cons, RepL]; exact ⟨_, _, rfl, h.eval tab t x, h.args tab xs ts⟩

def St.put (st : St) (dst : Option Tmp) (d : D) : St := match dst with
  | some k => { st with tm := putTM st.tm k d }
  | none => st

def wantedA (all : List Oper) (tm : TM) (o : Oper) : Option Bool :=
  match o.guard with
  | none => some true
  | some (j, want) => match (all[j]?).bind (·.dst) with
    | some k => match look tm k with
      | .v (.bool b) => some (b == want)
      | .v (.tuple _) => some false
      | _ => none
    | none => none

/-- It is asked whether a slice is nil. -/
def nilT (tab : Tab) (st : St) : Op → Bool
  | .binOp op T x y _ => isNilC y && (match op with | .eql => true | .neq => true | _ => false) && (match tab T with | some i => (match i.kind with | .slice _ => true | _ => false) | none => false) && isSlice st.H (evalD tab st.tm T x)
  | _ => false

/-- The operations of a region one after the other. -/
def awOps (P : Program) (tab : Tab) (n : Nat) (all : List Oper) (K : St → Prop) : List Oper → St → Prop
  | [], st => K st
  | o :: rest, st => (o.dst.getD 0 < n ∨ o.dst = none) ∧ match wantedA all st.tm o with
    | none => False
    | some false => awOps P tab n all K rest (st.put o.dst (.v undef))
    | some true => match o.op with
      | .call { callee := .value f, args := args, argTypes := ts } => match evalD tab st.tm 0 f with
        | .fn g caps => ACall P g (argsD tab st.tm args.toList ts.toList ++ caps) st.H st.t fun d H' t' => awOps P tab n all K rest (St.put ⟨st.tm, H', t'⟩ o.dst d)
        | _ => False
      | _ => (∃ nid, (nid = st.H.length ∨ st.H[nid]? = some none) ∧ ∃ d wr, opA tab (evalD tab st.tm) nid (st.t + 1) st.H o = some (d, wr) ∧ awOps P tab n all K rest (St.put ⟨st.tm, wr.on st.H, wr.tick st.t⟩ o.dst d)) ∨
        (nilT tab st o.op = true ∧ ∀ b : Bool, awOps P tab n all K rest (st.put o.dst (.v (.bool b))))

theorem Sim.put {w0 : World} {F : Mem} {G : Ghost} {n : Nat} {st : St} {a : Act} {w : World} (h : Sim w0 F G n st a w) {dst : Option Tmp} {d : D} {u : Value} (hk : dst.getD 0 < n ∨ dst = none) (hd : Rep F G d u) : Sim w0 F G n (st.put dst d) (a.put dst u) w := by
  cases dst with
  | none => exact h
  | some k =>
    refine ⟨h.1, ?_, h.2.2⟩
    exact h.2.1.put (by simpa using hk) hd

theorem wanted_of {F : Mem} {G : Ghost} {n : Nat} {tm : TM} {a : Act} (h : TR F G n tm a.tmps) {all : List Oper} {o : Oper} {b : Bool} (hw : wantedA all tm o = some b) : Region.wanted o (yielded all.toArray a.tmps) = b := by
  unfold wantedA at hw
  unfold Region.wanted
  split at hw
  · rename_i hg; cases hw; rw [hg]
  · rename_i j want hg
    rw [hg]
    split at hw
    · rename_i k hk
      split at hw
      · rename_i q hq
        cases hw
        have hv := h.look k
        rw [hq] at hv
        simp only [Rep] at hv
        have hy : yielded all.toArray a.tmps j = some q := by
          unfold yielded
          rw [List.getElem?_toArray, hk]
          rw [Array.getD_eq_getD_getElem?] at hv
          cases ht : a.tmps[k]? with
          | none => rw [ht] at hv; simp [undef] at hv
          | some y => rw [ht] at hv; simp at hv; subst hv; simp [ht]
        simp only [hy]
        cases q <;> cases want <;> rfl
      · rename_i q hq
        cases hw
        have hv := h.look k
        rw [hq] at hv
        simp only [Rep] at hv
        have hy : yielded all.toArray a.tmps j = none := by
          unfold yielded
          rw [List.getElem?_toArray, hk]
          rw [Array.getD_eq_getD_getElem?] at hv
          cases ht : a.tmps[k]? with
          | none => simp [ht]
          | some y => rw [ht] at hv; simp at hv; subst hv; simp [ht]
        simp only [hy]
        cases want <;> rfl
      · cases hw
    · cases hw

theorem callFunc_run {P : Program} {f : FuncId} (h : Callable P f) (args : Array Value) (w : World) : (callFunc f args).run P w = .ok (.enter f args) w := by
  obtain ⟨fn, h1, h2, h3⟩ := h
  have h4 : ¬ fn.name = "runtime.NumGoroutine" := by simpa using h3
  have h5 : fn.body ≠ none := by intro e; rw [e] at h2; cases h2
  simp [callFunc, h1, h4, h5]

/-- One operation. -/
theorem op_sound {P : Program} {tab : Tab} (hT : Tab.Ok P tab) {w0 : World} {F : Mem} {G : Ghost} {n : Nat} {st : St} {a : Act} {w : World} (hs : Sim w0 F G n st a w) {o : Oper} {d : D} {wr : Wr} (hk : o.dst.getD 0 < n ∨ o.dst = none)
    {nid : Nat} (hnid : nid = st.H.length ∨ st.H[nid]? = some none) (h : opA tab (evalD tab st.tm) nid (st.t + 1) st.H o = some (d, wr)) {next : Act → World → Prop} {Q : Exit → Act → World → Prop}
    (hn : ∀ F' G' a' w', Onw w0 F G F' G' → Sim w0 F' G' n (St.put ⟨st.tm, wr.on st.H, wr.tick st.t⟩ o.dst d) a' w' → next a' w') : o.wp P a w next Q := by
  obtain ⟨R, hTR, hd⟩ := hs
  have hnle : nid ≤ st.H.length := by
    rcases hnid with h | h
    · omega
    · exact Nat.le_of_lt (List.getElem?_eq_some_iff.1 h).1
  have go : ∀ G1, Ghost.le G.length G G1 → G.length ≤ G1.length → Rel w0 F G1 st.H st.t w → (∃ p, G1[nid]? = some p) → o.wp P a w next Q := fun G1 hG1 hl1 R1 ⟨p, hp⟩ => by
    have hTR1 := hTR.mono (.refl F) hG1
    obtain ⟨nx, u, F', G', w', hr, hnx, e1, e2, ⟨e3, _⟩, e4, e5⟩ : Sound w0 F G1 st.H (wr.tick st.t) ((execOp a.eval o).run P w) d wr := by
      have R2 : Rel w0 F G1 st.H (wr.tick st.t) w := R1.more (by cases wr <;> simp [Wr.tick])
      refine opA_sound hT R2 (fun t x => hTR1.eval tab t x) rfl hnle hp (fun b bl e => ?_) h
      subst e
      exact ⟨Nat.le_refl _, fun p hp => Nat.lt_succ_of_le (R1.top _ _ hp)⟩
    have hlen : G1.length ≤ G'.length := by
      rcases Nat.lt_or_ge G'.length G1.length with hlt | hge
      · obtain ⟨q, hq⟩ : ∃ q, G1[G'.length]? = some q := ⟨_, List.getElem?_eq_getElem hlt⟩
        obtain ⟨r, hr', _⟩ := e3 G'.length q hlt hq
        rw [List.getElem?_eq_none (Nat.le_refl _)] at hr'; cases hr'
      · exact hge
    have onw : Onw w0 F G F' G' := ⟨e1, e2, hG1.trans (e3.less hl1), Nat.le_trans hl1 hlen⟩
    have sim : Sim w0 F' G' n (St.put ⟨st.tm, wr.on st.H, wr.tick st.t⟩ o.dst d) (a.put o.dst u) w' := Sim.put (st := ⟨st.tm, wr.on st.H, wr.tick st.t⟩) ⟨e4, hTR1.mono e1 e3, hd⟩ hk e5
    unfold Oper.wp
    rw [hr]
    rcases hnx with rfl | ⟨rfl, rfl⟩
    · exact hn _ _ _ _ onw sim
    · exact hn _ _ _ _ onw sim
  rcases Nat.lt_or_ge nid G.length with hlt | hge
  · exact go G (.refl _ _) (Nat.le_refl _) R ⟨_, List.getElem?_eq_getElem hlt⟩
  · have heq : nid = G.length := by have := R.len; omega
    refine go (G ++ [⟨none, 0⟩]) (fun i p hi hp => ⟨p, by rw [List.getElem?_append_left hi]; exact hp, .refl p⟩) (by simp) R.extend ⟨⟨none, 0⟩, ?_⟩
    rw [heq]; simp

theorem call_sound {P : Program} {tab : Tab} {w0 : World} {F : Mem} {G : Ghost} {n : Nat} {st : St} {a : Act} {w : World} (hs : Sim w0 F G n st a w) {o : Oper} {f : Operand} {args : Array Operand} {ts : Array TypeId} (ho : o.op = .call { callee := .value f, args := args, argTypes := ts }) (hk : o.dst.getD 0 < n ∨ o.dst = none)
    {g : FuncId} {caps : List D} (hf : evalD tab st.tm 0 f = .fn g caps) {K : D → Hp → Nat → Prop} (h : ACall P g (argsD tab st.tm args.toList ts.toList ++ caps) st.H st.t K) {next : Act → World → Prop} {Q : Exit → Act → World → Prop}
    (hn : ∀ F' G' d H' t' a' w', Onw w0 F G F' G' → K d H' t' → Sim w0 F' G' n (St.put ⟨st.tm, H', t'⟩ o.dst d) a' w' → next a' w') : o.wp P a w next Q := by
  obtain ⟨R, hTR, hd⟩ := hs
  have hv := hTR.eval tab 0 f
  rw [hf] at hv
  simp only [Rep] at hv
  obtain ⟨vs, hfv, hL⟩ := hv
  have hargs := (hTR.args tab args.toList ts.toList).append hL
  have hrun : (execOp a.eval o).run P w = (callFunc g (args.toList.map a.eval ++ vs).toArray).run P w := by
    unfold execOp
    rw [ho]
    have e : (args.map a.eval ++ vs.toArray) = (args.toList.map a.eval ++ vs).toArray := by apply Array.ext'; simp
    simp only [resolve, hfv, Deferred.ofValue, invoke, Sem.run_bind, Sem.run_pure, Result.andThen_ok, Array.empty_append, e]
  rcases h w0 F G w _ R hargs with ⟨hc, h⟩ | ⟨u0, hu0, hx⟩
  · unfold Oper.wp
    rw [hrun, callFunc_run hc, Oper.upon_enter]
    refine h.mono fun e w' hx => ?_
    obtain ⟨F', G', u, d, H', t', rfl, onw, R', hd', hK⟩ := hx
    exact hn F' G' d H' t' _ w' onw hK (Sim.put (st := ⟨st.tm, H', t'⟩) ⟨R', hTR.mono onw.mem onw.gh, hd⟩ hk hd')
  · obtain ⟨F', G', u, d, H', t', e, onw, R', hd', hK⟩ := hx
    cases e
    unfold Oper.wp
    rw [hrun, hu0]
    exact hn F' G' d H' t' _ w onw hK (Sim.put (st := ⟨st.tm, H', t'⟩) ⟨R', hTR.mono onw.mem onw.gh, hd⟩ hk hd')

theorem nil_sound {P : Program} {tab : Tab} (hT : Tab.Ok P tab) {w0 : World} {F : Mem} {G : Ghost} {n : Nat} {st : St} {a : Act} {w : World} (hs : Sim w0 F G n st a w) {o : Oper} (hk : o.dst.getD 0 < n ∨ o.dst = none)
    (h : nilT tab st o.op = true) {next : Act → World → Prop} {Q : Exit → Act → World → Prop} (hn : ∀ b : Bool, ∀ a', Sim w0 F G n (st.put o.dst (.v (.bool b))) a' w → next a' w) : o.wp P a w next Q := by
  obtain ⟨dst, op, ty, pos, aft, g⟩ := o
  cases op <;> simp only [nilT] at h <;> try (cases h; done)
  rename_i op T x y yt
  simp only [Bool.and_eq_true] at h
  obtain ⟨⟨⟨h1, h2⟩, h3⟩, h4⟩ := h
  have hy : a.eval y = .slice none 0 0 := by
    unfold isNilC at h1
    split at h1
    · rfl
    · cases h1
  have ho : op = .eql ∨ op = .neq := by cases op <;> simp_all
  cases ht : tab T with
  | none => rw [ht] at h3; cases h3
  | some i =>
    rw [ht] at h3
    simp only at h3
    split at h3
    · rename_i el hk'
      obtain ⟨b, hb⟩ := nil_any (ox := x) (oy := y) hs.1 (hT _ _ ht) hk' ho (hs.2.1.eval tab T x) h4
      have hr : (execOp a.eval ⟨dst, .binOp op T x y yt, ty, pos, aft, g⟩).run P w = .ok (.value (.bool b)) w := by
        simp only [execOp, hy]
        rw [Sem.run_bind, hb]
        rfl
      unfold Oper.wp
      rw [hr]
      exact hn b _ (hs.put hk (Rep_v _ _ _))
    · cases h3

theorem awOps_sound {P : Program} {tab : Tab} (hT : Tab.Ok P tab) {n : Nat} {all : List Oper} {K : St → Prop} {Q : Exit → St → Prop} (hK : ∀ s, K s → Q .normal s) : ∀ (l : List Oper) (st : St), awOps P tab n all K l st →
    ∀ w0 F0 G0 F G a w, Onw w0 F0 G0 F G → Sim w0 F G n st a w → wpList P all.toArray (Lift w0 F0 G0 n Q) l a w
  | [], st, h, w0, F0, G0, F, G, a, w, ho, hs => ⟨F, G, st, ho, hs, hK _ h⟩
  | o :: rest, st, h, w0, F0, G0, F, G, a, w, ho, hs => by
    have ih := fun st' h' => awOps_sound hT (n := n) (all := all) (K := K) (Q := Q) hK rest st' h' w0 F0 G0
    unfold awOps at h
    obtain ⟨hk, h⟩ := h
    unfold wpList
    split at h
    · exact h.elim
    · rename_i hw
      rw [wanted_of hs.2.1 hw]
      simp only [Bool.false_eq_true, if_false]
      exact ih _ h F G _ _ ho (hs.put hk (Rep_v _ _ _))
    · rename_i hw
      rw [wanted_of hs.2.1 hw, if_pos rfl]
      left
      split at h
      · rename_i f args ts ho'
        split at h
        · rename_i g caps hf
          exact call_sound hs ho' hk hf h fun F' G' d H' t' a' w' onw hK' hs' => ih _ hK' F' G' a' w' (ho.trans onw) hs'
        · exact h.elim
      · rcases h with ⟨nid, hnid, d, wr, hop, h⟩ | h
        · exact op_sound hT hs hk hnid hop fun F' G' a' w' onw hs' => ih _ h F' G' a' w' (ho.trans onw) hs'
        · exact nil_sound hT hs hk h.1 fun b a' hs' => ih _ (h.2 b) F G a' w ho hs'

/-- A region whose order is that of the text. -/
theorem AW_region {P : Program} {tab : Tab} (hT : Tab.Ok P tab) {n id : Nat} {ops : List Oper} {Q : Exit → St → Prop} {st : St} (h : awOps P tab n ops (Q .normal) ops st) : AW P n (.region id ops.toArray false) Q st := fun w0 F G a w hs =>
  wp_region_lit (awOps_sound hT (fun _ h => h) ops st h w0 F G F G a w (.refl _ _ _) hs)
end Go.Proofs.Ytcjmknmlfggblaa.T
end

/- Functions: how a call is entered and left; what may be forgotten. -/
section
namespace Go.Proofs.Ytcjmknmlfggblaa.T
open Go Go.RowKit

/- What lies in a block that nobody will write to any more. -/
mutual
def rs (R : D → D) (H : Hp) : D → D
  | .v x => .v x
  | .sl sz cs _ => .sl sz (rsL R H cs) false
  | .rp cs o => .rp (rsL R H cs) o
  | .own sz b g lo n => match H[b]? with
    | some (some bl) => if bl.g = g ∧ lo + n * sz ≤ bl.cells.length then .sl sz (((bl.cells.drop lo).take (n * sz)).map R) false else .any
    | _ => .any
  | .ptr b g o => match H[b]? with
    | some (some bl) => if bl.g = g then .rp (bl.cells.map R) o else .any
    | _ => .any
  | .agg cs => .agg (rsL R H cs)
  | .tup cs => .tup (rsL R H cs)
  | .fn f cs => .fn f (rsL R H cs)
  | .any => .any
def rsL (R : D → D) (H : Hp) : List D → List D
  | [] => []
  | d :: ds => rs R H d :: rsL R H ds
end
def rsv (H : Hp) : Nat → D → D
  | 0, _ => .any
  | k + 1, d => rs (rsv H k) H d
theorem rsL_eq_map (R : D → D) (H : Hp) : ∀ ds, rsL R H ds = ds.map (rs R H)
  | [] => by simp [rsL]
  | d :: ds => by simp [rsL, rsL_eq_map R H ds]

/-- All that was made is laid down. -/
def allMem (F : Mem) (b0 : Nat) (w : World) : Mem := fun b o => if b < b0 then F b o else w.cell? ⟨b, o, none⟩

section
variable {P : Program} {w0 : World} {F : Mem} {G : Ghost} {H : Hp} {tk : Nat} {w : World}

theorem allMem_le (R : Rel w0 F G H tk w) : F.le (allMem F w0.heap.size w) := fun b o x e => by
  unfold allMem
  split
  · exact e
  · exact R.mem b o x e
theorem allMem_at (R : Rel w0 F G H tk w) : (allMem F w0.heap.size w).at_ w := fun b o x e => by
  unfold allMem at e
  split at e
  · exact R.mem b o x e
  · exact e

theorem RepL_map {F F' : Mem} {G G' : Ghost} {f : D → D} : ∀ {ds : List D} {us : List Value}, (∀ d u, d ∈ ds → Rep F G d u → Rep F' G' (f d) u) → RepL F G ds us → RepL F' G' (ds.map f) us
  | [], us, _, h => by simpa [RepL] using h
  | d :: ds, us, hf, h => by
    simp only [RepL] at h
    obtain ⟨u, us', rfl, h1, h2⟩ := h
    simp only [List.map_cons, RepL]
    exact ⟨u, us', rfl, hf d u (by simp) h1, RepL_map (fun d u hd => hf d u (List.mem_cons_of_mem _ hd)) h2⟩

mutual
theorem rs_rep (R : Rel w0 F G H tk w) {S : D → D} (hS : ∀ d u, Rep F G d u → Rep (allMem F w0.heap.size w) [] (S d) u) : ∀ (d : D) (u : Value), Rep F G d u → Rep (allMem F w0.heap.size w) [] (rs S H d) u
  | .v x, u, h => by simpa [Rep, rs] using h
  | .sl sz cs full, u, h => by
    simp only [Rep, rs] at h ⊢
    obtain ⟨a, len, cap, h1, h2, h3, h4, h5⟩ := h
    refine ⟨a, len, cap, h1, by rw [h2, rsL_eq_map]; simp, h3, (fun e => by cases e), ?_⟩
    rcases h5 with rfl | ⟨blk, off, vs, e, hc, hr⟩
    · left; simp [rsL]
    · exact .inr ⟨blk, off, vs, e, fun j x hx => allMem_le R _ _ _ (hc j x hx), rsL_rep R hS cs vs hr⟩
  | .rp cs o, u, h => by
    simp only [Rep, rs] at h ⊢
    obtain ⟨blk, off, vs, e, hc, hr⟩ := h
    exact ⟨blk, off, vs, e, fun j x hx => allMem_le R _ _ _ (hc j x hx), rsL_rep R hS cs vs hr⟩
  | .own sz b g lo n, u, h => by
    simp only [rs]
    split
    · rename_i bl hb
      split
      · rename_i hc
        obtain ⟨hg, hle⟩ := hc
        rcases R.own_some h hb hg with ⟨⟨a, rfl⟩, rfl, rfl, hnil, _⟩ | ⟨r, size, cap, vs, junk, hG, rfl, hcap, _, hsz, hr, hh, hlen, hL⟩
        · simp only [Rep]
          exact ⟨a, 0, 0, rfl, by simp, Nat.le_refl _, fun _ => rfl, .inl (by simp)⟩
        · simp only [Rep]
          have hvl : vs.length = bl.cells.length := hL.length
          refine ⟨_, n, cap, rfl, by simp; omega, hcap, (fun e => by cases e), .inr ⟨r, lo, (vs.drop lo).take (n * sz), rfl, fun j x hx => ?_, RepL_map (fun d u _ hd => hS d u hd) ((hL.drop lo).take _)⟩⟩
          rw [List.getElem?_take] at hx
          split at hx
          · rw [List.getElem?_drop] at hx
            have hlt : lo + j < vs.length := (List.getElem?_eq_some_iff.1 hx).1
            unfold allMem
            rw [if_neg (by omega), cell_of_row w r (lo + j) _ _ _ hh]
            simp only [List.getElem?_toArray]
            rw [List.getElem?_append_left hlt]
            exact hx
          · cases hx
      · simp only [Rep]
    · simp only [Rep]
  | .ptr b g o, u, h => by
    simp only [rs]
    split
    · rename_i bl hb
      split
      · rename_i hg
        simp only [Rep] at h ⊢
        obtain ⟨_, p, hp, _, h⟩ := h
        obtain ⟨p', hp', hl⟩ := R.own b bl hb
        rw [hp] at hp'; cases hp'
        obtain ⟨hg', hl⟩ := hl
        have h := h (by omega)
        cases hr : p.r with
        | none => rw [hr] at h; exact h.elim
        | some rs =>
          obtain ⟨r, s⟩ := rs
          rw [hr] at h hl
          subst h
          obtain ⟨hb0, _, vs, junk, hh, _, hL⟩ := hl
          refine ⟨r, 0, vs, by rw [Nat.zero_add], fun j x hx => ?_, RepL_map (fun d u _ hd => hS d u hd) hL⟩
          have hlt : j < vs.length := (List.getElem?_eq_some_iff.1 hx).1
          unfold allMem
          rw [if_neg (by omega), Nat.zero_add, cell_of_row w r j _ _ _ hh]
          simp only [List.getElem?_toArray]
          rw [List.getElem?_append_left hlt]
          exact hx
      · simp only [Rep]
    · simp only [Rep]
  | .agg cs, u, h => by
    simp only [Rep, rs] at h ⊢
    obtain ⟨vs, e, hr⟩ := h
    exact ⟨vs, e, rsL_rep R hS cs vs hr⟩
  | .tup cs, u, h => by
    simp only [Rep, rs] at h ⊢
    obtain ⟨vs, e, hr⟩ := h
    exact ⟨vs, e, rsL_rep R hS cs vs hr⟩
  | .fn f cs, u, h => by
    simp only [Rep, rs] at h ⊢
    obtain ⟨vs, e, hr⟩ := h
    exact ⟨vs, e, rsL_rep R hS cs vs hr⟩
  | .any, u, h => by simp only [Rep, rs]
theorem rsL_rep (R : Rel w0 F G H tk w) {S : D → D} (hS : ∀ d u, Rep F G d u → Rep (allMem F w0.heap.size w) [] (S d) u) : ∀ (ds : List D) (us : List Value), RepL F G ds us → RepL (allMem F w0.heap.size w) [] (rsL S H ds) us
  | [], us, h => by simpa [RepL, rsL] using h
  | d :: ds, us, h => by
    simp only [RepL, rsL] at h ⊢
    obtain ⟨u, us', e, h1, h2⟩ := h
    exact ⟨u, us', e, rs_rep R hS d u h1, rsL_rep R hS ds us' h2⟩
end
theorem rsv_rep (R : Rel w0 F G H tk w) : ∀ (k : Nat) (d : D) (u : Value), Rep F G d u → Rep (allMem F w0.heap.size w) [] (rsv H k d) u
  | 0, _, _, _ => by simp only [rsv, Rep]
  | k + 1, d, u, h => rs_rep R (fun d u h => rsv_rep R k d u h) d u h

end

/-- What a function hands back. -/
def resD (tab : Tab) (st : St) : List ResultVar → Option (List D)
  | [] => some []
  | .tmp k :: r => (resD tab st r).map fun ds => look st.tm k :: ds
  | .cell k t :: r => match tab t with
    | some i => match loadD i st.H (look st.tm k), resD tab st r with
      | some d, some ds => some (d :: ds)
      | _, _ => none
    | none => none
def oneD : List D → D
  | [d] => d
  | ds => .tup ds
def retQ (tab : Tab) (res : List ResultVar) (K : D → Hp → Nat → Prop) : Exit → St → Prop
  | .normal, st => match resD tab st res with
    | some ds => K (oneD ds) st.H st.t
    | none => False
  | .ret, st => match resD tab st res with
    | some ds => K (oneD ds) st.H st.t
    | none => False
  | _, _ => False

section
variable {P : Program} {w0 : World} {F : Mem} {G : Ghost} {w : World}

theorem run_res {tab : Tab} (hT : Tab.Ok P tab) {n : Nat} {st : St} {a : Act} (hs : Sim w0 F G n st a w) : ∀ (res : List ResultVar) (ds : List D), resD tab st res = some ds →
    ∃ vs, (res.mapM fun | .tmp t => pure (a.tmps.getD t undef) | .cell k t => do loadVar t (← asAddr (a.tmps.getD k undef)) : Sem (List Value)).run P w = .ok vs w ∧ RepL F G ds vs
  | [], ds, h => by simp only [resD] at h; cases h; exact ⟨[], by simp, by simp [RepL]⟩
  | .tmp k :: r, ds, h => by
    simp only [resD] at h
    cases hr : resD tab st r with
    | none => rw [hr] at h; cases h
    | some ds' =>
      rw [hr] at h; cases h
      obtain ⟨vs, h1, h2⟩ := run_res hT hs r ds' hr
      refine ⟨a.tmps.getD k undef :: vs, ?_, ?_⟩
      · simp only [List.mapM_cons, Sem.run_bind, Sem.run_pure, Result.andThen_ok, h1]
      · simp only [RepL]; exact ⟨_, _, rfl, hs.2.1.look k, h2⟩
  | .cell k t :: r, ds, h => by
    simp only [resD] at h
    cases ht : tab t with
    | none => rw [ht] at h; cases h
    | some i =>
      rw [ht] at h
      simp only at h
      split at h
      · rename_i d ds' hl hr
        cases h
        obtain ⟨vs, h1, h2⟩ := run_res hT hs r ds' hr
        obtain ⟨u, hu, hd⟩ := load_gives hs.1 (hT _ _ ht) (hs.2.1.look k) hl
        have hp : ∃ ad, a.tmps.getD k undef = .pointer (some ad) := by
          unfold loadD at hl
          cases hrd : T.rdP st.H i.sz (T.look st.tm k) with
          | none => rw [hrd] at hl; cases hl
          | some cs => obtain ⟨b, o, vs, e, _⟩ := hs.1.rdP (hs.2.1.look k) hrd; exact ⟨_, e⟩
        obtain ⟨ad, hp⟩ := hp
        rw [hp] at hu
        simp only [Instr.loadAt, Instr.sureAddr, Sem.run_bind, Sem.run_pure, Result.andThen_ok] at hu
        have ha : (asAddr (a.tmps.getD k undef)).run P w = .ok ad w := by rw [hp]; rfl
        refine ⟨u :: vs, ?_, ?_⟩
        · simp only [List.mapM_cons, Sem.run_bind, ha, Sem.run_pure, Result.andThen_ok, hu, h1]
        · simp only [RepL]; exact ⟨_, _, rfl, hd, h2⟩
      · cases h

theorem run_results {tab : Tab} (hT : Tab.Ok P tab) {n : Nat} {st : St} {a : Act} (hs : Sim w0 F G n st a w) {fn : Func} {ds : List D} (h : resD tab st fn.results.toList = some ds) :
    ∃ v, (results fn a.tmps).run P w = .ok v w ∧ Rep F G (oneD ds) v := by
  obtain ⟨vs, h1, h2⟩ := run_res hT hs fn.results.toList ds h
  have h1' : (fn.results.mapM fun | .tmp t => pure (a.tmps.getD t undef) | .cell k t => do loadVar t (← asAddr (a.tmps.getD k undef)) : Sem (Array Value)).run P w = .ok vs.toArray w := by
    rw [Array.mapM_eq_mapM_toList]
    simp only [Sem.run_map, h1, Result.andThen_ok]
  have hl := h2.length
  refine ⟨if h : vs.toArray.size = 1 then vs.toArray[0] else .tuple vs.toArray, ?_, ?_⟩
  · unfold results
    simp only [Sem.run_bind, Sem.run_pure]
    exact congrArg (fun r : Result (Array Value) => r.andThen fun vs w' => Result.ok (if h : vs.size = 1 then vs[0] else .tuple vs) w') h1'
  · match ds, h2, hl with
    | [d], h2, hl =>
      simp only [RepL] at h2
      obtain ⟨u, us, rfl, hd, rfl⟩ := h2
      simpa [oneD] using hd
    | [], h2, hl =>
      simp only [RepL] at h2
      subst h2
      simp only [oneD, Rep]
      exact ⟨[], by simp, by simp [RepL]⟩
    | d :: d' :: ds, h2, hl =>
      have hne : ¬ vs.toArray.size = 1 := by simp at hl ⊢; omega
      rw [dif_neg hne]
      simp only [oneD, Rep]
      exact ⟨vs, rfl, h2⟩

/-- The slots at the entry. -/
def enterTM : Nat → List D → TM
  | _, [] => []
  | k, d :: ds => (k, d) :: enterTM (k + 1) ds
theorem look_enter : ∀ (ds : List D) (k j : Nat), look (enterTM k ds) j = if k ≤ j then (ds[j - k]?).getD .any else .any
  | [], k, j => by simp [enterTM, look]
  | d :: ds, k, j => by
    simp only [enterTM, look]
    by_cases h : k = j
    · subst h; simp
    · rw [if_neg h, look_enter ds (k + 1) j]
      by_cases h2 : k ≤ j
      · rw [if_pos h2, if_pos (by omega)]
        have : j - k = (j - (k + 1)) + 1 := by omega
        rw [this]; simp
      · rw [if_neg h2, if_neg (by omega)]

/-- A call is entered, walked and left. -/
theorem ACall.enter {tab : Tab} (hT : Tab.Ok P tab) {f : FuncId} {fn : Func} {c : Code} {n : Nat} (hf : P.funcs[f]? = some fn) (hb : fn.body = some c) (hnm : (fn.name == "runtime.NumGoroutine") = false) (hn : fn.ntmps = n) {ds : List D} (hl : ds.length ≤ n)
    {H : Hp} {t : Nat} {K : D → Hp → Nat → Prop} (h : AW P n c (retQ tab fn.results.toList K) ⟨enterTM 0 ds, H, t⟩) : ACall P f ds H t K := by
  refine fun w0 F G w us R hL => .inl ⟨⟨fn, hf, by rw [hb]; rfl, hnm⟩, ?_⟩
  have hus : us.length = ds.length := hL.length
  refine calls_of_wp hf hb ?_
  have hs : Sim w0 F G n ⟨enterTM 0 ds, H, t⟩ { tmps := us.toArray ++ Array.replicate (fn.ntmps - us.toArray.size) undef, defers := [] } w := by
    refine ⟨R, ⟨by simp; omega, fun k => ?_⟩, rfl⟩
    rw [look_enter, if_pos (Nat.zero_le _), Nat.sub_zero]
    cases hd : ds[k]? with
    | none => simp only [Option.getD_none, Rep]
    | some d =>
      obtain ⟨u, hu, hr⟩ := hL.get hd
      have hk : k < us.length := (List.getElem?_eq_some_iff.1 hu).1
      have : (us.toArray ++ Array.replicate (fn.ntmps - us.toArray.size) undef).getD k undef = u := by
        rw [Array.getD_eq_getD_getElem?, Array.getElem?_append_left (by simpa using hk)]
        simp [hu]
      rw [this]; exact hr
  refine wp_mono (h w0 F G _ w hs) fun e a' w' l => ?_
  obtain ⟨F', G', st', onw, hs', hq⟩ := l
  have fin : ∀ ds', resD tab st' fn.results.toList = some ds' → K (oneD ds') st'.H st'.t → a'.defers = [] ∧ ∃ v, (results fn a'.tmps).run P w' = .ok v w' ∧ ∃ F' G' u d H' t', Ending.returned v = .returned u ∧ Onw w0 F G F' G' ∧ Rel w0 F' G' H' t' w' ∧ Rep F' G' d u ∧ K d H' t' := fun ds' hr hK => by
    obtain ⟨v, hv, hd⟩ := run_results hT hs' hr
    exact ⟨hs'.2.2, v, hv, F', G', v, oneD ds', st'.H, st'.t, rfl, onw, hs'.1, hd, hK⟩
  cases e with
  | normal =>
    simp only [retQ] at hq
    split at hq
    · rename_i ds' hr; exact fin ds' hr hq
    · exact hq.elim
  | ret =>
    simp only [retQ] at hq
    split at hq
    · rename_i ds' hr; exact fin ds' hr hq
    · exact hq.elim
  | _ => exact hq.elim

/-- What a function makes of values that nobody writes to: a value of that kind, and nothing else. -/
def PRet (P : Program) (f : FuncId) (ds : List D) (d : D) : Prop :=
  ∀ F G w us, F.at_ w → RepL F G ds us → Runs P f us.toArray w fun e w' => ∃ F' u, e = .returned u ∧ F.le F' ∧ (∀ b o, b < w.heap.size → F' b o = F b o) ∧ F'.at_ w' ∧ Rep F' [] d u ∧ Below w.heap.size w w'

/-- A count of stamps that is great enough. -/
theorem top_of : ∀ (G : Ghost), ∃ t, ∀ (i : Nat) (p : Pl), G[i]? = some p → p.g ≤ t
  | [] => ⟨0, fun i p h => by simp at h⟩
  | q :: G => by
    obtain ⟨t, ht⟩ := top_of G
    refine ⟨max q.g t, fun i p h => ?_⟩
    cases i with
    | zero => simp at h; subst h; exact Nat.le_max_left _ _
    | succ i => exact Nat.le_trans (ht i p (by simpa using h)) (Nat.le_max_right _ _)

theorem PRet.intro {f : FuncId} {ds : List D} {d : D} (k : Nat) (h : ∀ t, ACall P f ds [] t fun d' H' _ => rsv H' k d' = d) : PRet P f ds d := by
  refine fun F G w us hF hL => ?_
  obtain ⟨t, ht⟩ := top_of G
  have R : Rel w F G [] t w := ⟨Below.refl _ _, hF, Nat.zero_le _, ht, fun i bl h => by simp at h, fun i j bi bj p q r s t u _ h => by simp at h⟩
  refine (h t w F G w us R hL).mono fun e w' hx => ?_
  obtain ⟨F', G', u, d', H', t', rfl, onw, R', hd, hK⟩ := hx
  subst hK
  refine ⟨allMem F' w.heap.size w', u, rfl, onw.mem.trans (allMem_le R'), fun b o hb => ?_, allMem_at R', rsv_rep R' k d' u hd, R'.below⟩
  unfold allMem
  rw [if_pos hb]; exact onw.old b o hb

theorem Ghost.le_nil (G : Ghost) : Ghost.le ([] : Ghost).length [] G := fun i p hi _ => by simp at hi

/-- A function whose result is a slice of a block of its own. -/
def PFresh (P : Program) (f : FuncId) (ds : List D) (ty : TypeId) (sz n : Nat) (cells : List D) : Prop :=
  ∀ F G w us, F.at_ w → RepL F G ds us → Runs P f us.toArray w fun e w' => ∃ F' u p, e = .returned u ∧ F.le F' ∧ (∀ b o, b < w.heap.size → F' b o = F b o) ∧ F'.at_ w' ∧ Below w.heap.size w w' ∧ Lies w F' [] w' ⟨ty, p.g, cells⟩ p ∧ Rep F' [p] (.own sz 0 p.g 0 n) u

mutual
/-- A value that leads to no block of the abstract heap. -/
def plainD : D → Bool
  | .v _ => true
  | .sl _ ds _ => plainL ds
  | .rp ds _ => plainL ds
  | .own .. => false
  | .ptr .. => false
  | .agg ds => plainL ds
  | .tup ds => plainL ds
  | .fn _ ds => plainL ds
  | .any => true
def plainL : List D → Bool
  | [] => true
  | d :: ds => plainD d && plainL ds
end
mutual
theorem plain_rep {F : Mem} {G G' : Ghost} : ∀ (d : D) (u : Value), plainD d = true → Rep F G d u → Rep F G' d u
  | .v x, u, _, h => by simpa only [Rep] using h
  | .sl sz ds full, u, hp, h => by
    simp only [Rep, plainD] at h hp ⊢
    obtain ⟨a, len, cap, h1, h2, h3, h4, h5⟩ := h
    refine ⟨a, len, cap, h1, h2, h3, h4, h5.imp id ?_⟩
    rintro ⟨blk, off, vs, e, hc, hr⟩
    exact ⟨blk, off, vs, e, hc, plain_repL ds vs hp hr⟩
  | .rp ds o, u, hp, h => by
    simp only [Rep, plainD] at h hp ⊢
    obtain ⟨blk, off, vs, e, hc, hr⟩ := h
    exact ⟨blk, off, vs, e, hc, plain_repL ds vs hp hr⟩
  | .own .., u, hp, h => by simp [plainD] at hp
  | .ptr .., u, hp, h => by simp [plainD] at hp
  | .agg ds, u, hp, h => by
    simp only [Rep, plainD] at h hp ⊢
    obtain ⟨vs, e, hr⟩ := h
    exact ⟨vs, e, plain_repL ds vs hp hr⟩
  | .tup ds, u, hp, h => by
    simp only [Rep, plainD] at h hp ⊢
    obtain ⟨vs, e, hr⟩ := h
    exact ⟨vs, e, plain_repL ds vs hp hr⟩
  | .fn f ds, u, hp, h => by
    simp only [Rep, plainD] at h hp ⊢
    obtain ⟨vs, e, hr⟩ := h
    exact ⟨vs, e, plain_repL ds vs hp hr⟩
  | .any, u, _, h => by simp only [Rep]
theorem plain_repL {F : Mem} {G G' : Ghost} : ∀ (ds : List D) (us : List Value), plainL ds = true → RepL F G ds us → RepL F G' ds us
  | [], us, _, h => by simpa only [RepL] using h
  | d :: ds, us, hp, h => by
    simp only [RepL, plainL, Bool.and_eq_true] at h hp ⊢
    obtain ⟨u, us', e, h1, h2⟩ := h
    exact ⟨u, us', e, plain_rep d u hp.1 h1, plain_repL ds us' hp.2 h2⟩
end

theorem PFresh.intro {f : FuncId} {ds : List D} {ty : TypeId} {sz n : Nat} {cells : List D} (hc : plainL cells = true)
    (h : ∀ t, ACall P f ds [] t fun d H' _ => (cells = [] ∧ n = 0 ∧ ∃ sz0, 0 < sz0 ∧ d = .sl sz0 [] true) ∨ ∃ b g, d = .own sz b g 0 n ∧ H'[b]? = some (some ⟨ty, g, cells⟩)) : PFresh P f ds ty sz n cells := by
  refine fun F G w us hF hL => ?_
  obtain ⟨t, ht⟩ := top_of G
  have R : Rel w F G [] t w := ⟨Below.refl _ _, hF, Nat.zero_le _, ht, fun i bl h => by simp at h, fun i j bi bj p q r s t u _ h => by simp at h⟩
  refine (h t w F G w us R hL).mono fun e w' hx => ?_
  obtain ⟨F', G', u, d', H', t', rfl, onw, R', hd, hK⟩ := hx
  rcases hK with ⟨rfl, rfl, sz0, h0, rfl⟩ | ⟨b, g, rfl, hb⟩
  · simp only [Rep] at hd
    obtain ⟨a, len, cap, rfl, h2, h3, h4, _⟩ := hd
    have hl0 : len = 0 := by rcases Nat.mul_eq_zero.1 (h2.trans (by simp)) with h | h <;> omega
    have hc0 : cap = 0 := by have := h4 trivial; omega
    subst hl0; subst hc0
    refine ⟨F', _, ⟨none, 0⟩, rfl, onw.mem, fun b o hb => onw.old b o hb, R'.mem, R'.below, ⟨rfl, rfl⟩, ?_⟩
    simp only [Rep]
    exact ⟨rfl, _, rfl, Nat.le_refl _, fun _ => ⟨⟨a, rfl⟩, trivial, trivial⟩⟩
  · obtain ⟨p, hp, hg, hl⟩ := R'.own b _ hb
    refine ⟨F', u, p, rfl, onw.mem, fun b o hb => onw.old b o hb, R'.mem, R'.below, ⟨rfl, ?_⟩, ?_⟩
    · cases hr : p.r with
      | none => rw [hr] at hl; exact hl
      | some rs =>
        obtain ⟨r, s⟩ := rs
        rw [hr] at hl
        obtain ⟨k1, k2, vs, junk, k3, k4, k5⟩ := hl
        exact ⟨k1, k2, vs, junk, k3, k4, plain_repL _ _ hc k5⟩
    · simp only [Rep] at hd ⊢
      obtain ⟨k1, p', hp', k2, k3⟩ := hd
      rw [hp] at hp'; cases hp'
      exact ⟨k1, p, rfl, Nat.le_refl _, fun _ => k3 hg⟩

/-- What a call of such a function leaves, at a place that stood ready. -/
theorem Rel.fresh {H : Hp} {t' sp nid : Nat} {t : Nat} {w' : World} {F' : Mem} {ty : TypeId} {sz n : Nat} {cells : List D} {u : Value} {p p0 : Pl} (R : Rel w0 F G H t w) (ht : t ≤ t') (hsp : sp ≤ t') (hn : nid ≤ H.length) (hp0 : G[nid]? = some p0) (hlt : p0.g < sp)
    (h1 : F.le F') (h2 : ∀ b o, b < w.heap.size → F' b o = F b o) (h3 : F'.at_ w') (h4 : Below w.heap.size w w') (h5 : Lies w F' [] w' ⟨ty, p.g, cells⟩ p) (h6 : Rep F' [p] (.own sz 0 p.g 0 n) u) :
    Rel w0 F' (G.set nid ⟨p.r, sp⟩) (setH H nid ⟨ty, sp, cells⟩) t' w' ∧ Rep F' (G.set nid ⟨p.r, sp⟩) (.own sz nid sp 0 n) u := by
  have hle : p0.le ⟨p.r, sp⟩ := .inr hlt
  have hltn : nid < G.length := (List.getElem?_eq_some_iff.1 hp0).1
  obtain ⟨_, hl⟩ := h5
  refine ⟨R.put ht hsp hn hp0 hle (h4.mono R.below.size) h1 h3 (fun i bi q r s hi hbi hq hrs => ?_) ⟨rfl, ?_⟩, ?_⟩
  · obtain ⟨q', hq', hl'⟩ := R.own i bi hbi
    rw [hq] at hq'; cases hq'
    obtain ⟨l1, _⟩ := hl'.lt hrs
    obtain ⟨_, h⟩ := hl'
    rw [hrs] at h
    refine ⟨h4.block r l1, fun o => by rw [h2 r o l1]; exact h.2.1 o, fun r' s' e => ?_⟩
    simp only at e
    rw [e] at hl
    have := hl.1
    omega
  · cases hr : p.r with
    | none => rw [hr] at hl; exact hl
    | some rs =>
      obtain ⟨r, s⟩ := rs
      rw [hr] at hl
      obtain ⟨k1, k2, vs, junk, k3, k4, k5⟩ := hl
      have hb := R.below.size
      exact ⟨by omega, k2, vs, junk, k3, k4, RepL.mono (.refl _) (fun i p hi _ => by simp at hi) _ _ k5⟩
  · simp only [Rep] at h6 ⊢
    obtain ⟨k1, p', hp', k2, k3⟩ := h6
    simp only [List.getElem?_cons_zero, Option.some.injEq] at hp'
    subst hp'
    exact ⟨k1, ⟨p.r, sp⟩, by rw [List.getElem?_set_self hltn], Nat.le_refl _, fun _ => k3 rfl⟩

/-- Every slice may be longer in memory than it is. -/
def uf : D → D
  | .sl sz cs _ => .sl sz cs false
  | d => d
def ufa : D → D
  | .agg cs => .agg (cs.map uf)
  | d => uf d
theorem Rep.uf {F : Mem} {G : Ghost} {d : D} {u : Value} (h : Rep F G d u) : Rep F G (uf d) u := by
  cases d with
  | sl sz cs full =>
    simp only [T.uf, Rep] at h ⊢
    obtain ⟨a, len, cap, h1, h2, h3, h4, h5⟩ := h
    exact ⟨a, len, cap, h1, h2, h3, (fun e => by cases e), h5⟩
  | _ => exact h
theorem Rep.ufa {F : Mem} {G : Ghost} {d : D} {u : Value} (h : Rep F G d u) : Rep F G (ufa d) u := by
  cases d with
  | agg cs =>
    simp only [T.ufa, Rep] at h ⊢
    obtain ⟨vs, e, hL⟩ := h
    exact ⟨vs, e, RepL_map (fun d u _ hd => hd.uf) hL⟩
  | _ => exact Rep.uf h

theorem ACall.of_pret {f : FuncId} {ds ds' : List D} {d : D} {H : Hp} {t : Nat} {K : D → Hp → Nat → Prop} (h : PRet P f ds' d) (hd : ds.map ufa = ds') (hk : K d H t) : ACall P f ds H t K := by
  refine fun w0 F G w us R hL => ?_
  subst hd
  have hL' : RepL F G (ds.map ufa) us := RepL_map (fun d u _ hd => hd.ufa) hL
  refine (h F G w us R.mem hL').mono fun e w' hx => ?_
  obtain ⟨F', u, rfl, h1, h2, h3, h4, h5⟩ := hx
  exact ⟨F', G, u, d, H, t, rfl, ⟨h1, fun b o hb => h2 b o (by have := R.below.size; omega), .refl _ _, Nat.le_refl _⟩, R.frame h5 h1 h3 h2, Rep.mono (.refl _) (Ghost.le_nil G) d u h4, hk⟩

/-- Such a call from the code. -/
theorem ACall.of_fresh {f : FuncId} {ds ds' : List D} {ty : TypeId} {sz n : Nat} {cells : List D} {H : Hp} {t : Nat} {K : D → Hp → Nat → Prop} (h : PFresh P f ds' ty sz n cells) (hd : ds.map ufa = ds') (hk : K (.own sz H.length (t + 1) 0 n) (setH H H.length ⟨ty, t + 1, cells⟩) (t + 1)) : ACall P f ds H t K := by
  refine fun w0 F G w us R hL => ?_
  subst hd
  have hL' : RepL F G (ds.map ufa) us := RepL_map (fun d u _ hd => hd.ufa) hL
  have go : ∀ G1, Ghost.le G.length G G1 → G.length ≤ G1.length → Rel w0 F G1 H t w → H.length < G1.length → Runs P f us.toArray w fun e w' => ∃ F' G' u d H' t', e = .returned u ∧ Onw w0 F G F' G' ∧ Rel w0 F' G' H' t' w' ∧ Rep F' G' d u ∧ K d H' t' := fun G1 g1 g2 R1 hlt => by
    obtain ⟨p0, hp0⟩ : ∃ p, G1[H.length]? = some p := ⟨_, List.getElem?_eq_getElem hlt⟩
    have htop := R1.top _ _ hp0
    refine (h F G w us R.mem hL').mono fun e w' hx => ?_
    obtain ⟨F', u, p, rfl, h1, h2, h3, h4, h5, h6⟩ := hx
    obtain ⟨k1, k2⟩ := R1.fresh (t' := t + 1) (sp := t + 1) (Nat.le_succ t) (Nat.le_refl _) (Nat.le_refl _) hp0 (by omega) h1 h2 h3 h4 h5 h6
    exact ⟨F', _, u, _, _, _, rfl, ⟨h1, fun b o hb => h2 b o (by have := R.below.size; omega), g1.trans ((Ghost.le_set hp0 (.inr (by simp only; omega)) _).less g2), by simpa using g2⟩, k1, k2, hk⟩
  rcases Nat.lt_or_ge H.length G.length with hlt | hge
  · exact go G (.refl _ _) (Nat.le_refl _) R hlt
  · have heq : H.length = G.length := Nat.le_antisymm R.len hge
    exact go (G ++ [⟨none, 0⟩]) (fun i p hi hp => ⟨p, by rw [List.getElem?_append_left hi]; exact hp, .refl p⟩) (by simp) R.extend (by simp; omega)
end
end Go.Proofs.Ytcjmknmlfggblaa.T
end

/- Equations by which a walk is reckoned. -/
section
namespace Go.Proofs.Ytcjmknmlfggblaa.T
open Go Go.RowKit

def bindO (x : Option St) (k : St → Prop) : Prop := match x with
  | some s => k s
  | none => False
theorem bindO_some (s : St) (k : St → Prop) : bindO (some s) k = k s := rfl
theorem bindO_none (k : St → Prop) : bindO none k = False := rfl

/-- One operation with its guard known. -/
def opB (tab : Tab) (ρ : TypeId → Operand → D) (nid sp : Nat) (H : Hp) (op : Op) (ty : TypeId) : Option (D × Wr) := opA tab ρ nid sp H ⟨none, op, ty, "", #[], none⟩
theorem opA_opB (tab : Tab) (ρ : TypeId → Operand → D) (nid sp : Nat) (H : Hp) (dst : Option Tmp) (op : Op) (ty : TypeId) (pos : String) (aft : Array Edge) (g : Option (Nat × Bool)) : opA tab ρ nid sp H ⟨dst, op, ty, pos, aft, g⟩ = opB tab ρ nid sp H op ty := by
  unfold opB; cases op <;> rfl

def putO (tm : TM) (H : Hp) (t : Nat) (dst : Option Tmp) : Option (D × Wr) → Option St
  | some (d, wr) => some (St.put ⟨tm, wr.on H, wr.tick t⟩ dst d)
  | none => none
def guardO (n : Nat) (dst : Option Tmp) (x : Option St) : Option St := if dst.getD 0 < n then x else none
/-- What is done when the guard says so, and when not. -/
def goB (tab : Tab) (n : Nat) (dst : Option Tmp) (op : Op) (ty : TypeId) (st : St) : Option Bool → Option St
  | none => none
  | some false => guardO n dst (some (st.put dst (.v undef)))
  | some true => guardO n dst (putO st.tm st.H st.t dst (opB tab (evalD tab st.tm) st.H.length (st.t + 1) st.H op ty))

def isCallV : Op → Bool
  | .call { callee := .value _, .. } => true
  | _ => false

def callO (P : Program) (f : D) (args : List D) (H : Hp) (t : Nat) (k : D → Hp → Nat → Prop) : Prop := match f with
  | .fn g caps => ACall P g (args ++ caps) H t k
  | _ => False
theorem callO_fn (P : Program) (g : FuncId) (caps args : List D) (H : Hp) (t : Nat) (k : D → Hp → Nat → Prop) : callO P (.fn g caps) args H t k = ACall P g (args ++ caps) H t k := rfl

/-- What stands behind a call. -/
def afterC (KK : St → Prop) (tm : TM) (dst : Option Tmp) (d : D) (H : Hp) (t : Nat) : Prop := KK (St.put ⟨tm, H, t⟩ dst d)
/-- A call with its guard known. -/
def goC (P : Program) (tab : Tab) (n : Nat) (KK : St → Prop) (dst : Option Tmp) (f : Operand) (args : List Operand) (ts : List TypeId) (st : St) : Option Bool → Prop
  | none => False
  | some false => bindO (guardO n dst (some (st.put dst (.v undef)))) KK
  | some true => dst.getD 0 < n ∧ callO P (evalD tab st.tm 0 f) (argsD tab st.tm args ts) st.H st.t (afterC KK st.tm dst)

/-- The guard of an operation. -/
def guardD : D → Bool → Option Bool
  | .v (.bool b), want => some (b == want)
  | .v (.tuple _), _ => some false
  | _, _ => none

theorem gd_un (w : Bool) : guardD (.v undef) w = some false := rfl
theorem gd_tt : guardD (.v (.bool true)) true = some true := rfl
theorem gd_ff : guardD (.v (.bool false)) false = some true := rfl
theorem gd_tf : guardD (.v (.bool true)) false = some false := rfl
theorem gd_ft : guardD (.v (.bool false)) true = some false := rfl

section
variable {P : Program} {tab : Tab} {n : Nat} {all : List Oper} {K : St → Prop} {rest : List Oper} {st : St}
theorem awOps_nil (h : K st) : awOps P tab n all K [] st := h

theorem awOps_op {dst : Option Tmp} {op : Op} {ty : TypeId} {pos : String} {aft : Array Edge} {g : Option (Nat × Bool)} (ho : isCallV op = false) {w : Option Bool} (hw : wantedA all st.tm ⟨dst, op, ty, pos, aft, g⟩ = w)
    (h : bindO (goB tab n dst op ty st w) (awOps P tab n all K rest)) : awOps P tab n all K (⟨dst, op, ty, pos, aft, g⟩ :: rest) st := by
  unfold awOps
  rw [hw]
  unfold bindO goB guardO putO at h
  split at h
  · rename_i s hs
    split at hs
    · cases hs
    · split at hs
      · rename_i hk; cases hs; exact ⟨.inl hk, h⟩
      · cases hs
    · split at hs
      · rename_i hk
        refine ⟨.inl hk, ?_⟩
        split at hs
        · rename_i d wr hop
          cases hs
          simp only
          split
          · simp [isCallV] at ho
          · exact .inl ⟨_, .inl rfl, d, wr, by rw [opA_opB, hop], h⟩
        · cases hs
      · cases hs
  · exact h.elim

theorem wantedA_n {tm : TM} {dst : Option Tmp} {op : Op} {ty : TypeId} {pos : String} {aft : Array Edge} : wantedA all tm ⟨dst, op, ty, pos, aft, none⟩ = some true := rfl
/-- It is asked whether a slice is nil, and it cannot be told. -/
theorem awOps_nilq {dst : Option Tmp} {op : Op} {ty : TypeId} {pos : String} {aft : Array Edge} (hop : opB tab (evalD tab st.tm) st.H.length (st.t + 1) st.H op ty = none) (hk : dst.getD 0 < n) (hq : nilT tab st op = true) (h : ∀ b : Bool, awOps P tab n all K rest (st.put dst (.v (.bool b)))) :
    awOps P tab n all K (⟨dst, op, ty, pos, aft, none⟩ :: rest) st := by
  unfold awOps
  refine ⟨.inl hk, ?_⟩
  rw [wantedA_n]
  simp only
  split
  · simp [nilT] at hq
  · exact .inr ⟨hq, h⟩

/-- An operation that makes a block, which is to have a number that stood ready. -/
theorem awOps_at {dst : Option Tmp} {op : Op} {ty : TypeId} {pos : String} {aft : Array Edge} (nid : Nat) (hnid : st.H[nid]? = some none) (ho : isCallV op = false) (hk : dst.getD 0 < n)
    (h : ∀ KK : St → Prop, (∀ s, awOps P tab n all K rest s → KK s) → bindO (putO st.tm st.H st.t dst (opB tab (evalD tab st.tm) nid (st.t + 1) st.H op ty)) KK) : awOps P tab n all K (⟨dst, op, ty, pos, aft, none⟩ :: rest) st := by
  have h := h _ fun _ h => h
  unfold awOps
  refine ⟨.inl hk, ?_⟩
  rw [wantedA_n]
  simp only
  unfold bindO putO at h
  split at h
  · rename_i s hs
    split at hs
    · rename_i d wr hop
      cases hs
      split
      · simp [isCallV] at ho
      · exact .inl ⟨nid, .inr hnid, d, wr, by rw [opA_opB, hop], h⟩
    · cases hs
  · exact h.elim

/-- An operation without a guard. -/
theorem awOps_n {dst : Option Tmp} {op : Op} {ty : TypeId} {pos : String} {aft : Array Edge} (ho : isCallV op = false) (h : ∀ KK : St → Prop, (∀ s, awOps P tab n all K rest s → KK s) → bindO (goB tab n dst op ty st (some true)) KK) :
    awOps P tab n all K (⟨dst, op, ty, pos, aft, none⟩ :: rest) st := awOps_op ho rfl (h _ fun _ h => h)
theorem wantedA_some {tm : TM} {dst : Option Tmp} {op : Op} {ty : TypeId} {pos : String} {aft : Array Edge} {j : Nat} {w : Bool} {k : Nat} (hk : (all[j]?).bind (·.dst) = some k) : wantedA all tm ⟨dst, op, ty, pos, aft, some (j, w)⟩ = guardD (look tm k) w := by
  unfold wantedA
  simp only [hk]
  unfold guardD
  cases look tm k <;> first | rfl | (rename_i x; cases x <;> rfl)
theorem awOps_g {dst : Option Tmp} {op : Op} {ty : TypeId} {pos : String} {aft : Array Edge} {j : Nat} {w : Bool} {k : Nat} (hk : (all[j]?).bind (·.dst) = some k) (ho : isCallV op = false) (h : ∀ KK : St → Prop, (∀ s, awOps P tab n all K rest s → KK s) → bindO (goB tab n dst op ty st (guardD (look st.tm k) w)) KK) :
    awOps P tab n all K (⟨dst, op, ty, pos, aft, some (j, w)⟩ :: rest) st := awOps_op ho (wantedA_some hk) (h _ fun _ h => h)

theorem awOps_call {dst : Option Tmp} {f : Operand} {args : Array Operand} {ts : Array TypeId} {ty : TypeId} {pos : String} {aft : Array Edge} {g : Option (Nat × Bool)} {w : Option Bool}
    (hw : wantedA all st.tm ⟨dst, .call { callee := .value f, args := args, argTypes := ts }, ty, pos, aft, g⟩ = w) (h : goC P tab n (awOps P tab n all K rest) dst f args.toList ts.toList st w) :
    awOps P tab n all K (⟨dst, .call { callee := .value f, args := args, argTypes := ts }, ty, pos, aft, g⟩ :: rest) st := by
  unfold awOps
  rw [hw]
  unfold goC at h
  split at h
  · exact h.elim
  · unfold bindO guardO at h
    split at h
    · rename_i s hs
      split at hs
      · rename_i hk; cases hs; exact ⟨.inl hk, h⟩
      · cases hs
    · exact h.elim
  · refine ⟨.inl h.1, ?_⟩
    have h := h.2
    unfold callO at h
    split at h
    · rename_i g caps hf
      simp only [hf]
      exact h
    · exact h.elim
theorem awOps_nc {dst : Option Tmp} {f : Operand} {args : Array Operand} {ts : Array TypeId} {ty : TypeId} {pos : String} {aft : Array Edge} (h : ∀ KK : St → Prop, (∀ s, awOps P tab n all K rest s → KK s) → goC P tab n KK dst f args.toList ts.toList st (some true)) :
    awOps P tab n all K (⟨dst, .call { callee := .value f, args := args, argTypes := ts }, ty, pos, aft, none⟩ :: rest) st := awOps_call rfl (h _ fun _ h => h)
theorem awOps_gc {dst : Option Tmp} {f : Operand} {args : Array Operand} {ts : Array TypeId} {ty : TypeId} {pos : String} {aft : Array Edge} {j : Nat} {w : Bool} {k : Nat} (hk : (all[j]?).bind (·.dst) = some k) (h : ∀ KK : St → Prop, (∀ s, awOps P tab n all K rest s → KK s) → goC P tab n KK dst f args.toList ts.toList st (guardD (look st.tm k) w)) :
    awOps P tab n all K (⟨dst, .call { callee := .value f, args := args, argTypes := ts }, ty, pos, aft, some (j, w)⟩ :: rest) st := awOps_call (wantedA_some hk) (h _ fun _ h => h)

theorem AW_cond_t {tab : Tab} {Q : Exit → St → Prop} {c : Operand} {x y : Code} (hc : evalD tab st.tm 0 c = .v (.bool true)) (h : AW P n x Q st) : AW P n (.cond c x y) Q st := AW_cond hc (by rw [if_pos rfl]; exact h)
theorem AW_cond_f {tab : Tab} {Q : Exit → St → Prop} {c : Operand} {x y : Code} (hc : evalD tab st.tm 0 c = .v (.bool false)) (h : AW P n y Q st) : AW P n (.cond c x y) Q st := AW_cond hc (by rw [if_neg (by simp)]; exact h)

/-- What may be forgotten of a state. -/
def tmLe (tm : TM) : TM → Prop
  | [] => True
  | (k, d) :: r => look tm k = d ∧ tmLe tm r
def hpLe : Hp → Hp → Prop
  | _, [] => True
  | [], _ :: _ => False
  | x :: xs, y :: ys => (y = none ∨ x = y) ∧ hpLe xs ys
theorem hpLe_get : ∀ {H H' : Hp}, hpLe H H' → H'.length ≤ H.length ∧ ∀ (i : Nat) (bl : Blk), H'[i]? = some (some bl) → H[i]? = some (some bl)
  | _, [], _ => ⟨by simp, fun i bl h => by simp at h⟩
  | [], y :: ys, h => by simp [hpLe] at h
  | x :: xs, y :: ys, h => by
    simp only [hpLe] at h
    obtain ⟨h1, h2⟩ := hpLe_get h.2
    refine ⟨by simp; omega, fun i bl hi => ?_⟩
    cases i with
    | zero =>
      simp at hi; subst hi
      rcases h.1 with h | h
      · cases h
      · simp [h]
    | succ i => simpa using h2 i bl (by simpa using hi)
theorem tmLe_look {tm : TM} : ∀ {tm' : TM}, tmLe tm tm' → ∀ k, look tm' k = .any ∨ look tm' k = look tm k
  | [], _, k => .inl rfl
  | (j, d) :: r, h, k => by
    simp only [tmLe] at h
    simp only [look]
    by_cases e : j = k
    · rw [if_pos e]; subst e; exact .inr h.1.symm
    · rw [if_neg e]; exact tmLe_look h.2 k
theorem AW.weaken {c : Code} {Q : Exit → St → Prop} {st' : St} (h1 : tmLe st.tm st'.tm) (h2 : hpLe st.H st'.H) (h3 : st.t ≤ st'.t) (h : AW P n c Q st') : AW P n c Q st := fun w0 F G a w hs => by
  obtain ⟨R, hT, hd⟩ := hs
  obtain ⟨g1, g2⟩ := hpLe_get h2
  refine h w0 F G a w ⟨⟨R.below, R.mem, Nat.le_trans g1 R.len, fun i p hp => Nat.le_trans (R.top i p hp) h3, fun i bl hi => R.own i bl (g2 i bl hi), fun i j bi bj p q r s t u hij hi hj => R.inj i j bi bj p q r s t u hij (g2 i bi hi) (g2 j bj hj)⟩, ⟨hT.1, fun k => ?_⟩, hd⟩
  rcases tmLe_look h1 k with e | e
  · rw [e]; simp only [Rep]
  · rw [e]; exact hT.2 k

theorem AW_seq_k {Q : Exit → St → Prop} {x y : Code} (h : ∀ KK : St → Prop, (∀ s, AW P n y Q s → KK s) → AW P n x (thenQ KK Q) st) : AW P n (.seq x y) Q st := AW_seq (h _ fun _ h => h)
theorem AW_region_k (hT : Tab.Ok P tab) {id : Nat} {ops : List Oper} {Q : Exit → St → Prop} (h : ∀ KK : St → Prop, (∀ s, Q .normal s → KK s) → awOps P tab n ops KK ops st) : AW P n (.region id ops.toArray false) Q st := AW_region hT (h _ fun _ h => h)
end
theorem wr64 (x : Int) (h : -9223372036854775808 ≤ x ∧ x ≤ 9223372036854775807) : IntKind.i64.wrap x = x := IntWalk.i64_in x h
end Go.Proofs.Ytcjmknmlfggblaa.T
end

/- Regions that draw their order: what is reckoned in the text's order holds in every one. -/
section
namespace Go.Proofs.Ytcjmknmlfggblaa.T
open Go Go.RowKit

/-- A state with its slots as a function. -/
structure FSq where
  L : Nat → D
  H : Hp
def evalF (tab : Tab) (L : Nat → D) (t : TypeId) : Operand → D
  | .tmp k => L k
  | .const v => constD tab t v
  | .func f => .fn f []
  | .global _ => .any
theorem evalF_look (tab : Tab) (tm : TM) : evalF tab (look tm) = evalD tab tm := by
  funext t x; cases x <;> rfl
def putF (L : Nat → D) (dst : Option Tmp) (d : D) : Nat → D := match dst with
  | some k => fun j => if k = j then d else L j
  | none => L
theorem look_put (st : St) (dst : Option Tmp) (d : D) : look (st.put dst d).tm = putF (look st.tm) dst d := by
  cases dst with
  | none => rfl
  | some k => funext j; simp only [St.put, putF, look_putTM]

def slotOf (all : List Oper) (j : Nat) : Option Nat := (all[j]?).bind (·.dst)
def wantedF (all : List Oper) (L : Nat → D) (o : Oper) : Option Bool :=
  match o.guard with
  | none => some true
  | some (j, want) => match slotOf all j with
    | some k => guardD (L k) want
    | none => none
theorem wantedF_look (all : List Oper) (tm : TM) (o : Oper) : wantedF all (look tm) o = wantedA all tm o := by
  unfold wantedF wantedA slotOf guardD
  cases o.guard with
  | none => rfl
  | some g =>
    obtain ⟨j, w⟩ := g
    simp only
    cases (all[j]?).bind (·.dst) with
    | none => rfl
    | some k => simp only; cases look tm k <;> first | rfl | (rename_i x; cases x <;> rfl)

/-- What an operation did. -/
inductive Ef where
  | skip
  | val (k : Nat) (nid : Nat) (d : D) (wr : Wr) (ids : List Nat)
  | call (k : Nat) (d : D) (wr : Wr)
/-- By how much the stamp that it gives is greater than the first one. -/
def Ef.k : Ef → Nat
  | .skip => 0
  | .val k _ _ _ _ => k
  | .call k _ _ => k
/-- The stamp of a block that is made. -/
def wrG : Wr → Nat → Bool
  | .put _ bl, g => bl.g == g
  | _, _ => true

def FSq.after (s : FSq) (o : Oper) : Ef → FSq
  | .skip => ⟨putF s.L o.dst (.v undef), s.H⟩
  | .val _ _ d wr _ => ⟨putF s.L o.dst d, wr.on s.H⟩
  | .call _ d wr => ⟨putF s.L o.dst d, wr.on s.H⟩
/-- The blocks that a value leads to. -/
def topIds : D → List Nat
  | .own _ b _ _ _ => [b]
  | .ptr b _ _ => [b]
  | _ => []
/-- The operands behind which an operation looks: none where a value is only handed on. -/
def seenBy (op : Op) : List Operand := match op with
  | .move _ => []
  | .assign _ => []
  | op => op.operands.toList
theorem seenBy_sub {op : Op} {x : Operand} (h : x ∈ seenBy op) : x ∈ op.operands := by
  cases op <;> simp_all [seenBy]
def opIds (tab : Tab) (L : Nat → D) (o : Oper) : List Nat := (seenBy o.op).flatMap fun x => topIds (evalF tab L 0 x)

/-- What a call gives: a value, or a slice of a block of its own. -/
def PGive (P : Program) (g : FuncId) (ds : List D) (sp : Nat) (d : D) (wr : Wr) : Prop :=
  (wr = .no ∧ PRet P g ds d) ∨ ∃ nid ty sz n cells, wr = .put nid ⟨ty, sp, cells⟩ ∧ d = .own sz nid sp 0 n ∧ PFresh P g ds ty sz n cells

def Can (P : Program) (tab : Tab) (n : Nat) (all : List Oper) (sp : Nat) (o : Oper) (s : FSq) : Ef → Prop
  | .skip => o.dst.getD 0 < n ∧ wantedF all s.L o = some false
  | .val k nid d wr ids => o.dst.getD 0 < n ∧ wantedF all s.L o = some true ∧ isCallV o.op = false ∧ opA tab (evalF tab s.L) nid (sp + k) s.H o = some (d, wr) ∧ nid ≤ s.H.length ∧ (∀ b, wr.id = some b → b < s.H.length) ∧ ids = opIds tab s.L o ∧ wrG wr (sp + k) = true
  | .call k d wr => o.dst.getD 0 < n ∧ wantedF all s.L o = some true ∧ (∀ b, wr.id = some b → b < s.H.length) ∧ ∃ f args ts g caps, o.op = .call { callee := .value f, args := args, argTypes := ts } ∧ evalF tab s.L 0 f = .fn g caps ∧ PGive P g (((args.toList.zip (ts.toList ++ List.replicate args.size 0)).map fun p => evalF tab s.L p.2 p.1) ++ caps |>.map ufa) (sp + k) d wr

/-- What two operations did does not touch. -/
def Ef.wid : Ef → Option Nat
  | .val _ _ _ wr _ => wr.id
  | .call _ _ wr => wr.id
  | _ => none
def Ef.ids : Ef → List Nat
  | .val _ _ _ _ ids => ids
  | _ => []
def apartE (e e' : Ef) : Prop := (∀ b, e.wid = some b → b ∉ e'.ids ∧ e'.wid ≠ some b) ∧ ∀ b, e'.wid = some b → b ∉ e.ids

theorem putF_comm (L : Nat → D) {x y : Option Tmp} (u v : D) (h : ∀ d, x = some d → y ≠ some d) : putF (putF L x u) y v = putF (putF L y v) x u := by
  cases x with
  | none => rfl
  | some a =>
    cases y with
    | none => rfl
    | some b =>
      have hne : a ≠ b := fun e => h a rfl (by rw [e])
      funext j
      simp only [putF]
      by_cases h1 : b = j
      · subst h1; rw [if_pos rfl, if_neg hne, if_pos rfl]
      · rw [if_neg h1, if_neg h1]

theorem Wr.on_comm {H : Hp} {wr wr' : Wr} (h : ∀ b, wr.id = some b → b < H.length) (h' : ∀ b, wr'.id = some b → b < H.length) (hne : ∀ b, wr.id = some b → wr'.id ≠ some b) : wr'.on (wr.on H) = wr.on (wr'.on H) := by
  have key : ∀ (b b' : Nat) (x x' : Blk), b < H.length → b' < H.length → b ≠ b' → setH (setH H b x) b' x' = setH (setH H b' x') b x := fun b b' x x' h1 h2 h3 => by
    unfold setH
    rw [if_neg (by omega : ¬ b = H.length), if_neg (by omega : ¬ b' = H.length), List.length_set, List.length_set, if_neg (by omega), if_neg (by omega)]
    exact List.set_comm _ _ h3
  cases wr <;> cases wr' <;> simp only [Wr.on, Wr.id] at * <;> first
    | rfl
    | exact key _ _ _ _ (h _ rfl) (h' _ rfl) (fun e => hne _ rfl (by rw [e]))
theorem Wr.on_length {H : Hp} {wr : Wr} (h : ∀ b, wr.id = some b → b < H.length) : (wr.on H).length = H.length := by
  cases wr <;> simp only [Wr.on, Wr.id] at *
  · rename_i b bl; unfold setH; rw [if_neg (by have := h b rfl; omega), List.length_set]
  · rename_i b bl; unfold setH; rw [if_neg (by have := h b rfl; omega), List.length_set]
theorem Wr.on_get {H : Hp} {wr : Wr} {i : Nat} (h : wr.id ≠ some i) : (wr.on H)[i]? = H[i]? := by
  cases wr <;> simp only [Wr.on, Wr.id] at *
  · exact setH_ne _ fun e => h (by rw [e])
  · exact setH_ne _ fun e => h (by rw [e])

theorem rdP_congr {H H' : Hp} {sz : Nat} {x : D} (h : ∀ b ∈ topIds x, H[b]? = H'[b]?) : rdP H sz x = rdP H' sz x := by
  cases x <;> simp only [rdP]
  rename_i b g o
  rw [h b (by simp [topIds])]
theorem loadD_congr {H H' : Hp} {i : TI} {x : D} (h : ∀ b ∈ topIds x, H[b]? = H'[b]?) : loadD i H x = loadD i H' x := by unfold loadD; rw [rdP_congr h]
theorem storeD_congr {H H' : Hp} {i : TI} {p x : D} (h : ∀ b ∈ topIds p, H[b]? = H'[b]?) : storeD i H p x = storeD i H' p x := by
  unfold storeD
  cases p <;> try rfl
  rename_i b g o
  have e := h b (by simp [topIds])
  cases cellsD x <;> simp only [e]
theorem faddrD_congr {H H' : Hp} {i : TI} {f : Nat} {x : D} (h : ∀ b ∈ topIds x, H[b]? = H'[b]?) : faddrD i H f x = faddrD i H' f x := by
  unfold faddrD
  cases x <;> try (cases i.parts[f]? <;> rfl)
  rename_i b g o
  have e := h b (by simp [topIds])
  cases i.parts[f]? <;> simp only [e]
theorem iaddrD_congr {H H' : Hp} {i : TI} {x ix : D} (h : ∀ b ∈ topIds x, H[b]? = H'[b]?) : iaddrD i H x ix = iaddrD i H' x ix := by
  cases x with
  | own sz b g lo n =>
    have e := h b (by simp [topIds])
    cases ix with
    | v y => cases y <;> simp only [iaddrD, e]
    | _ => rfl
  | _ =>
    cases ix with
    | v y => cases y <;> rfl
    | _ => rfl
theorem lenD_congr {H H' : Hp} {i : TI} {x : D} (h : ∀ b ∈ topIds x, H[b]? = H'[b]?) : lenD i H x = lenD i H' x := by
  cases x with
  | own sz b g lo n =>
    have e := h b (by simp [topIds])
    unfold lenD
    cases i.kind <;> simp only [e]
  | v y =>
    unfold lenD
    cases i.kind <;> cases y <;> rfl
  | _ =>
    unfold lenD
    cases i.kind <;> rfl
theorem slCells_congr {H H' : Hp} {x : D} (h : ∀ b ∈ topIds x, H[b]? = H'[b]?) : slCells H x = slCells H' x := by
  unfold slCells
  cases x <;> try rfl
  rename_i sz b g lo n
  simp only; rw [h b (by simp [topIds])]
theorem isSlice_congr {H H' : Hp} {x : D} (h : ∀ b ∈ topIds x, H[b]? = H'[b]?) : isSlice H x = isSlice H' x := by
  unfold isSlice
  cases x <;> try rfl
  rename_i sz b g lo n
  simp only; rw [h b (by simp [topIds])]
theorem appD_congr {H H' : Hp} {i e : TI} {et nid sp : Nat} {s x : D} (h : ∀ b ∈ topIds s, H[b]? = H'[b]?) (h' : ∀ b ∈ topIds x, H[b]? = H'[b]?) : appD i e et nid sp H s x = appD i e et nid sp H' s x := by
  unfold appD
  rw [slCells_congr h', isSlice_congr h]
  cases slCells H' x with
  | none => rfl
  | some q =>
    obtain ⟨sz', xs⟩ := q
    cases s with
    | own sz b g lo n =>
      have e := h b (by simp [topIds])
      simp only [e]
    | sl sz cs full => cases full <;> rfl
    | _ => rfl
theorem copyD_congr {H H' : Hp} {e : TI} {s x : D} (h : ∀ b ∈ topIds s, H[b]? = H'[b]?) (h' : ∀ b ∈ topIds x, H[b]? = H'[b]?) : copyD e H s x = copyD e H' s x := by
  unfold copyD
  rw [slCells_congr h']
  cases slCells H' x with
  | none => cases s <;> rfl
  | some q =>
    cases s with
    | own sz b g lo n => have e := h b (by simp [topIds]); simp only [e]
    | _ => rfl
theorem sliceD_congr {H H' : Hp} {i : TI} {x : D} {lo hi mx : Option D} (h : ∀ b ∈ topIds x, H[b]? = H'[b]?) : sliceD i H x lo hi mx = sliceD i H' x lo hi mx := by
  unfold sliceD
  cases x with
  | own sz b g lo0 n =>
    have e := h b (by simp [topIds])
    cases boundD lo <;> cases boundD hi <;> cases boundD mx <;> try rfl
    rename_i v
    cases v <;> simp only [e]
  | _ => cases boundD lo <;> cases boundD hi <;> cases boundD mx <;> try rfl

theorem topIds_const (tab : Tab) (t : TypeId) (v : Value) : topIds (constD tab t v) = [] := by
  unfold constD; split <;> rfl
theorem topIds_evalF (tab : Tab) (L : Nat → D) (t t' : TypeId) (x : Operand) : topIds (evalF tab L t x) = topIds (evalF tab L t' x) := by
  cases x <;> simp only [evalF]
  rw [topIds_const, topIds_const]

/-- An operation looks at its operands, and at the blocks that they lead to. -/
theorem opA_congr {tab : Tab} {L L' : Nat → D} {nid sp : Nat} {H H' : Hp} {o : Oper} (hL : ∀ x ∈ o.op.operands, ∀ t, evalF tab L t x = evalF tab L' t x) (hH : ∀ b ∈ opIds tab L o, H[b]? = H'[b]?) : opA tab (evalF tab L) nid sp H o = opA tab (evalF tab L') nid sp H' o := by
  have hid : ∀ x ∈ seenBy o.op, ∀ t, ∀ b ∈ topIds (evalF tab L t x), H[b]? = H'[b]? := fun x hx t b hb => hH b (List.mem_flatMap.2 ⟨x, hx, by rwa [topIds_evalF tab L 0 t]⟩)
  have hid' : ∀ x ∈ seenBy o.op, ∀ t, ∀ b ∈ topIds (evalF tab L' t x), H[b]? = H'[b]? := fun x hx t b hb => hid x hx t b (by rw [hL x (seenBy_sub hx) t]; exact hb)
  clear hH
  obtain ⟨dst, op, ty, pos, aft, g⟩ := o
  have pairs : ∀ (ps : Array (Nat × Operand)) (t : TypeId), (∀ x ∈ ps.toList.map (·.2), evalF tab L t x = evalF tab L' t x) → (ps.toList.map fun p => (p.1, evalF tab L t p.2)) = ps.toList.map fun p => (p.1, evalF tab L' t p.2) := fun ps t h =>
    List.map_congr_left fun p hp => by rw [h p.2 (List.mem_map_of_mem hp)]
  cases op <;> simp only [Op.operands, seenBy] at hL hid hid' <;> try (simp only [opA]; done)
  case move x => simp only [opA]; rw [hL x (by simp)]
  case assign x => simp only [opA]; rw [hL x (by simp)]
  case pick c a b => simp only [opA]; rw [hL c (by simp), hL a (by simp), hL b (by simp)]
  case box T x => simp only [opA]; rw [hL x (by simp)]
  case build T ps => simp only [opA]; rw [pairs ps 0 fun x hx => hL x (by simpa using hx) 0]
  case buildSlice T k ps =>
    simp only [opA]
    cases tab T with
    | none => rfl
    | some i => simp only; rw [pairs ps _ fun x hx => hL x (by simpa using hx) _]
  case load T a => simp only [opA]; rw [hL a (by simp)]; cases tab T <;> simp only; rw [loadD_congr (hid' a (by simp) 0)]
  case store T a x => simp only [opA]; rw [hL a (by simp), hL x (by simp)]; cases tab T <;> simp only; rw [storeD_congr (hid' a (by simp) 0)]
  case fieldAddr T x f => simp only [opA]; rw [hL x (by simp)]; cases tab T <;> simp only; rw [faddrD_congr (hid' x (by simp) 0)]
  case field T x f => simp only [opA]; rw [hL x (by simp)]
  case indexAddr T x ix => simp only [opA]; rw [hL x (by simp), hL ix (by simp)]; cases tab T <;> simp only; rw [iaddrD_congr (hid' x (by simp) T)]
  case binOp op T x y yt => simp only [opA]; rw [hL x (by simp), hL y (by simp)]; have e : ∀ i, nilD i op H (evalF tab L' T x) = nilD i op H' (evalF tab L' T x) := fun i => by { unfold nilD; rw [slCells_congr (hid' x (by simp) T)] }; simp only [e]
  case unOp op T x => simp only [opA]; rw [hL x (by simp)]
  case convert s t x => simp only [opA]; rw [hL x (by simp)]
  case extract t ix => simp only [opA]; rw [hL t (by simp)]
  case makeFunc fn first caps =>
    cases fn <;> simp only [opA]
    rw [List.map_congr_left fun x hx => hL x (by simp at hx; simp [hx]) 0]
  case makeSlice T l c => simp only [opA]; rw [hL l (by simp), hL c (by simp)]
  case slice T x lo hi mx =>
    simp only [opA]
    rw [hL x (by simp)]
    have eo : ∀ z : Option Operand, (∀ y, z = some y → evalF tab L 0 y = evalF tab L' 0 y) → z.map (evalF tab L 0) = z.map (evalF tab L' 0) := fun z h => by cases z <;> simp_all
    rw [eo lo fun y hy => hL y (by simp [hy]) 0, eo hi fun y hy => hL y (by simp [hy]) 0, eo mx fun y hy => hL y (by simp [hy]) 0]
    cases tab T <;> simp only
    rw [sliceD_congr (hid' x (by simp) T)]
  case call c =>
    obtain ⟨callee, args, ats⟩ := c
    unfold opA
    simp only
    split <;> first
      | (rename_i heq; simp at heq; done)
      | skip
    all_goals (try simp only [Call.operands] at hL hid hid')
    · rename_i x s heq; cases heq; rw [hL x (by simp)]; cases tab s <;> simp only; rw [lenD_congr (hid' x (by simp) s)]
    · rename_i s x u u' heq; cases heq; rw [hL s (by simp), hL x (by simp)]; have e : ∀ i e' et, appD i e' et nid sp H (evalF tab L' u s) (evalF tab L' u x) = appD i e' et nid sp H' (evalF tab L' u s) (evalF tab L' u x) := fun i e' et => appD_congr (hid' s (by simp) u) (hid' x (by simp) u); simp only [e]
    · rename_i x y ts heq; cases heq; rw [hL x (by simp), hL y (by simp)]
    · rename_i x y ts heq; cases heq; rw [hL x (by simp), hL y (by simp)]
    · rename_i s x u u' heq; cases heq; rw [hL s (by simp), hL x (by simp)]; have e : ∀ e', copyD e' H (evalF tab L' u s) (evalF tab L' u' x) = copyD e' H' (evalF tab L' u s) (evalF tab L' u' x) := fun e' => copyD_congr (hid' s (by simp) u) (hid' x (by simp) u'); simp only [e]
    · rfl

theorem looks_op {all : List Oper} {o : Oper} {k : Nat} (h : Operand.tmp k ∈ o.op.operands) : k ∈ o.looksAt all.toArray :=
  List.mem_append_left _ (List.mem_filterMap.2 ⟨.tmp k, by simpa using h, rfl⟩)
theorem evalF_put {tab : Tab} {L : Nat → D} {dst : Option Tmp} {d : D} {x : Operand} (h : ∀ k, dst = some k → x ≠ .tmp k) (t : TypeId) : evalF tab (putF L dst d) t x = evalF tab L t x := by
  cases dst with
  | none => rfl
  | some k =>
    cases x with
    | tmp j =>
      simp only [evalF, putF]
      rw [if_neg fun e => h k rfl (by rw [e])]
    | _ => rfl
theorem wantedF_put {all : List Oper} {L : Nat → D} {dst : Option Tmp} {d : D} {o : Oper} (h : ∀ k, dst = some k → k ∉ o.looksAt all.toArray) : wantedF all (putF L dst d) o = wantedF all L o := by
  unfold wantedF
  cases hg : o.guard with
  | none => rfl
  | some g =>
    obtain ⟨j, w⟩ := g
    simp only
    cases hs : slotOf all j with
    | none => rfl
    | some k =>
      simp only
      cases dst with
      | none => rfl
      | some k' =>
        simp only [putF]
        rw [if_neg]
        intro e
        subst e
        refine h k' rfl (List.mem_append_right _ ?_)
        rw [hg]
        unfold slotOf at hs
        show k' ∈ ((all.toArray[j]?).bind fun x => x.dst).toList
        simp [hs]

theorem FSq.after_L {s : FSq} {o : Oper} {e : Ef} : ∃ d, (s.after o e).L = putF s.L o.dst d := by
  cases e <;> exact ⟨_, rfl⟩
theorem FSq.after_get {s : FSq} {o : Oper} {e : Ef} {i : Nat} (h : e.wid ≠ some i) : (s.after o e).H[i]? = s.H[i]? := by
  cases e with
  | val k nid d wr ids => exact Wr.on_get h
  | call k d wr => exact Wr.on_get h
  | _ => rfl
theorem FSq.after_len {s : FSq} {o : Oper} {e : Ef} (h : ∀ b, e.wid = some b → b < s.H.length) : (s.after o e).H.length = s.H.length := by
  cases e with
  | val k nid d wr ids => exact Wr.on_length h
  | call k d wr => exact Wr.on_length h
  | _ => rfl

/-- What an operation can do it can do behind another one that is apart from it, and the other way round. -/
theorem Can.later {P : Program} {tab : Tab} {n : Nat} {all : List Oper} {sp : Nat} {o o' : Oper} {s : FSq} {e e' : Ef} (hd : ∀ k, o'.dst = some k → k ∉ o.looksAt all.toArray) (hw : ∀ b, e'.wid = some b → b < s.H.length) (hi : ∀ b, e'.wid = some b → b ∉ e.ids) :
    Can P tab n all sp o (s.after o' e') e ↔ Can P tab n all sp o s e := by
  obtain ⟨d0, hL0⟩ := FSq.after_L (s := s) (o := o') (e := e')
  have hW : wantedF all (s.after o' e').L o = wantedF all s.L o := by rw [hL0]; exact wantedF_put hd
  have hE : ∀ x, x ∈ o.op.operands → ∀ t, evalF tab (s.after o' e').L t x = evalF tab s.L t x := fun x hx t => by rw [hL0]; exact evalF_put (fun k hk e => by subst e; exact hd k hk (looks_op hx)) t
  have hI : opIds tab (s.after o' e').L o = opIds tab s.L o := by
    unfold opIds
    have : ∀ l : List Operand, (∀ x ∈ l, x ∈ o.op.operands) → (l.flatMap fun x => topIds (evalF tab (s.after o' e').L 0 x)) = l.flatMap fun x => topIds (evalF tab s.L 0 x) := fun l => by
      induction l with
      | nil => intro _; rfl
      | cons x l ih =>
        intro h
        simp only [List.flatMap_cons]
        rw [hE x (h x (by simp)) 0, ih fun y hy => h y (List.mem_cons_of_mem _ hy)]
    exact this _ fun x hx => seenBy_sub hx
  have hlen := FSq.after_len (s := s) (o := o') (e := e') hw
  cases e with
  | skip => simp only [Can, hW]
  | call k d wr =>
    simp only [Can, hW, hlen]
    refine and_congr_right fun _ => and_congr_right fun _ => and_congr_right fun _ => ?_
    have key : ∀ (f : Operand) (args : Array Operand) (ts : Array TypeId), o.op = .call { callee := .value f, args := args, argTypes := ts } → evalF tab (s.after o' e').L 0 f = evalF tab s.L 0 f ∧
        ((args.toList.zip (ts.toList ++ List.replicate args.size 0)).map fun p => evalF tab (s.after o' e').L p.2 p.1) = (args.toList.zip (ts.toList ++ List.replicate args.size 0)).map fun p => evalF tab s.L p.2 p.1 := fun f args ts ho => by
      refine ⟨hE f (by rw [ho]; simp [Op.operands, Call.operands]) 0, List.map_congr_left fun p hp => hE p.1 ?_ p.2⟩
      rw [ho]
      have := List.of_mem_zip (a := p.1) (b := p.2) (by simpa using hp)
      simp [Op.operands, Call.operands]
      exact .inr (by simpa using this.1)
    constructor
    · rintro ⟨f, args, ts, g, caps, h1, h2, h3⟩
      obtain ⟨k1, k2⟩ := key f args ts h1
      exact ⟨f, args, ts, g, caps, h1, by rw [← k1]; exact h2, by rw [← k2]; exact h3⟩
    · rintro ⟨f, args, ts, g, caps, h1, h2, h3⟩
      obtain ⟨k1, k2⟩ := key f args ts h1
      exact ⟨f, args, ts, g, caps, h1, by rw [k1]; exact h2, by rw [k2]; exact h3⟩
  | val k nid d wr ids =>
    simp only [Can, hW, hI, hlen]
    have hcong : ids = opIds tab s.L o → opA tab (evalF tab (s.after o' e').L) nid (sp + k) (s.after o' e').H o = opA tab (evalF tab s.L) nid (sp + k) s.H o := fun hids =>
      opA_congr hE fun b hb => FSq.after_get fun e => hi b e (by show b ∈ ids; rw [hids, ← hI]; exact hb)
    constructor
    · rintro ⟨h1, h2, h3, h4, h5, h6, h7, h8⟩
      exact ⟨h1, h2, h3, by rw [← hcong h7]; exact h4, h5, h6, h7, h8⟩
    · rintro ⟨h1, h2, h3, h4, h5, h6, h7, h8⟩
      exact ⟨h1, h2, h3, by rw [hcong h7]; exact h4, h5, h6, h7, h8⟩

theorem Can.wid {P : Program} {tab : Tab} {n : Nat} {all : List Oper} {sp : Nat} {o : Oper} {s : FSq} {e : Ef} (h : Can P tab n all sp o s e) : ∀ b, e.wid = some b → b < s.H.length := by
  cases e with
  | val k nid d wr ids => exact h.2.2.2.2.2.1
  | call k d wr => exact h.2.2.1
  | _ => intro b hb; cases hb

theorem FSq.after_comm {s : FSq} {o o' : Oper} {e e' : Ef} (hd : ∀ d, o.dst = some d → o'.dst ≠ some d) (h : ∀ b, e.wid = some b → b < s.H.length) (h' : ∀ b, e'.wid = some b → b < s.H.length) (hne : ∀ b, e.wid = some b → e'.wid ≠ some b) :
    (s.after o e).after o' e' = (s.after o' e').after o e := by
  cases e <;> cases e' <;> simp only [FSq.after, FSq.mk.injEq] <;> refine ⟨putF_comm _ _ _ hd, ?_⟩ <;> first
    | trivial
    | rfl
    | exact Wr.on_comm h h' hne

/-- Two operations side by side change places. -/
theorem Can.swap {P : Program} {tab : Tab} {n : Nat} {all : List Oper} {sp : Nat} {o o' : Oper} {s : FSq} {e e' : Ef} (hap : o.apart all.toArray o' = true) (hE : apartE e e') (h : Can P tab n all sp o s e) (h' : Can P tab n all sp o' (s.after o e) e') :
    Can P tab n all sp o' s e' ∧ Can P tab n all sp o (s.after o' e') e ∧ (s.after o' e').after o e = (s.after o e).after o' e' := by
  obtain ⟨a1, a2, a3⟩ := Oper.apart_spec hap
  have hw := h.wid
  have c1 : Can P tab n all sp o' s e' := (Can.later a1 hw fun b hb => (hE.1 b hb).1).1 h'
  have hw' := c1.wid
  exact ⟨c1, (Can.later a3 hw' hE.2).2 h, (FSq.after_comm a2 hw hw' fun b hb => (hE.1 b hb).2).symm⟩

/-- A road through operations. -/
def Road (P : Program) (tab : Tab) (n : Nat) (all : List Oper) (sp : Nat) : List (Oper × Ef) → FSq → FSq → Prop
  | [], s, s' => s = s'
  | (o, e) :: r, s, s' => Can P tab n all sp o s e ∧ Road P tab n all sp r (s.after o e) s'

/-- An operation that is apart from all before it may come first. -/
theorem Road.front {P : Program} {tab : Tab} {n : Nat} {all : List Oper} {sp : Nat} {x : Oper × Ef} : ∀ {l r : List (Oper × Ef)} {s s' : FSq}, (∀ y ∈ l, y.1.apart all.toArray x.1 = true ∧ apartE y.2 x.2) → Road P tab n all sp (l ++ x :: r) s s' → Road P tab n all sp (x :: (l ++ r)) s s'
  | [], r, s, s', _, h => h
  | y :: l, r, s, s', ha, h => by
    obtain ⟨hy, hr⟩ := h
    obtain ⟨hx, hr'⟩ := Road.front (fun z hz => ha z (List.mem_cons_of_mem _ hz)) hr
    obtain ⟨a1, a2⟩ := ha y (by simp)
    obtain ⟨k1, k2, k3⟩ := Can.swap a1 a2 hy hx
    exact ⟨k1, k2, by rw [k3]; exact hr'⟩
end Go.Proofs.Ytcjmknmlfggblaa.T
end

/- Regions that draw their order: the walk. -/
section
namespace Go.Proofs.Ytcjmknmlfggblaa.T
open Go Go.RowKit

def SimF (w0 : World) (F : Mem) (G : Ghost) (T n : Nat) (s : FSq) (a : Act) (w : World) : Prop := (Rel w0 F G s.H T w ∧ s.H.length < G.length) ∧ (a.tmps.size = n ∧ ∀ k, Rep F G (s.L k) (a.tmps.getD k undef)) ∧ a.defers = []

section
variable {P : Program} {tab : Tab} {w0 : World} {F : Mem} {G : Ghost} {T n : Nat} {s : FSq} {a : Act} {w : World}

theorem SimF.eval (h : SimF w0 F G T n s a w) (t : TypeId) (x : Operand) : Rep F G (evalF tab s.L t x) (a.eval x) := by
  cases x with
  | tmp k => exact h.2.1.2 k
  | const v => exact Rep_constD _ _ _ _ _
  | func f => simp only [evalF, Rep]; exact ⟨[], rfl, by simp [RepL]⟩
  | global g => simp only [evalF, Rep]

theorem SimF.put {F' : Mem} {G' : Ghost} {H' : Hp} {w' : World} (h : SimF w0 F G T n s a w) (hF : F.le F') (hG : Ghost.le G.length G G') (hR : Rel w0 F' G' H' T w' ∧ H'.length < G'.length) {dst : Option Tmp} {d : D} {u : Value} (hk : dst.getD 0 < n) (hd : Rep F' G' d u) :
    SimF w0 F' G' T n ⟨putF s.L dst d, H'⟩ (a.put dst u) w' := by
  obtain ⟨_, ⟨h1, h2⟩, h3⟩ := h
  cases dst with
  | none => exact ⟨hR, ⟨h1, fun k => Rep.mono hF hG _ _ (h2 k)⟩, h3⟩
  | some k =>
    simp only [Option.getD_some] at hk
    refine ⟨hR, ⟨by simp [Act.put, h1], fun j => ?_⟩, h3⟩
    simp only [putF, Act.put]
    rw [Array.getD_eq_getD_getElem?]
    by_cases e : k = j
    · subst e
      rw [if_pos rfl]
      simp [h1, hk]
      exact hd
    · rw [if_neg e, Array.getElem?_setIfInBounds_ne e, ← Array.getD_eq_getD_getElem?]
      exact Rep.mono hF hG _ _ (h2 j)

theorem wantedF_of {all : List Oper} (h : SimF w0 F G T n s a w) {o : Oper} {b : Bool} (hw : wantedF all s.L o = some b) : Region.wanted o (yielded all.toArray a.tmps) = b := by
  unfold wantedF at hw
  unfold Region.wanted
  split at hw
  · rename_i hg; cases hw; rw [hg]
  · rename_i j want hg
    rw [hg]
    split at hw
    · rename_i k hk
      have hv := h.2.1.2 k
      unfold guardD at hw
      split at hw
      · rename_i d want' q hq
        cases hw
        rw [hq] at hv
        simp only [Rep] at hv
        have hy : yielded all.toArray a.tmps j = some q := by
          unfold yielded
          unfold slotOf at hk
          rw [List.getElem?_toArray, hk]
          rw [Array.getD_eq_getD_getElem?] at hv
          cases ht : a.tmps[k]? with
          | none => rw [ht] at hv; simp [undef] at hv
          | some y => rw [ht] at hv; simp at hv; subst hv; simp [ht]
        simp only [hy]
        have e : ∀ q w : Bool, (some q == some w) = (q == w) := by decide
        exact e _ _
      · rename_i d want' q hq
        cases hw
        rw [hq] at hv
        simp only [Rep] at hv
        have hy : yielded all.toArray a.tmps j = none := by
          unfold yielded
          unfold slotOf at hk
          rw [List.getElem?_toArray, hk]
          rw [Array.getD_eq_getD_getElem?] at hv
          cases ht : a.tmps[k]? with
          | none => simp [ht]
          | some y => rw [ht] at hv; simp at hv; subst hv; simp [ht]
        simp only [hy]
        have e : ∀ w : Bool, (none == some w) = false := by decide
        exact e _
      · cases hw
    · cases hw

def Ef.pid : Ef → Option Nat
  | .val _ _ _ wr _ => wr.pid
  | .call _ _ wr => wr.pid
  | _ => none

theorem argsF_rep (h : SimF w0 F G T n s a w) (_ts : List TypeId) : ∀ (xs : List Operand) (ts : List TypeId), xs.length ≤ ts.length → RepL F G ((xs.zip ts).map fun p => evalF tab s.L p.2 p.1) (xs.map a.eval)
  | [], ts, _ => by simp [RepL]
  | x :: xs, [], hl => by simp at hl
  | x :: xs, t :: ts, hl => by
    simp only [List.zip_cons_cons, List.map_cons, RepL]
    exact ⟨_, _, rfl, h.eval t x, argsF_rep h ts xs ts (by simpa using hl)⟩

/-- One operation of a region whose order is drawn. -/
theorem can_sound (hT : Tab.Ok P tab) {all : List Oper} {sp : Nat} (h : SimF w0 F G T n s a w) {i : Nat} {o : Oper} (ho : all[i]? = some o) {e : Ef} (hsp : sp + e.k ≤ T) (hc : Can P tab n all sp o s e) (hp : ∀ b, e.pid = some b → ∀ p, G[b]? = some p → p.g < sp + e.k) {K : Act → World → Prop} {Q : Exit → Act → World → Prop}
    (hK : ∀ F' G' a' w', Onw w0 F G F' G' → (∀ i, e.pid ≠ some i → G'[i]? = G[i]?) → (∀ b, e.pid = some b → ∀ p, G'[b]? = some p → p.g = sp + e.k) → SimF w0 F' G' T n (s.after o e) a' w' → K a' w') : wpOp P all.toArray Q i K a w := by
  unfold wpOp
  rw [List.getElem?_toArray, ho]
  simp only
  cases e with
  | skip =>
    obtain ⟨hk, hw⟩ := hc
    rw [wantedF_of h hw]
    simp only [Bool.false_eq_true, if_false]
    exact hK F G _ _ (.refl _ _ _) (fun _ _ => rfl) (fun b hb => by cases hb) (h.put (.refl _) (.refl _ _) h.1 hk (Rep_v _ _ _))
  | val k nid d wr ids =>
    obtain ⟨hk, hw, hnc, hop, hnid, hid, _, hwg⟩ := hc
    simp only [Ef.k] at hsp hp
    rw [wantedF_of h hw, if_pos rfl]
    left
    obtain ⟨pn, hpn⟩ : ∃ p, G[nid]? = some p := ⟨_, List.getElem?_eq_getElem (Nat.lt_of_le_of_lt hnid h.1.2)⟩
    obtain ⟨nx, u, F', G', w', hr, hnx, e1, e2, ⟨e3, e3'⟩, e4, e5⟩ := opA_sound (w := w) hT h.1.1 (fun t x => h.eval t x) rfl hnid hpn (fun b bl e => ⟨hsp, fun p hpb => hp b (by simp [Ef.pid, e, Wr.pid]) p hpb⟩) hop
    have hlen : G.length ≤ G'.length := by
      rcases Nat.lt_or_ge G'.length G.length with hlt | hge
      · obtain ⟨q, hq⟩ : ∃ q, G[G'.length]? = some q := ⟨_, List.getElem?_eq_getElem hlt⟩
        obtain ⟨r, hr', _⟩ := e3 G'.length q hlt hq
        rw [List.getElem?_eq_none (Nat.le_refl _)] at hr'; cases hr'
      · exact hge
    have fin : K (a.put o.dst u) w' := hK F' G' _ _ ⟨e1, e2, e3, hlen⟩ e3' (fun b hb p hpb => by
      simp only [Ef.pid] at hb
      cases wr with
      | put b' bl =>
        simp only [Wr.pid, Option.some.injEq] at hb
        subst hb
        simp only [Wr.on] at e4
        have hbl : b' ≤ s.H.length := Nat.le_of_lt (hid b' rfl)
        obtain ⟨q, hq, hql⟩ := e4.own b' bl (setH_self bl hbl)
        rw [hpb] at hq; cases hq
        rw [hql.1]
        simpa [wrG, Ef.k] using hwg
      | _ => cases hb) (h.put e1 e3 ⟨e4, by show (wr.on s.H).length < _; rw [Wr.on_length hid]; exact Nat.lt_of_lt_of_le h.1.2 hlen⟩ hk e5)
    unfold Oper.wp
    rw [hr]
    rcases hnx with rfl | ⟨rfl, rfl⟩
    · exact fin
    · exact fin
  | call k d wr =>
    obtain ⟨hk, hw, hid, f, args, ts, g, caps, hop, hf, hpr⟩ := hc
    simp only [Ef.k] at hsp hp
    rw [wantedF_of h hw, if_pos rfl]
    left
    have hv := h.eval (tab := tab) 0 f
    rw [hf] at hv
    simp only [Rep] at hv
    obtain ⟨vs, hfv, hL⟩ := hv
    have hargs := (argsF_rep (tab := tab) h [] args.toList (ts.toList ++ List.replicate args.size 0) (by simp)).append hL
    have hargs' := RepL_map (F' := F) (G' := G) (f := ufa) (fun d u _ hd => Rep.ufa hd) hargs
    have hrun : (execOp a.eval o).run P w = (callFunc g (args.toList.map a.eval ++ vs).toArray).run P w := by
      unfold execOp
      rw [hop]
      have e : (args.map a.eval ++ vs.toArray) = (args.toList.map a.eval ++ vs).toArray := by apply Array.ext'; simp
      simp only [resolve, hfv, Deferred.ofValue, invoke, Sem.run_bind, Sem.run_pure, Result.andThen_ok, Array.empty_append, e]
    rcases hpr with ⟨rfl, hpr⟩ | ⟨nid, ty, sz, m, cells, rfl, rfl, hpr⟩
    · rcases hpr F G w _ h.1.1.mem hargs' with ⟨hc, hcalls⟩ | ⟨u0, hu0, hx⟩
      · unfold Oper.wp
        rw [hrun, callFunc_run hc, Oper.upon_enter]
        refine hcalls.mono fun e w' hx => ?_
        obtain ⟨F', u, rfl, h1, h2, h3, h4, h5⟩ := hx
        exact hK F' G _ _ ⟨h1, fun b o hb => h2 b o (by have := h.1.1.below.size; omega), .refl _ _, Nat.le_refl _⟩ (fun _ _ => rfl) (fun b hb => by cases hb) (h.put h1 (.refl _ _) ⟨h.1.1.frame h5 h1 h3 h2, h.1.2⟩ hk (Rep.mono (.refl _) (Ghost.le_nil G) d u h4))
      · obtain ⟨F', u, e, h1, h2, h3, h4, h5⟩ := hx
        cases e
        unfold Oper.wp
        rw [hrun, hu0]
        exact hK F' G _ _ ⟨h1, fun b o hb => h2 b o (by have := h.1.1.below.size; omega), .refl _ _, Nat.le_refl _⟩ (fun _ _ => rfl) (fun b hb => by cases hb) (h.put h1 (.refl _ _) ⟨h.1.1.frame h5 h1 h3 h2, h.1.2⟩ hk (Rep.mono (.refl _) (Ghost.le_nil G) d _ h4))
    · have hn : nid < s.H.length := hid nid rfl
      obtain ⟨p0, hp0⟩ : ∃ p, G[nid]? = some p := ⟨_, List.getElem?_eq_getElem (Nat.lt_trans hn h.1.2)⟩
      have hlt := hp nid rfl p0 hp0
      have fin : ∀ u w', (∃ F' u' p, Ending.returned u = .returned u' ∧ F.le F' ∧ (∀ b o, b < w.heap.size → F' b o = F b o) ∧ F'.at_ w' ∧ Below w.heap.size w w' ∧ Lies w F' [] w' ⟨ty, p.g, cells⟩ p ∧ Rep F' [p] (.own sz 0 p.g 0 m) u') → K (a.put o.dst u) w' := fun u w' hx => by
        obtain ⟨F', u', p, e, h1, h2, h3, h4, h5, h6⟩ := hx
        cases e
        obtain ⟨k1, k2⟩ := h.1.1.fresh (t' := T) (sp := sp + k) (Nat.le_refl _) hsp (Nat.le_of_lt hn) hp0 hlt h1 h2 h3 h4 h5 h6
        have hset : (setH s.H nid ⟨ty, sp + k, cells⟩).length = s.H.length := by unfold setH; rw [if_neg (by omega)]; simp
        refine hK F' _ _ _ ⟨h1, fun b o hb => h2 b o (by have := h.1.1.below.size; omega), Ghost.le_set hp0 (.inr hlt) _, by simp⟩ (fun i hi => ?_) (fun b hb p hpb => ?_) (h.put h1 (Ghost.le_set hp0 (.inr hlt) _) ⟨k1, by rw [hset]; simpa using h.1.2⟩ hk k2)
        · rw [List.getElem?_set_ne]
          intro e; subst e; exact hi rfl
        · simp only [Ef.pid, Wr.pid, Option.some.injEq] at hb
          subst hb
          rw [List.getElem?_set_self (List.getElem?_eq_some_iff.1 hp0).1] at hpb
          cases hpb
          rfl
      rcases hpr F G w _ h.1.1.mem hargs' with ⟨hc, hcalls⟩ | ⟨u0, hu0, hx⟩
      · unfold Oper.wp
        rw [hrun, callFunc_run hc, Oper.upon_enter]
        refine hcalls.mono fun e w' hx => ?_
        obtain ⟨F', u, p, rfl, hx⟩ := hx
        exact fin u w' ⟨F', u, p, rfl, hx⟩
      · unfold Oper.wp
        rw [hrun, hu0]
        exact fin u0 w hx
end

/-- What a road through a region must be for every order to be as good. -/
def depOn (o : Oper) (i : Nat) : Bool := o.after.any fun e => Region.binds .any e && e.on == i

theorem depOn_spec {o : Oper} {i : Nat} (h : depOn o i = true) : ∃ e ∈ o.after, Region.binds .any e = true ∧ e.on = i := by
  simp only [depOn, Array.any_eq_true'] at h
  obtain ⟨e, he, h⟩ := h
  simp only [Bool.and_eq_true, beq_iff_eq] at h
  exact ⟨e, he, h.1, h.2⟩

/-- An operation waits for another one, over others. -/
def depT (all : List Oper) : Nat → Oper → Nat → Bool
  | 0, o, i => depOn o i
  | f + 1, o, i => depOn o i || o.after.any fun e => Region.binds .any e && (match all[e.on]? with | some o' => depT all f o' i | none => false)
theorem depT_listed {all : List Oper} {listed : Array Bool} (hdc : ∀ i o, all[i]? = some o → listed.getD i false = true → ∀ e ∈ o.after, Region.binds .any e = true → listed.getD e.on false = true) :
    ∀ (f : Nat) (o : Oper) (i : Nat), (∀ e ∈ o.after, Region.binds .any e = true → listed.getD e.on false = true) → depT all f o i = true → listed.getD i false = true
  | 0, o, i, h, hd => by
    obtain ⟨e, he, hb, rfl⟩ := depOn_spec hd
    exact h e he hb
  | f + 1, o, i, h, hd => by
    simp only [depT, Bool.or_eq_true] at hd
    rcases hd with hd | hd
    · obtain ⟨e, he, hb, rfl⟩ := depOn_spec hd
      exact h e he hb
    · simp only [Array.any_eq_true'] at hd
      obtain ⟨e, he, hd⟩ := hd
      simp only [Bool.and_eq_true] at hd
      obtain ⟨hb, hd⟩ := hd
      split at hd
      · rename_i o' ho'
        exact depT_listed hdc f o' i (fun e' he' hb' => hdc e.on o' ho' (h e he hb) e' he' hb') hd
      · cases hd

theorem drawn_sound {P : Program} {tab : Tab} (hT : Tab.Ok P tab) {all : List Oper} {sp T n : Nat} (hedge : ∀ i o, all[i]? = some o → ∀ e ∈ o.after, Region.binds .any e = true → e.on < i) {w0 : World} {F0 : Mem} {G0 : Ghost} {s' : FSq} {Q : Exit → Act → World → Prop}
    (hQ : ∀ F' G' a' w', Onw w0 F0 G0 F' G' → SimF w0 F' G' T n s' a' w' → Q .normal a' w') : ∀ (fuel : Nat) (rem : List (Nat × Oper × Ef)) (listed : Array Bool) (s : FSq) (F : Mem) (G : Ghost) (a : Act) (w : World),
    (∀ x ∈ rem, all[x.1]? = some x.2.1) → rem.Pairwise (fun x y => x.1 < y.1) → (∀ i, (∃ x ∈ rem, x.1 = i) ↔ i < all.length ∧ listed.getD i true = false) → listed.size = all.length →
    (∀ i o, all[i]? = some o → listed.getD i false = true → ∀ e ∈ o.after, Region.binds .any e = true → listed.getD e.on false = true) → rem.Pairwise (fun x y => depT all 3 y.2.1 x.1 = true ∨ (x.2.1.apart all.toArray y.2.1 = true ∧ apartE x.2.2 y.2.2)) → rem.Pairwise (fun x y => ∀ b, x.2.2.pid = some b → y.2.2.pid = some b → depT all 3 y.2.1 x.1 = true ∧ x.2.2.k < y.2.2.k) → (∀ x ∈ rem, sp + x.2.2.k ≤ T ∧ ∀ b, x.2.2.pid = some b → ∀ p, G[b]? = some p → p.g < sp + x.2.2.k) →
    Road P tab n all sp (rem.map (·.2)) s s' → SimF w0 F G T n s a w → Onw w0 F0 G0 F G → rem.length ≤ fuel → wpAny P .any all.toArray Q fuel listed a w := by
  intro fuel
  induction fuel with
  | zero =>
    intro rem listed s F G a w h1 h2 h3 h4 hdc h5 h6 h7 h8 h9 h10 h11
    have hr : rem = [] := List.eq_nil_of_length_eq_zero (by omega)
    subst hr
    have hnone : Region.ready .any all.toArray listed = [] := by
      apply List.eq_nil_iff_forall_not_mem.2
      intro i hi
      obtain ⟨hu, o, ho, _⟩ := mem_ready.1 hi
      have hlt : i < all.length := by simpa using (Array.getElem?_eq_some_iff.1 ho).1
      obtain ⟨x, hx, _⟩ := (h3 i).2 ⟨hlt, hu⟩
      cases hx
    refine ⟨hnone, ?_⟩
    simp only [List.map_nil, Road] at h8
    subst h8
    exact hQ F G a w h10 h9
  | succ fuel ih =>
    intro rem listed s F G a w h1 h2 h3 h4 hdc h5 h6 h7 h8 h9 h10 h11
    have listedD : ∀ i, i < all.length → listed.getD i true = true → listed.getD i false = true := fun i hi h => by
      simpa [Array.getD, h4, hi] using h
    refine ⟨fun hnone => ?_, fun j hj => ?_⟩
    · cases rem with
      | nil => simp only [List.map_nil, Road] at h8; subst h8; exact hQ F G a w h10 h9
      | cons x r =>
        exfalso
        obtain ⟨hlt, hu⟩ := (h3 x.1).1 ⟨x, by simp, rfl⟩
        have : x.1 ∈ Region.ready .any all.toArray listed := by
          refine mem_ready.2 ⟨hu, x.2.1, by simpa using h1 x (by simp), fun e he hb => ?_⟩
          have hlt' := hedge x.1 x.2.1 (h1 x (by simp)) e he hb
          refine listedD _ (by omega) ?_
          cases hc : listed.getD e.on true with
          | true => rfl
          | false =>
            obtain ⟨y, hy, hye⟩ := (h3 e.on).2 ⟨by omega, hc⟩
            rcases List.mem_cons.1 hy with rfl | hy
            · omega
            · have := (List.pairwise_cons.1 h2).1 y hy; omega
        rw [hnone] at this; cases this
    · obtain ⟨hu, o, ho, hall⟩ := mem_ready.1 hj
      have hlt : j < all.length := by simpa using (Array.getElem?_eq_some_iff.1 ho).1
      obtain ⟨x, hx, rfl⟩ := (h3 j).2 ⟨hlt, hu⟩
      obtain ⟨l, r, rfl⟩ := List.append_of_mem hx
      have hxo : all[x.1]? = some x.2.1 := h1 x (by simp)
      have ho' : o = x.2.1 := by rw [List.getElem?_toArray, hxo] at ho; exact (Option.some.inj ho).symm
      subst ho'
      have hpre : ∀ y ∈ l.map (·.2), y.1.apart all.toArray x.2.1 = true ∧ apartE y.2 x.2.2 := fun y hy => by
        obtain ⟨z, hz, rfl⟩ := List.mem_map.1 hy
        have hpz := (List.pairwise_append.1 h5).2.2 z hz x (by simp)
        rcases hpz with hdep | hap
        · exfalso
          have hl := depT_listed hdc 3 x.2.1 z.1 hall hdep
          obtain ⟨hzl, hzu⟩ := (h3 z.1).1 ⟨z, by simp [hz], rfl⟩
          have : listed.getD z.1 true = true := by simpa [Array.getD, h4, hzl] using hl
          rw [this] at hzu; cases hzu
        · exact hap
      have hroad := Road.front (x := x.2) (l := l.map (·.2)) (r := r.map (·.2)) hpre (by simpa using h8)
      obtain ⟨hcan, hroad⟩ := hroad
      refine can_sound hT h9 hxo (h7 x (by simp)).1 hcan (h7 x (by simp)).2 fun F' G' a' w' onw hG' hGx hs' => ?_
      refine ih (l ++ r) _ (s.after x.2.1 x.2.2) F' G' a' w' (fun y hy => h1 y ?_) ?_ (fun i => ?_) (by simp [h4]) (fun i o hio hli e he hb => ?_) ?_ ?_ (fun y hy => ⟨(h7 y (by rcases List.mem_append.1 hy with h | h <;> simp [h])).1, fun b hb p hp => ?_⟩) (by simpa using hroad) hs' (h10.trans onw) (by simp at h11 ⊢; omega)
      · rcases List.mem_append.1 hy with h | h <;> simp [h]
      · exact h2.sublist (by simp)
      · have hset : (listed.setIfInBounds x.1 true).getD i true = if x.1 = i then true else listed.getD i true := by
          by_cases e : x.1 = i
          · subst e; rw [if_pos rfl]; simp [Array.getD, h4, hlt]
          · rw [if_neg e]; exact getD_set_ne true e
        rw [hset]
        constructor
        · rintro ⟨y, hy, rfl⟩
          have hyx : x.1 ≠ y.1 := by
            rcases List.mem_append.1 hy with h | h
            · have := (List.pairwise_append.1 h2).2.2 y h x (by simp); omega
            · have := (List.pairwise_cons.1 (List.pairwise_append.1 h2).2.1).1 y h; omega
          rw [if_neg hyx]
          refine (h3 y.1).1 ⟨y, ?_, rfl⟩
          rcases List.mem_append.1 hy with h | h <;> simp [h]
        · rintro ⟨hi, hu'⟩
          by_cases e : x.1 = i
          · rw [if_pos e] at hu'; cases hu'
          · rw [if_neg e] at hu'
            obtain ⟨y, hy, rfl⟩ := (h3 i).2 ⟨hi, hu'⟩
            refine ⟨y, ?_, rfl⟩
            rcases List.mem_append.1 hy with h | h
            · simp [h]
            · rcases List.mem_cons.1 h with rfl | h
              · exact absurd rfl e
              · simp [h]
      · have up : ∀ j, listed.getD j false = true → (listed.setIfInBounds x.1 true).getD j false = true := fun j hj => by
          by_cases e : x.1 = j
          · subst e; simp [Array.getD, h4, hlt]
          · rw [getD_set_ne false e]; exact hj
        refine up _ ?_
        by_cases ei : x.1 = i
        · subst ei
          rw [hxo] at hio; cases hio
          exact hall e he hb
        · rw [getD_set_ne false ei] at hli
          exact hdc i o hio hli e he hb
      · exact h5.sublist (by simp)
      · exact h6.sublist (by simp)
      · by_cases hxb : x.2.2.pid = some b
        · rw [hGx b hxb p hp]
          rcases List.mem_append.1 hy with h | h
          · exfalso
            have hdep := ((List.pairwise_append.1 h6).2.2 y h x (by simp) b hb hxb).1
            have hl := depT_listed hdc 3 x.2.1 y.1 hall hdep
            obtain ⟨hzl, hzu⟩ := (h3 y.1).1 ⟨y, by simp [h], rfl⟩
            have : listed.getD y.1 true = true := by simpa [Array.getD, h4, hzl] using hl
            rw [this] at hzu; cases hzu
          · have := ((List.pairwise_cons.1 (List.pairwise_append.1 h6).2.1).1 y h b hxb hb).2
            omega
        · rw [hG' b hxb] at hp
          exact (h7 y (by rcases List.mem_append.1 hy with h | h <;> simp [h])).2 b hb p hp
end Go.Proofs.Ytcjmknmlfggblaa.T
end

/- Regions that draw their order: how they are walked. -/
section
namespace Go.Proofs.Ytcjmknmlfggblaa.T
open Go Go.RowKit

/-- What an operation left behind: the block that it made, the block that it wrote, the blocks that it looked at. -/
structure Fp where
  pid : Option Nat
  wid : Option Nat
  ids : List Nat
  k : Nat
def Fp.no : Fp := ⟨none, none, [], 0⟩
def Ef.fp : Ef → Fp
  | .val k _ _ wr ids => ⟨wr.pid, wr.id, ids, k⟩
  | .call k _ wr => ⟨wr.pid, wr.id, [], k⟩
  | _ => .no
def offB (w : Option Nat) (ids : List Nat) : Bool := match w with
  | some b => !ids.contains b
  | none => true
def apB (x y : Fp) : Bool := offB x.wid y.ids && offB y.wid x.ids && offB x.wid y.wid.toList
theorem fp_wid (e : Ef) : e.fp.wid = e.wid := by cases e <;> rfl
theorem fp_ids (e : Ef) : e.fp.ids = e.ids := by cases e <;> rfl
theorem apB_spec {e e' : Ef} (h : apB e.fp e'.fp = true) : apartE e e' := by
  simp only [apB, Bool.and_eq_true, fp_wid, fp_ids] at h
  obtain ⟨⟨h1, h2⟩, h3⟩ := h
  refine ⟨fun b hb => ?_, fun b hb => ?_⟩
  · rw [hb] at h1 h3
    simp only [offB, Bool.not_eq_true', List.contains_eq_mem, decide_eq_false_iff_not] at h1 h3
    exact ⟨h1, fun e => by rw [e] at h3; simp at h3⟩
  · rw [hb] at h2
    simp only [offB, Bool.not_eq_true', List.contains_eq_mem, decide_eq_false_iff_not] at h2
    exact h2
def pairB (all : List Oper) (x y : Nat × Oper × Fp) : Bool := (depOn y.2.1 x.1 || ((x.2.1.apart all.toArray y.2.1 && apB x.2.2 y.2.2) || depT all 3 y.2.1 x.1)) && (offB x.2.2.pid y.2.2.pid.toList || (depT all 3 y.2.1 x.1 && decide (x.2.2.k < y.2.2.k)))
def pairsB (all : List Oper) : List (Nat × Oper × Fp) → Bool
  | [] => true
  | x :: r => r.all (pairB all x) && pairsB all r
def number (k : Nat) : List Oper → List Fp → List (Nat × Oper × Fp)
  | o :: os, f :: fs => (k, o, f) :: number (k + 1) os fs
  | _, _ => []
def edgesB : Nat → List Oper → Bool
  | _, [] => true
  | i, o :: r => (o.after.all fun e => !Region.binds .any e || decide (e.on < i)) && edgesB (i + 1) r
theorem edgesB_spec : ∀ {l : List Oper} {k : Nat}, edgesB k l = true → ∀ i o, l[i]? = some o → ∀ e ∈ o.after, Region.binds .any e = true → e.on < k + i
  | [], k, _, i, o, h => by simp at h
  | x :: r, k, h, i, o, ho => by
    simp only [edgesB, Bool.and_eq_true] at h
    cases i with
    | zero =>
      simp at ho; subst ho
      intro e he hb
      have := (Array.all_eq_true_iff_forall_mem.1 h.1) e he
      rw [hb] at this
      simpa using this
    | succ i =>
      intro e he hb
      have := edgesB_spec h.2 i o (by simpa using ho) e he hb
      omega

/-- Every order is as good as the text's. -/
def anyB (all : List Oper) (fps : List Fp) : Bool := edgesB 0 all && pairsB all (number 0 all fps)

/-- Blocks may be taken for one and the same: more is then asked for. -/
def Fp.map (φ : Nat → Nat) (f : Fp) : Fp := ⟨f.pid.map φ, f.wid.map φ, f.ids.map φ, f.k⟩
theorem offB_map {φ : Nat → Nat} {w : Option Nat} {ids : List Nat} (h : offB (w.map φ) (ids.map φ) = true) : offB w ids = true := by
  cases w with
  | none => rfl
  | some b =>
    simp only [Option.map_some, offB, Bool.not_eq_true', List.contains_eq_mem, decide_eq_false_iff_not] at h ⊢
    exact fun hb => h (List.mem_map_of_mem hb)
theorem apB_map {φ : Nat → Nat} {x y : Fp} (h : apB (x.map φ) (y.map φ) = true) : apB x y = true := by
  simp only [apB, Bool.and_eq_true] at h ⊢
  refine ⟨⟨offB_map h.1.1, offB_map h.1.2⟩, offB_map (φ := φ) ?_⟩
  have h2 := h.2
  cases hy : y.wid <;> simpa [Fp.map, hy] using h2
def mapP (φ : Nat → Nat) (x : Nat × Oper × Fp) : Nat × Oper × Fp := (x.1, x.2.1, x.2.2.map φ)
theorem pairB_map {φ : Nat → Nat} {all : List Oper} {x y : Nat × Oper × Fp} (h : pairB all (mapP φ x) (mapP φ y) = true) : pairB all x y = true := by
  simp only [pairB, mapP, Bool.and_eq_true, Bool.or_eq_true] at h ⊢
  refine ⟨?_, ?_⟩
  · rcases h.1 with h | ⟨h1, h2⟩ | h
    · exact .inl h
    · exact .inr (.inl ⟨h1, apB_map h2⟩)
    · exact .inr (.inr h)
  · rcases h.2 with h2 | h2
    · left
      refine offB_map (φ := φ) ?_
      cases hy : y.2.2.pid <;> simpa [Fp.map, hy] using h2
    · exact .inr h2
theorem pairsB_map {φ : Nat → Nat} {all : List Oper} : ∀ {l : List (Nat × Oper × Fp)}, pairsB all (l.map (mapP φ)) = true → pairsB all l = true
  | [], _ => rfl
  | x :: r, h => by
    simp only [List.map_cons, pairsB, Bool.and_eq_true, List.all_eq_true] at h ⊢
    exact ⟨fun y hy => pairB_map (h.1 _ (List.mem_map_of_mem hy)), pairsB_map h.2⟩
theorem number_map (φ : Nat → Nat) : ∀ (k : Nat) (os : List Oper) (fs : List Fp), number k os (fs.map (Fp.map φ)) = (number k os fs).map (mapP φ)
  | k, [], fs => by cases fs <;> rfl
  | k, o :: os, [] => rfl
  | k, o :: os, f :: fs => by simp only [List.map_cons, number, mapP]; rw [number_map φ (k + 1) os fs]
theorem anyB_map (φ : Nat → Nat) {all : List Oper} {fps : List Fp} (h : anyB all (fps.map (Fp.map φ)) = true) : anyB all fps = true := by
  simp only [anyB, Bool.and_eq_true, number_map] at h ⊢
  exact ⟨h.1, pairsB_map h.2⟩
/-- All blocks from number k on are taken for one. -/
def clamp : Nat → Nat → Nat
  | 0, _ => 0
  | _ + 1, 0 => 0
  | k + 1, n + 1 => clamp k n + 1

def nextN (wr : Wr) (nid : Nat) : Nat := match wr with
  | .put b _ => if b = nid then nid + 1 else nid
  | _ => nid
def wrIn (wr : Wr) (H : Hp) : Bool := match wr.id with
  | some b => decide (b < H.length)
  | none => true
def idsL (tab : Tab) (tm : TM) : List Operand → List Nat
  | [] => []
  | x :: xs => topIds (evalD tab tm 0 x) ++ idsL tab tm xs
theorem idsL_eq (tab : Tab) (tm : TM) : ∀ l, idsL tab tm l = l.flatMap fun x => topIds (evalD tab tm 0 x)
  | [] => rfl
  | x :: xs => by rw [idsL, idsL_eq tab tm xs, List.flatMap_cons]
def idsT (tab : Tab) (tm : TM) (op : Op) : List Nat := idsL tab tm (seenBy op)

/-- Every operation has the same stamp to give, or each its own. -/
def kOf : Bool → List Fp → Nat
  | true, acc => acc.length
  | false, _ => 0
def stp : Bool → Nat → List Fp → Nat
  | true, sp, acc => sp + acc.length
  | false, sp, _ => sp
theorem stp_k (inc : Bool) (sp : Nat) (acc : List Fp) : stp inc sp acc = sp + kOf inc acc := by cases inc <;> rfl
/-- The operations of such a region one after the other. -/
def awD (P : Program) (tab : Tab) (n : Nat) (all : List Oper) (inc : Bool) (sp : Nat) (K : List Fp → St → Prop) : List Oper → Nat → List Fp → St → Prop
  | [], _, acc, st => K acc.reverse st
  | o :: rest, nid, acc, st => o.dst.getD 0 < n ∧ match wantedA all st.tm o with
    | none => False
    | some false => awD P tab n all inc sp K rest nid (.no :: acc) (st.put o.dst (.v undef))
    | some true => match o.op with
      | .call { callee := .value f, args := args, argTypes := ts } => match evalD tab st.tm 0 f with
        | .fn g caps => ∃ d wr, PGive P g (((args.toList.zip (ts.toList ++ List.replicate args.size 0)).map fun p => evalD tab st.tm p.2 p.1) ++ caps |>.map ufa) (stp inc sp acc) d wr ∧ wrIn wr st.H = true ∧ awD P tab n all inc sp K rest (nextN wr nid) (⟨wr.pid, wr.id, [], kOf inc acc⟩ :: acc) (St.put ⟨st.tm, wr.on st.H, st.t⟩ o.dst d)
        | _ => False
      | _ => match opA tab (evalD tab st.tm) nid (stp inc sp acc) st.H o with
        | some (d, wr) => nid ≤ st.H.length ∧ wrIn wr st.H = true ∧ wrG wr (stp inc sp acc) = true ∧ awD P tab n all inc sp K rest (nextN wr nid) (⟨wr.pid, wr.id, idsT tab st.tm o.op, kOf inc acc⟩ :: acc) (St.put ⟨st.tm, wr.on st.H, st.t⟩ o.dst d)
        | none => False

def FSq.of (st : St) : FSq := ⟨look st.tm, st.H⟩

def kMax : Bool → Nat → Nat
  | true, n => n
  | false, _ => 0
theorem kOf_le (inc : Bool) (acc : List Fp) (m : Nat) : kOf inc acc ≤ kMax inc (acc.length + m) := by
  cases inc
  · exact Nat.le_refl _
  · exact Nat.le_add_right _ _
/-- The count of stamps behind such a region. -/
def stT : Bool → Nat → Nat → Nat
  | true, t, n => t + 1 + n
  | false, t, _ => t + 1
theorem stT_k (inc : Bool) (t n : Nat) : stT inc t n = t + 1 + kMax inc n := by cases inc <;> rfl
theorem awD_road {P : Program} {tab : Tab} {n : Nat} {all : List Oper} {inc : Bool} {sp : Nat} {K : List Fp → St → Prop} : ∀ (l : List Oper) (nid : Nat) (acc : List Fp) (st : St), awD P tab n all inc sp K l nid acc st →
    ∃ (es : List Ef) (st' : St), es.length = l.length ∧ Road P tab n all sp (l.zip es) (FSq.of st) (FSq.of st') ∧ K (acc.reverse ++ es.map (·.fp)) st' ∧ ∀ e ∈ es, e.k ≤ kMax inc (acc.length + l.length)
  | [], nid, acc, st, h => ⟨[], st, rfl, rfl, by simpa [awD] using h, by simp⟩
  | o :: rest, nid, acc, st, h => by
    unfold awD at h
    obtain ⟨hk, h⟩ := h
    have step : ∀ (e : Ef) (nid' : Nat) (st1 : St), e.k ≤ kMax inc (acc.length + (rest.length + 1)) → Can P tab n all sp o (FSq.of st) e → FSq.of st1 = (FSq.of st).after o e → awD P tab n all inc sp K rest nid' (e.fp :: acc) st1 →
        ∃ (es : List Ef) (st' : St), es.length = (o :: rest).length ∧ Road P tab n all sp ((o :: rest).zip es) (FSq.of st) (FSq.of st') ∧ K (acc.reverse ++ es.map (·.fp)) st' ∧ ∀ e ∈ es, e.k ≤ kMax inc (acc.length + (o :: rest).length) := fun e nid' st1 hek hc hs h => by
      obtain ⟨es, st', h1, h2, h3, h4⟩ := awD_road rest nid' (e.fp :: acc) st1 h
      refine ⟨e :: es, st', by simp [h1], ⟨hc, by rw [← hs]; exact h2⟩, by simpa using h3, fun e' he' => ?_⟩
      rcases List.mem_cons.1 he' with rfl | he'
      · exact hek
      · have := h4 e' he'
        simp only [List.length_cons] at this ⊢
        rwa [show acc.length + 1 + rest.length = acc.length + (rest.length + 1) by omega] at this
    split at h
    · exact h.elim
    · rename_i hw
      refine step .skip nid _ (Nat.zero_le _) ⟨hk, ?_⟩ ?_ h
      · show wantedF all (look st.tm) o = _; rw [wantedF_look]; exact hw
      · simp only [FSq.of, FSq.after, look_put]; cases o.dst <;> rfl
    · rename_i hw
      have hw' : wantedF all (FSq.of st).L o = some true := by show wantedF all (look st.tm) o = _; rw [wantedF_look]; exact hw
      split at h
      · rename_i f args ts ho
        split at h
        · rename_i g caps hf
          obtain ⟨d, wr, hp, hin, h⟩ := h
          refine step (.call (kOf inc acc) d wr) _ _ (kOf_le _ _ _) ⟨hk, hw', fun b hb => ?_, f, args, ts, g, caps, ho, ?_, ?_⟩ ?_ h
          · unfold wrIn at hin; rw [hb] at hin; show b < st.H.length; simpa using hin
          · show evalF tab (look st.tm) 0 f = _; rw [evalF_look]; exact hf
          · rw [← stp_k]; simp only [FSq.of, evalF_look]; exact hp
          · simp only [FSq.of, FSq.after, look_put]; cases o.dst <;> rfl
        · exact h.elim
      · rename_i hnc
        split at h
        · rename_i d wr hop
          obtain ⟨hnid, hin, hwg, h⟩ := h
          refine step (.val (kOf inc acc) nid d wr (idsT tab st.tm o.op)) _ _ (kOf_le _ _ _) ⟨hk, hw', ?_, ?_, hnid, fun b hb => ?_, ?_, by rw [← stp_k]; exact hwg⟩ ?_ h
          · unfold isCallV
            split
            · rename_i f a ts e; exact absurd e (hnc _ _ _)
            · rfl
          · rw [← stp_k]; simp only [FSq.of, evalF_look]; exact hop
          · unfold wrIn at hin; rw [hb] at hin; show b < st.H.length; simpa using hin
          · simp only [FSq.of, opIds, idsT, idsL_eq, evalF_look]
          · simp only [FSq.of, FSq.after, look_put]; cases o.dst <;> rfl
        · exact h.elim

theorem number_zip : ∀ (k : Nat) (l : List Oper) (es : List Ef), es.length = l.length → number k l (es.map (·.fp)) = ((l.zip es).zipIdx k).map fun p => (p.2, p.1.1, p.1.2.fp)
  | k, [], [], _ => rfl
  | k, o :: l, e :: es, h => by simp only [List.map_cons, number, List.zip_cons_cons, List.zipIdx_cons]; rw [number_zip (k + 1) l es (by simpa using h)]
  | k, [], e :: es, h => by simp at h
  | k, o :: l, [], h => by simp at h

theorem pairsB_pairwise {all : List Oper} : ∀ {l : List (Nat × Oper × Fp)}, pairsB all l = true → l.Pairwise fun x y => pairB all x y = true
  | [], _ => .nil
  | x :: r, h => by
    simp only [pairsB, Bool.and_eq_true, List.all_eq_true] at h
    exact List.pairwise_cons.2 ⟨h.1, pairsB_pairwise h.2⟩

/-- A region whose order is drawn. -/
theorem AW_drawn {P : Program} {tab : Tab} (hT : Tab.Ok P tab) (hm : P.follows .mixedOrders = true) {n id : Nat} {ops : List Oper} {Q : Exit → St → Prop} {st : St} (k : Nat) (inc : Bool)
    (h : awD P tab n ops inc (st.t + 1) (fun fps st' => anyB ops fps = true ∧ Q .normal ⟨st'.tm, st'.H, stT inc st.t ops.length⟩) ops st.H.length [] ⟨st.tm, st.H ++ List.replicate k none, st.t⟩) : AW P n (.region id ops.toArray true) Q st := fun w0 F G a w hs => by
  obtain ⟨es, st', h1, h2, ⟨h3, h4⟩, hks⟩ := awD_road ops _ _ _ h
  simp only [List.reverse_nil, List.nil_append] at h3
  simp only [List.length_nil, Nat.zero_add] at hks
  have hTle : st.t ≤ stT inc st.t ops.length := by rw [stT_k]; omega
  simp only [anyB, Bool.and_eq_true] at h3
  obtain ⟨h3a, h3b⟩ := h3
  rw [number_zip 0 ops es h1] at h3b
  have hpw := pairsB_pairwise h3b
  refine wp_region_any hm ?_
  obtain ⟨R, hTR, hd⟩ := hs
  -- places for the blocks to come
  have grow : ∀ (k : Nat) (G : Ghost) (H : Hp), Rel w0 F G H (stT inc st.t ops.length) w → (∀ (i : Nat) (p : Pl), G[i]? = some p → p.g ≤ st.t) → TR F G n st.tm a.tmps → ∃ G', Ghost.le G.length G G' ∧ G.length ≤ G'.length ∧ Rel w0 F G' (H ++ List.replicate k none) (stT inc st.t ops.length) w ∧ (H.length + k < G'.length) ∧ (∀ (i : Nat) (p : Pl), G'[i]? = some p → p.g ≤ st.t) := by
    intro k G H R htop hTR
    have ext : ∀ m, ∃ G', Ghost.le G.length G G' ∧ G'.length = G.length + m ∧ Rel w0 F G' H (stT inc st.t ops.length) w ∧ (∀ (i : Nat) (p : Pl), G'[i]? = some p → p.g ≤ st.t) := by
      intro m
      induction m with
      | zero => exact ⟨G, .refl _ _, rfl, R, htop⟩
      | succ m ih =>
        obtain ⟨G', g1, g2, g3, g4⟩ := ih
        refine ⟨G' ++ [⟨none, 0⟩], g1.trans fun i p hi hp => ⟨p, by rw [List.getElem?_append_left (by omega)]; exact hp, .refl p⟩, by simp [g2]; omega, g3.extend, fun i p hp => ?_⟩
        rcases Nat.lt_or_ge i G'.length with h | h
        · rw [List.getElem?_append_left h] at hp; exact g4 i p hp
        · rw [List.getElem?_append_right h] at hp
          by_cases e : i - G'.length = 0
          · rw [e] at hp; simp at hp; subst hp; exact Nat.zero_le _
          · rw [List.getElem?_eq_none (by simp; omega)] at hp; cases hp
    obtain ⟨G', g1, g2, g3, g4⟩ := ext (k + 1)
    have hlen := R.len
    refine ⟨G', g1, by omega, ⟨g3.below, g3.mem, by simp; omega, g3.top, fun i bl hi => ?_, fun i j bi bj p q r s t u hij hi hj => ?_⟩, by omega, g4⟩
    · have key : (H ++ List.replicate k none)[i]? = some (some bl) → H[i]? = some (some bl) := fun h => by
        rcases Nat.lt_or_ge i H.length with hl | hl
        · rwa [List.getElem?_append_left hl] at h
        · rw [List.getElem?_append_right hl, List.getElem?_replicate] at h
          split at h <;> cases h
      exact g3.own i bl (key hi)
    · have key : ∀ (i : Nat) (bl : Blk), (H ++ List.replicate k none)[i]? = some (some bl) → H[i]? = some (some bl) := fun i bl h => by
        rcases Nat.lt_or_ge i H.length with hl | hl
        · rwa [List.getElem?_append_left hl] at h
        · rw [List.getElem?_append_right hl, List.getElem?_replicate] at h
          split at h <;> cases h
      exact g3.inj i j bi bj p q r s t u hij (key i bi hi) (key j bj hj)
  obtain ⟨G', g1, g2, g3, g4, g5⟩ := grow k G st.H (R.more hTle) R.top hTR
  have hTR' := hTR.mono (.refl F) g1
  have hidx : ∀ x ∈ ((ops.zip es).zipIdx.map fun p => (p.2, p.1.1, p.1.2)), ops[x.1]? = some x.2.1 := fun x hx => by
    obtain ⟨p, hp, rfl⟩ := List.mem_map.1 hx
    have := List.mem_zipIdx_iff_getElem?.1 hp
    simp only [List.getElem?_zip_eq_some] at this
    exact this.1
  have hrem : ((ops.zip es).zipIdx.map fun p => (p.2, p.1.1, p.1.2)).map (·.2) = ops.zip es := by
    rw [List.map_map]
    have : ((fun x : Nat × Oper × Ef => x.2) ∘ fun p : (Oper × Ef) × Nat => (p.2, p.1.1, p.1.2)) = fun p => p.1 := rfl
    rw [this]; simp
  have hsz : (Array.replicate ops.toArray.size false).size = ops.length := by simp
  refine drawn_sound hT (sp := st.t + 1) (T := stT inc st.t ops.length) (s' := FSq.of st') (n := n) (fun i o ho e he hb => by have := edgesB_spec h3a i o ho e he hb; omega) (F0 := F) (G0 := G) (fun F2 G2 a2 w2 onw hs2 => ?_) ops.toArray.size
    ((ops.zip es).zipIdx.map fun p => (p.2, p.1.1, p.1.2)) _ (FSq.of ⟨st.tm, st.H ++ List.replicate k none, st.t⟩) F G' a _ hidx ?_ (fun i => ?_) hsz (fun i o _ hli => by simp [Array.getD] at hli) ?_ ?_ (fun x hx => ⟨?_, fun b hb p hp => Nat.lt_of_lt_of_le (Nat.lt_succ_of_le (g5 b p hp)) (Nat.le_add_right _ _)⟩) (by rw [hrem]; exact h2)
    ⟨⟨g3.drewN 1, by simp [FSq.of]; omega⟩, ⟨hTR'.1, hTR'.2⟩, hd⟩ ⟨.refl _, fun _ _ _ => rfl, g1, g2⟩ (by simp; omega)
  · obtain ⟨⟨r1, r2⟩, r3, r4⟩ := hs2
    exact ⟨F2, G2, ⟨st'.tm, st'.H, stT inc st.t ops.length⟩, onw, ⟨r1, r3, r4⟩, h4⟩
  · rw [List.pairwise_map]
    have : (ops.zip es).zipIdx.Pairwise fun a b => a.2 < b.2 := by
      rw [List.pairwise_iff_getElem]
      intro i j hi hj hij
      simpa using hij
    exact this
  · constructor
    · rintro ⟨x, hx, rfl⟩
      obtain ⟨p, hp, rfl⟩ := List.mem_map.1 hx
      have := List.mem_zipIdx_iff_getElem?.1 hp
      have hl := (List.getElem?_eq_some_iff.1 this).1
      rw [List.length_zip] at hl
      have hl' : p.2 < ops.length := by omega
      exact ⟨hl', by simp [Array.getD, hl']⟩
    · rintro ⟨hi, _⟩
      have hi' : i < (ops.zip es).length := by simp; omega
      refine ⟨(i, (ops.zip es)[i].1, (ops.zip es)[i].2), List.mem_map.2 ⟨((ops.zip es)[i], i), ?_, rfl⟩, rfl⟩
      exact List.mem_zipIdx_iff_getElem?.2 (by simp [List.getElem?_eq_getElem hi'])
  · rw [List.pairwise_map] at hpw ⊢
    refine hpw.imp fun {x y} hxy => ?_
    simp only [pairB, Bool.and_eq_true, Bool.or_eq_true] at hxy
    rcases hxy.1 with h | h | h
    · exact .inl (by unfold depT; rw [h]; rfl)
    · exact .inr ⟨h.1, apB_spec h.2⟩
    · exact .inl h
  · rw [List.pairwise_map] at hpw ⊢
    refine hpw.imp fun {x y} hxy b hb hb' => ?_
    simp only [pairB, Bool.and_eq_true, Bool.or_eq_true] at hxy
    have h5 := hxy.2
    have e1 : x.1.2.fp.pid = some b := by
      revert hb; cases x.1.2 <;> simp [Ef.pid, Ef.fp]
    have e2 : y.1.2.fp.pid = some b := by
      revert hb'; cases y.1.2 <;> simp [Ef.pid, Ef.fp]
    have e3 : ∀ e : Ef, e.fp.k = e.k := fun e => by cases e <;> rfl
    rw [e1, e2] at h5
    rcases h5 with h5 | ⟨h5, h6⟩
    · simp [offB] at h5
    · rw [e3, e3] at h6
      exact ⟨h5, by simpa using h6⟩
  · obtain ⟨p, hp, rfl⟩ := List.mem_map.1 hx
    have hm := List.mem_zipIdx_iff_getElem?.1 hp
    simp only [List.getElem?_zip_eq_some] at hm
    have := hks p.1.2 (List.mem_of_getElem? hm.2)
    rw [stT_k]
    show st.t + 1 + p.1.2.k ≤ _
    omega
end Go.Proofs.Ytcjmknmlfggblaa.T
end

/- Equations by which a region that draws its order is reckoned; slices that are asked whether they are nil; blocks that are frozen or begun. -/
section
namespace Go.Proofs.Ytcjmknmlfggblaa.T
open Go Go.RowKit

section
variable {K : St → Prop} {Q : Exit → St → Prop} {s : St} {i j : Nat}
theorem thenQ_n (h : K s) : thenQ K Q .normal s := h
theorem thenQ_e (h : Q (.exit i) s) : thenQ K Q (.exit i) s := h
theorem thenQ_r (h : Q .ret s) : thenQ K Q .ret s := h
theorem blockQ_n (h : Q .normal s) : blockQ i Q .normal s := h
theorem blockQ_r (h : Q .ret s) : blockQ i Q .ret s := h
theorem blockQ_s (h : Q .normal s) : blockQ i Q (.exit i) s := by simp only [blockQ, if_true]; exact h
theorem blockQ_o (hij : j ≠ i) (h : Q (.exit j) s) : blockQ i Q (.exit j) s := by simp only [blockQ, if_neg hij]; exact h
end

def StLe (st st' : St) : Prop := tmLe st.tm st'.tm ∧ hpLe st.H st'.H ∧ st.t ≤ st'.t
/-- A loop whose head's states are written out. -/
theorem AW_loop_w {P : Program} {n : Nat} {c : Code} {Q : Exit → St → Prop} {st : St} {α : Type} (f : α → St) (μ : α → Nat) (ok : α → Prop) (x0 : α) (h0 : ok x0) (hle : StLe st (f x0))
    (round : ∀ x, ok x → AW P n c (thenQ (fun s => ∃ y, ok y ∧ μ y < μ x ∧ StLe s (f y)) Q) (f x)) : AW P n (.loop c) Q st :=
  AW_loop (fun m s => ∃ x, ok x ∧ m = μ x ∧ StLe s (f x)) ⟨x0, h0, rfl, hle⟩ fun m s ⟨x, h1, h2, h3⟩ => by
    subst h2
    refine AW.weaken h3.1 h3.2.1 h3.2.2 ((round x h1).mono fun e s hq => ?_)
    cases e with
    | normal =>
      obtain ⟨y, k1, k2, k3⟩ := hq
      exact ⟨μ y, k2, y, k1, rfl, k3⟩
    | _ => exact hq

structure DS where
  nid : Nat
  acc : List Fp
  st : St
def bindDS (x : Option DS) (k : Nat → List Fp → St → Prop) : Prop := match x with
  | some s => k s.nid s.acc s.st
  | none => False
theorem bindDS_some (a : Nat) (b : List Fp) (c : St) (k : Nat → List Fp → St → Prop) : bindDS (some ⟨a, b, c⟩) k = k a b c := rfl

def putDS (tab : Tab) (inc : Bool) (sp : Nat) (op : Op) (nid : Nat) (acc : List Fp) (st : St) (dst : Option Tmp) : Option (D × Wr) → Option DS
  | some (d, wr) => if nid ≤ st.H.length ∧ wrIn wr st.H = true ∧ wrG wr (stp inc sp acc) = true then some ⟨nextN wr nid, ⟨wr.pid, wr.id, idsT tab st.tm op, kOf inc acc⟩ :: acc, St.put ⟨st.tm, wr.on st.H, st.t⟩ dst d⟩ else none
  | none => none
def guardDS (n : Nat) (dst : Option Tmp) (x : Option DS) : Option DS := if dst.getD 0 < n then x else none
def goDS (tab : Tab) (n : Nat) (inc : Bool) (sp : Nat) (dst : Option Tmp) (op : Op) (ty : TypeId) (nid : Nat) (acc : List Fp) (st : St) : Option Bool → Option DS
  | none => none
  | some false => guardDS n dst (some ⟨nid, .no :: acc, st.put dst (.v undef)⟩)
  | some true => guardDS n dst (putDS tab inc sp op nid acc st dst (opB tab (evalD tab st.tm) nid (stp inc sp acc) st.H op ty))

/-- A call in such a region. -/
def wrOk (wr : Wr) (H : Hp) : Prop := wrIn wr H = true
def callDS (P : Program) (f : D) (args : List D) (sp : Nat) (H : Hp) (k : D → Wr → Prop) : Prop := match f with
  | .fn g caps => ∃ d wr, PGive P g ((args ++ caps).map ufa) sp d wr ∧ wrOk wr H ∧ k d wr
  | _ => False
theorem callDS_fn (P : Program) (g : FuncId) (caps args : List D) (sp : Nat) (H : Hp) (k : D → Wr → Prop) : callDS P (.fn g caps) args sp H k = ∃ d wr, PGive P g ((args ++ caps).map ufa) sp d wr ∧ wrOk wr H ∧ k d wr := rfl
theorem PGive.ret {P : Program} {g : FuncId} {ds : List D} {sp : Nat} {d : D} {H : Hp} {k : D → Wr → Prop} (h : PRet P g ds d) (hk : k d .no) : ∃ d wr, PGive P g ds sp d wr ∧ wrOk wr H ∧ k d wr := ⟨d, .no, .inl ⟨rfl, h⟩, rfl, hk⟩
theorem PGive.fresh {P : Program} {g : FuncId} {ds : List D} {sp : Nat} {ty : TypeId} {sz n : Nat} {cells : List D} {H : Hp} {k : D → Wr → Prop} (nid : Nat) (h : PFresh P g ds ty sz n cells) (hn : nid < H.length) (hk : k (.own sz nid sp 0 n) (.put nid ⟨ty, sp, cells⟩)) : ∃ d wr, PGive P g ds sp d wr ∧ wrOk wr H ∧ k d wr := ⟨_, _, .inr ⟨nid, ty, sz, n, cells, rfl, rfl, h⟩, by simpa [wrOk, wrIn, Wr.id] using hn, hk⟩
def afterDS (inc : Bool) (KK : Nat → List Fp → St → Prop) (nid : Nat) (acc : List Fp) (st : St) (dst : Option Tmp) (d : D) (wr : Wr) : Prop := KK (nextN wr nid) (⟨wr.pid, wr.id, [], kOf inc acc⟩ :: acc) (St.put ⟨st.tm, wr.on st.H, st.t⟩ dst d)
def argsZ (tab : Tab) (tm : TM) (args : List Operand) (ts : List TypeId) : List D := argsD tab tm args ts
theorem argsD_zip (tab : Tab) (tm : TM) : ∀ (args : List Operand) (ts : List TypeId) (n : Nat), args.length ≤ n → (args.zip (ts ++ List.replicate n 0)).map (fun p => evalD tab tm p.2 p.1) = argsD tab tm args ts
  | [], ts, n, _ => by simp [argsD]
  | x :: xs, [], n, h => by
    cases n with
    | zero => simp at h
    | succ n =>
      have := argsD_zip tab tm xs [] n (by simpa using h)
      simp only [List.nil_append] at this
      simp [List.replicate_succ, argsD, this]
  | x :: xs, t :: ts, n, h => by simp only [List.cons_append, List.zip_cons_cons, List.map_cons, argsD]; rw [argsD_zip tab tm xs ts n (by simp at h; omega)]
def goCDS (P : Program) (tab : Tab) (n : Nat) (inc : Bool) (sp : Nat) (KK : Nat → List Fp → St → Prop) (dst : Option Tmp) (f : Operand) (args : List Operand) (ts : List TypeId) (nid : Nat) (acc : List Fp) (st : St) : Option Bool → Prop
  | none => False
  | some false => bindDS (guardDS n dst (some ⟨nid, .no :: acc, st.put dst (.v undef)⟩)) KK
  | some true => dst.getD 0 < n ∧ callDS P (evalD tab st.tm 0 f) (argsZ tab st.tm args ts) (stp inc sp acc) st.H (afterDS inc KK nid acc st dst)

section
variable {P : Program} {tab : Tab} {n : Nat} {inc : Bool} {sp : Nat} {all : List Oper} {K : List Fp → St → Prop} {rest : List Oper} {st : St} {nid : Nat} {acc : List Fp}
theorem awD_nil (h : K acc.reverse st) : awD P tab n all inc sp K [] nid acc st := h
theorem awD_op {dst : Option Tmp} {op : Op} {ty : TypeId} {pos : String} {aft : Array Edge} {g : Option (Nat × Bool)} (ho : isCallV op = false) {w : Option Bool} (hw : wantedA all st.tm ⟨dst, op, ty, pos, aft, g⟩ = w)
    (h : bindDS (goDS tab n inc sp dst op ty nid acc st w) (awD P tab n all inc sp K rest)) : awD P tab n all inc sp K (⟨dst, op, ty, pos, aft, g⟩ :: rest) nid acc st := by
  unfold awD
  rw [hw]
  unfold bindDS goDS guardDS putDS at h
  split at h
  · rename_i s hs
    split at hs
    · cases hs
    · split at hs
      · rename_i hk; cases hs; exact ⟨hk, h⟩
      · cases hs
    · split at hs
      · rename_i hk
        refine ⟨hk, ?_⟩
        split at hs
        · rename_i d wr hop
          split at hs
          · rename_i hc
            cases hs
            simp only
            split
            · simp [isCallV] at ho
            · rw [opA_opB, hop]; exact ⟨hc.1, hc.2.1, hc.2.2, h⟩
          · cases hs
        · cases hs
      · cases hs
  · exact h.elim
theorem awD_n {dst : Option Tmp} {op : Op} {ty : TypeId} {pos : String} {aft : Array Edge} (ho : isCallV op = false) (h : ∀ KK : Nat → List Fp → St → Prop, (∀ i a s, awD P tab n all inc sp K rest i a s → KK i a s) → bindDS (goDS tab n inc sp dst op ty nid acc st (some true)) KK) :
    awD P tab n all inc sp K (⟨dst, op, ty, pos, aft, none⟩ :: rest) nid acc st := awD_op ho rfl (h _ fun _ _ _ h => h)
theorem awD_g {dst : Option Tmp} {op : Op} {ty : TypeId} {pos : String} {aft : Array Edge} {j : Nat} {w : Bool} {k : Nat} (hk : (all[j]?).bind (·.dst) = some k) (ho : isCallV op = false) (h : ∀ KK : Nat → List Fp → St → Prop, (∀ i a s, awD P tab n all inc sp K rest i a s → KK i a s) → bindDS (goDS tab n inc sp dst op ty nid acc st (guardD (look st.tm k) w)) KK) :
    awD P tab n all inc sp K (⟨dst, op, ty, pos, aft, some (j, w)⟩ :: rest) nid acc st := awD_op ho (wantedA_some hk) (h _ fun _ _ _ h => h)
theorem awD_call {dst : Option Tmp} {f : Operand} {args : Array Operand} {ts : Array TypeId} {ty : TypeId} {pos : String} {aft : Array Edge} {g : Option (Nat × Bool)} {w : Option Bool}
    (hw : wantedA all st.tm ⟨dst, .call { callee := .value f, args := args, argTypes := ts }, ty, pos, aft, g⟩ = w) (h : goCDS P tab n inc sp (awD P tab n all inc sp K rest) dst f args.toList ts.toList nid acc st w) :
    awD P tab n all inc sp K (⟨dst, .call { callee := .value f, args := args, argTypes := ts }, ty, pos, aft, g⟩ :: rest) nid acc st := by
  unfold awD
  rw [hw]
  unfold goCDS at h
  split at h
  · exact h.elim
  · unfold bindDS guardDS at h
    split at h
    · rename_i s hs
      split at hs
      · rename_i hk; cases hs; exact ⟨hk, h⟩
      · cases hs
    · exact h.elim
  · refine ⟨h.1, ?_⟩
    have h := h.2
    unfold callDS at h
    split at h
    · rename_i g caps hf
      obtain ⟨d, wr, h1, h2, h3⟩ := h
      simp only [hf]
      exact ⟨d, wr, by rw [argsD_zip tab st.tm args.toList ts.toList args.size (by simp)]; exact h1, h2, h3⟩
    · exact h.elim
theorem awD_nc {dst : Option Tmp} {f : Operand} {args : Array Operand} {ts : Array TypeId} {ty : TypeId} {pos : String} {aft : Array Edge} (h : ∀ KK : Nat → List Fp → St → Prop, (∀ i a s, awD P tab n all inc sp K rest i a s → KK i a s) → goCDS P tab n inc sp KK dst f args.toList ts.toList nid acc st (some true)) :
    awD P tab n all inc sp K (⟨dst, .call { callee := .value f, args := args, argTypes := ts }, ty, pos, aft, none⟩ :: rest) nid acc st := awD_call rfl (h _ fun _ _ _ h => h)
theorem awD_gc {dst : Option Tmp} {f : Operand} {args : Array Operand} {ts : Array TypeId} {ty : TypeId} {pos : String} {aft : Array Edge} {j : Nat} {w : Bool} {k : Nat} (hk : (all[j]?).bind (·.dst) = some k) (h : ∀ KK : Nat → List Fp → St → Prop, (∀ i a s, awD P tab n all inc sp K rest i a s → KK i a s) → goCDS P tab n inc sp KK dst f args.toList ts.toList nid acc st (guardD (look st.tm k) w)) :
    awD P tab n all inc sp K (⟨dst, .call { callee := .value f, args := args, argTypes := ts }, ty, pos, aft, some (j, w)⟩ :: rest) nid acc st := awD_call (wantedA_some hk) (h _ fun _ _ _ h => h)
theorem AW_drawn_k (hT : Tab.Ok P tab) (hm : P.follows .mixedOrders = true) {id : Nat} {ops : List Oper} {Q : Exit → St → Prop} (k : Nat)
    (h : ∀ KK : List Fp → St → Prop, (∀ fps st', anyB ops fps = true → Q .normal ⟨st'.tm, st'.H, st.t + 1⟩ → KK fps st') → awD P tab n ops false (st.t + 1) KK ops st.H.length [] ⟨st.tm, st.H ++ List.replicate k none, st.t⟩) : AW P n (.region id ops.toArray true) Q st :=
  AW_drawn hT hm k false (h _ fun _ _ h1 h2 => ⟨h1, h2⟩)
/-- The same, where each operation has a stamp of its own to give. -/
theorem AW_drawn_i (hT : Tab.Ok P tab) (hm : P.follows .mixedOrders = true) {id : Nat} {ops : List Oper} {Q : Exit → St → Prop} (k : Nat)
    (h : ∀ KK : List Fp → St → Prop, (∀ fps st', anyB ops fps = true → Q .normal ⟨st'.tm, st'.H, st.t + 1 + ops.length⟩ → KK fps st') → awD P tab n ops true (st.t + 1) KK ops st.H.length [] ⟨st.tm, st.H ++ List.replicate k none, st.t⟩) : AW P n (.region id ops.toArray true) Q st :=
  AW_drawn hT hm k true (h _ fun _ _ h1 h2 => ⟨h1, h2⟩)
end

/-- A new block that has no memory yet takes the place of an empty slice. -/
theorem AW.begin {P : Program} {n : Nat} {c : Code} {Q : Exit → St → Prop} {st : St} (k sz : Nat) (ty : TypeId) {sz0 : Nat} (hl : look st.tm k = .sl sz0 [] true) (h0 : 0 < sz0)
    (h : AW P n c Q ⟨putTM st.tm k (.own sz st.H.length (st.t + 1) 0 0), st.H ++ [some ⟨ty, st.t + 1, []⟩], st.t + 1⟩) : AW P n c Q st := fun w0 F G a w hs => by
  obtain ⟨R, hTR, hd⟩ := hs
  have go : ∀ G1, Ghost.le G.length G G1 → G.length ≤ G1.length → Rel w0 F G1 st.H st.t w → st.H.length < G1.length → c.wp P (Lift w0 F G n Q) a w := fun G1 g1 g2 R1 hlt => by
    obtain ⟨p, hp⟩ : ∃ p, G1[st.H.length]? = some p := ⟨_, List.getElem?_eq_getElem hlt⟩
    have htop := R1.top _ _ hp
    have hTR1 := hTR.mono (.refl F) g1
    have hle : p.le ⟨none, st.t + 1⟩ := .inr (by simp only; omega)
    have R2 := (R1.more (Nat.le_succ st.t)).put (F' := F) (w' := w) (bl := ⟨ty, st.t + 1, []⟩) (p' := ⟨none, st.t + 1⟩) (Nat.le_refl _) (Nat.le_refl _) (Nat.le_refl _) hp hle (Below.refl _ _) (.refl _) R1.mem
      (fun i bi q r s hi hbi hq hrs => by
        obtain ⟨q', hq', hl'⟩ := R1.own i bi hbi
        rw [hq] at hq'; cases hq'
        obtain ⟨_, h'⟩ := hl'
        rw [hrs] at h'
        exact ⟨rfl, h'.2.1, fun r' s' e => by cases e⟩) ⟨rfl, rfl⟩
    have hG2 := Ghost.le_set hp hle
    have hset : setH st.H st.H.length ⟨ty, st.t + 1, []⟩ = st.H ++ [some ⟨ty, st.t + 1, []⟩] := by unfold setH; rw [if_pos rfl]
    rw [hset] at R2
    have hx := hTR.look k
    rw [hl] at hx
    simp only [Rep] at hx
    obtain ⟨ad, len, cap, hu, hlen, hlc, hfull, _⟩ := hx
    have hl0 : len = 0 := by rcases Nat.mul_eq_zero.1 (hlen.trans (by simp)) with h | h <;> omega
    have hc0 : cap = 0 := by have := hfull trivial; omega
    subst hl0; subst hc0
    refine wp_mono (h w0 F _ a w ⟨R2, ⟨hTR.1, fun j => ?_⟩, hd⟩) fun e a' w' l => l.onw ⟨.refl _, fun _ _ _ => rfl, g1.trans ((hG2 _).less g2), by simp; exact g2⟩
    rw [look_putTM]
    split
    · rename_i e; subst e
      rw [hu]
      simp only [Rep]
      refine ⟨rfl, _, by rw [List.getElem?_set_self hlt], Nat.le_refl _, fun _ => ?_⟩
      exact ⟨⟨ad, rfl⟩, trivial, trivial⟩
    · exact Rep.mono (.refl _) (hG2 _) _ _ (hTR1.look j)
  rcases Nat.lt_or_ge st.H.length G.length with hlt | hge
  · exact go G (.refl _ _) (Nat.le_refl _) R hlt
  · have heq : st.H.length = G.length := Nat.le_antisymm R.len hge
    exact go (G ++ [⟨none, 0⟩]) (fun i p hi hp => ⟨p, by rw [List.getElem?_append_left hi]; exact hp, .refl p⟩) (by simp) R.extend (by simp; omega)
end Go.Proofs.Ytcjmknmlfggblaa.T
end

/- What the arguments of a statement stand for, and how a law's contract gives the statement's row. -/
section
namespace Go.Proofs.Ytcjmknmlfggblaa.T
open Go Go.RowKit Go.ChangeShapes

/-- All the memory that there is. -/
def memOf (W : World) : Mem := fun b o => W.cell? ⟨b, o, none⟩
theorem memOf_at (W : World) : (memOf W).at_ W := fun _ _ _ h => h

/-- Cells from a place on. -/
def AtL (F : Mem) (b off : Nat) (vs : List Value) : Prop := ∀ (j : Nat) (x : Value), vs[j]? = some x → F b (off + j) = some x
theorem AtL.append {F : Mem} {b off : Nat} {vs us : List Value} (h : AtL F b off vs) (h' : AtL F b (off + vs.length) us) : AtL F b off (vs ++ us) := fun j x hx => by
  by_cases e : j < vs.length
  · rw [List.getElem?_append_left e] at hx; exact h j x hx
  · rw [List.getElem?_append_right (by omega)] at hx
    have := h' _ x hx
    rwa [show off + vs.length + (j - vs.length) = off + j by omega] at this

section
variable {H : Type} {enc : TypeId × Value → H} {P : Program} {W : World}

/-- Data of a type stand for cells of a shape. -/
def Opn (enc : TypeId × Value → H) (P : Program) (W : World) (t : TypeId) (S : List D → Prop) : Prop :=
  ∀ (fuel : Nat) (cs : List Value) (x : DataW H × List MemPlace), DataW.trod enc P W 0 (fun _ => true) true fuel t cs = some x → ∃ ds, RepL (memOf W) [] ds cs ∧ S ds

theorem RepL_one {F : Mem} {G : Ghost} {d : D} {u : Value} (h : Rep F G d u) : RepL F G [d] [u] := by
  simp only [RepL]; exact ⟨u, [], rfl, h, rfl⟩
theorem Opn.int {t : TypeId} {k : IntKind} (ht : P.underlying t = some (.int k)) : Opn enc P W t fun ds => ∃ n, ds = [.v (.int k n)] ∧ (Lit.int k n).wf = true := fun fuel cs x h => by
  obtain ⟨n, rfl, _, hw⟩ := DataW.trod_int ht h
  exact ⟨_, RepL_one (Rep_v _ _ _), n, rfl, hw⟩
theorem Opn.bool {t : TypeId} (ht : P.underlying t = some .bool) : Opn enc P W t fun ds => ∃ b, ds = [.v (.bool b)] := fun fuel cs x h => by
  obtain ⟨b, rfl, _⟩ := DataW.trod_bool ht h
  exact ⟨_, RepL_one (Rep_v _ _ _), b, rfl⟩
theorem Opn.str {t : TypeId} (ht : P.underlying t = some .string) : Opn enc P W t fun ds => ∃ s : ByteArray, ds = [.v (.string s)] ∧ s.size ≤ maxLen := fun fuel cs x h => by
  obtain ⟨s, rfl, _, hs⟩ := DataW.trod_string ht h
  exact ⟨_, RepL_one (Rep_v _ _ _), s, rfl, hs⟩
theorem Opn.mono {t : TypeId} {S S' : List D → Prop} (h : Opn enc P W t S) (hs : ∀ ds, S ds → S' ds) : Opn enc P W t S' := fun fuel cs x hx => by
  obtain ⟨ds, h1, h2⟩ := h fuel cs x hx
  exact ⟨ds, h1, hs _ h2⟩

theorem Opn.slice {t e : TypeId} {sz : Nat} {S : List D → Prop} (ht : P.underlying t = some (.slice e)) (hz : P.cellsOf e = sz) (h0 : 0 < sz) (he : Opn enc P W e S) :
    Opn enc P W t fun ds => ∃ rows : List (List D), ds = [.sl sz rows.flatten false] ∧ (∀ r ∈ rows, S r ∧ r.length = sz) ∧ rows.length ≤ maxLen := fun fuel cs x h => by
  rcases Deep.open_slice ht h with ⟨rfl, _⟩ | ⟨a, len, cap, m, n, Dd, Pl, rfl, hb, hl, hm, hmm, _, hx⟩
  · exact ⟨_, RepL_one (Rep_nil _ _ sz false), [], rfl, by simp, Nat.zero_le _⟩
  simp only [if_true] at hmm
  subst hmm
  rw [hz] at hx
  by_cases hlen : len = 0
  · subst hlen
    refine ⟨[.sl sz [] false], RepL_one ?_, [], rfl, by simp, Nat.zero_le _⟩
    simp only [Rep]
    exact ⟨some a, 0, m, rfl, by simp, Nat.zero_le _, fun e => by simp at e, .inl trivial⟩
  obtain ⟨cs0, hc0, _⟩ := hx 0 (by omega)
  obtain ⟨_, hl0, hg0⟩ := World.cells?_some hc0
  have hspot : a.spot = none := by
    have h1 := hg0 0 h0
    obtain ⟨v, hv⟩ : ∃ v, cs0[0]? = some v := ⟨_, List.getElem?_eq_getElem (by omega)⟩
    rw [hv] at h1
    have := World.cell?_spot h1
    simpa [Addr.add] using this
  obtain ⟨blk, off, spot⟩ := a
  simp only at hspot
  subst hspot
  have key : ∀ k, k ≤ len → ∃ (rows : List (List D)) (vs : List Value), rows.length = k ∧ (∀ r ∈ rows, S r ∧ r.length = sz) ∧ vs.length = k * sz ∧ AtL (memOf W) blk off vs ∧ RepL (memOf W) [] rows.flatten vs := by
    intro k
    induction k with
    | zero => exact fun _ => ⟨[], [], rfl, by simp, by simp, fun j x hx => by simp at hx, by simp [RepL]⟩
    | succ k ih =>
      intro hk
      obtain ⟨rows, vs, r1, r2, r3, r4, r5⟩ := ih (by omega)
      obtain ⟨cs', hc, ht'⟩ := hx k (by omega)
      obtain ⟨ds, h1, h2⟩ := he _ _ _ ht'
      obtain ⟨_, hcl, hcg⟩ := World.cells?_some hc
      have hdl : ds.length = sz := by rw [← h1.length, hcl]
      refine ⟨rows ++ [ds], vs ++ cs', by simp [r1], fun r hr => ?_, by simp [r3, hcl, Nat.succ_mul], r4.append fun j x hx => ?_, ?_⟩
      · rcases List.mem_append.1 hr with hr | hr
        · exact r2 r hr
        · simp only [List.mem_singleton] at hr; subst hr; exact ⟨h2, hdl⟩
      · have hj : j < sz := by rw [← hcl]; exact (List.getElem?_eq_some_iff.1 hx).1
        have := hcg j hj
        rw [hx, WideShapes.add_plain, WideShapes.add_plain] at this
        rw [r3]
        exact this
      · rw [List.flatten_append]
        exact r5.append (by simpa using h1)
  obtain ⟨rows, vs, r1, r2, r3, r4, r5⟩ := key len (Nat.le_refl _)
  refine ⟨[.sl sz rows.flatten false], RepL_one ?_, rows, rfl, r2, by omega⟩
  simp only [Rep]
  refine ⟨_, len, m, rfl, ?_, hl, (fun e => by cases e), .inr ⟨blk, off, vs, rfl, r4, r5⟩⟩
  rw [← r5.length, r3]

/-- Fields laid one behind the other. -/
def OpnF (enc : TypeId × Value → H) (P : Program) (W : World) : List Field → Nat → List (List D → Prop) → Prop
  | [], _, Ss => Ss = []
  | f :: fs, off, Ss => ∃ S Ss', Ss = S :: Ss' ∧ f.offset = off ∧ Opn enc P W f.type S ∧ OpnF enc P W fs (off + P.cellsOf f.type) Ss'
def sizeF (P : Program) : List Field → Nat
  | [] => 0
  | f :: fs => P.cellsOf f.type + sizeF P fs
def AllS : List (List D → Prop) → List D → Prop
  | [], ds => ds = []
  | S :: Ss, ds => ∃ d ds', ds = d ++ ds' ∧ S d ∧ AllS Ss ds'
theorem OpnF.get {cs : List Value} : ∀ {fs : List Field} {off : Nat} {Ss : List (List D → Prop)}, OpnF enc P W fs off Ss → (∀ f ∈ fs, ∃ n x, DataW.trod enc P W 0 (fun _ => true) true n f.type ((cs.drop f.offset).take (P.cellsOf f.type)) = some x) →
    cs.length = off + sizeF P fs → ∃ ds, RepL (memOf W) [] ds (cs.drop off) ∧ AllS Ss ds
  | [], off, Ss, h, _, hl => by
    simp only [OpnF] at h
    subst h
    exact ⟨[], by simp only [RepL]; simp [sizeF] at hl; exact List.drop_eq_nil_of_le (by omega), rfl⟩
  | f :: fs, off, Ss, h, hx, hl => by
    simp only [OpnF] at h
    obtain ⟨S, Ss', rfl, rfl, h1, h2⟩ := h
    obtain ⟨n, x, hn⟩ := hx f (by simp)
    obtain ⟨d, hd, hS⟩ := h1 _ _ _ hn
    obtain ⟨ds, hds, hSs⟩ := OpnF.get h2 (fun g hg => hx g (List.mem_cons_of_mem _ hg)) (by simp only [sizeF] at hl; omega)
    refine ⟨d ++ ds, ?_, d, ds, rfl, hS, hSs⟩
    have := hd.append hds
    rwa [show (cs.drop f.offset).take (P.cellsOf f.type) ++ cs.drop (f.offset + P.cellsOf f.type) = cs.drop f.offset by rw [← List.drop_drop, List.take_append_drop]] at this
theorem Opn.struct {t : TypeId} {fs : Array Field} {Ss : List (List D → Prop)} (ht : P.underlying t = some (.struct fs)) (h : OpnF enc P W fs.toList 0 Ss) (hz : P.cellsOf t = sizeF P fs.toList) : Opn enc P W t (AllS Ss) := fun fuel cs x hx => by
  obtain ⟨xs, n, _, _, hl, hxl, hg⟩ := DataW.trod_struct ht hx
  have := OpnF.get (cs := cs) h (fun f hf => by
    obtain ⟨i, hi⟩ := List.mem_iff_getElem?.1 hf
    have hi' : fs[i]? = some f := by simpa using hi
    have h1 := hg i f hi'
    have hlt : i < xs.length := by rw [hxl]; exact (Array.getElem?_eq_some_iff.1 hi').1
    exact ⟨n, xs[i], by rw [h1, List.getElem?_eq_getElem hlt]⟩) (by rw [hl, hz]; omega)
  simpa using this

/-- An argument of one cell, an argument of several. -/
theorem arg_one {t : TypeId} {S : List D → Prop} (ho : Opn enc P W t S) {v : Value} {d : DataW H} {p : List MemPlace} (h : DataW.Trod enc P W 0 (fun _ => true) true t v d p) (h1 : v.cells = #[v]) (hs : ∀ ds, S ds → ∃ d, ds = [d]) : ∃ d, Rep (memOf W) [] d v ∧ S [d] := by
  obtain ⟨fuel, hf⟩ := h
  obtain ⟨ds, hr, hS⟩ := ho _ _ _ hf
  obtain ⟨d, rfl⟩ := hs ds hS
  rw [h1] at hr
  simp only [RepL] at hr
  obtain ⟨u, us, e, hr, rfl⟩ := hr
  simp at e
  exact ⟨d, by rw [e]; exact hr, hS⟩
theorem arg_agg {t : TypeId} {S : List D → Prop} (ho : Opn enc P W t S) {cs : Array Value} {d : DataW H} {p : List MemPlace} (h : DataW.Trod enc P W 0 (fun _ => true) true t (.agg cs) d p) : ∃ ds, Rep (memOf W) [] (.agg ds) (.agg cs) ∧ S ds := by
  obtain ⟨fuel, hf⟩ := h
  obtain ⟨ds, hr, hS⟩ := ho _ _ _ hf
  refine ⟨ds, ?_, hS⟩
  simp only [Rep]
  exact ⟨cs.toList, by simp, by simpa [Value.cells] using hr⟩

/-- The arguments read behind the call as they did. -/
theorem trodAll_below (hl : laidOutB P = true) {W' : World} (hb : Below W.heap.size W W') : ∀ {ts : List TypeId} {vs : List Value} {ds : List (DataW H)} {ps : List MemPlace}, (∀ t ∈ ts, P.readableRec t = true ∧ t < P.types.size) →
    DataW.TrodAll enc P W 0 (fun _ => true) true ts vs ds ps → (∀ x ∈ ps, x.block < W.heap.size) → DataW.TrodAll enc P W' 0 (fun b => decide (b < W.heap.size)) true ts vs ds ps
  | [], vs, ds, ps, _, h, _ => by
    obtain ⟨rfl, rfl, rfl⟩ := trodAll_nil h
    exact trodAll_mk0
  | t :: ts, vs, ds, ps, ht, h, hp => by
    obtain ⟨v, vs', d, ds', p, q, rfl, rfl, rfl, h1, h2⟩ := trodAll_cons h
    obtain ⟨k1, k2⟩ := ht t (by simp)
    exact trodAll_cons_mk (Below.trod hl k1 k2 h1 hb fun x hx => hp x (by simp [hx])) (trodAll_below hl hb (fun t h => ht t (List.mem_cons_of_mem _ h)) h2 fun x hx => hp x (by simp [hx]))

/-- A law that returns true. -/
theorem law_calls {f : FuncId} {ds : List D} {args : Array Value} (hc : Callable P f) (h : PRet P f ds (.v (.bool true))) (hr : RepL (memOf W) [] ds args.toList) : Calls P f args W fun e W' => e = .returned (.bool true) ∧ Below W.heap.size W W' := by
  have h1 := h (memOf W) [] W args.toList (memOf_at W) hr
  have fin : ∀ e W', (∃ F' u, e = Ending.returned u ∧ (memOf W).le F' ∧ (∀ b o, b < W.heap.size → F' b o = memOf W b o) ∧ F'.at_ W' ∧ Rep F' [] (.v (.bool true)) u ∧ Below W.heap.size W W') → e = .returned (.bool true) ∧ Below W.heap.size W W' := by
    rintro e W' ⟨F', u, rfl, _, _, _, hu, hb⟩
    simp only [Rep] at hu
    subst hu
    exact ⟨rfl, hb⟩
  rcases h1 with ⟨_, h1⟩ | ⟨u, h1, _⟩
  · exact (show Calls P f args W _ by simpa using h1).mono fin
  · rw [callFunc_run hc] at h1
    cases h1
end
end Go.Proofs.Ytcjmknmlfggblaa.T
end
