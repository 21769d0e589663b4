import Derived.WalkKit
set_option linter.all false
section
namespace Go.Proofs.YtpbpafmgkdihlaaGreatDoor.Lin
structure Frm where
 rows : List (List Int)
 den : Int
 pivots : List Nat
 fr : List Nat
 turned : Bool
def swp {α : Type} (l : List α) (i j : Nat) : List α := match l[i]?, l[j]? with
 | some x, some y => (l.set i y).set j x
 | _, _ => l
theorem Y1l {α : Type} (l : List α) (i j : Nat) : (swp l i j).length = l.length := by
 unfold swp; split <;> simp
def ups (k : Nat) : Nat → Frm → Frm
 | 0, f => f
 | d + 1, f => ups k d { f with rows := swp f.rows (k + d + 1) (k + d), fr := swp f.fr (k + d + 1) (k + d), turned := !f.turned }
def at_ (l : List Int) (j : Nat) : Int := (l[j]?).getD 0
def row (m : List (List Int)) (i : Nat) : List Int := (m[i]?).getD []
def Y2x (p y e : Int) (k r : List Int) : List Int := List.zipWith (fun a b => (a * p - y * b) / e) r k
def piv (c : Nat) (f : Frm) : Frm :=
 let k := f.pivots.length
 let rk := row f.rows k
 let p := at_ rk c
 { f with rows := f.rows.mapIdx fun i r => if i = k then r else Y2x p (at_ r c) f.den rk r, den := p, pivots := f.pivots ++ [c] }
def find (c : Nat) : List (List Int) → Nat → Option Nat
 | [], _ => none
 | r :: l, k => if at_ r c ≠ 0 then some k else find c l (k + 1)
def col (f : Frm) (c : Nat) : Frm := match find c (f.rows.drop f.pivots.length) f.pivots.length with
 | none => f
 | some i => piv c (ups f.pivots.length (i - f.pivots.length) f)
def start (m : List (List Int)) : Frm := ⟨m, 1, [], List.range m.length, false⟩
def elim (m : List (List Int)) : Nat → Frm
 | 0 => start m
 | c + 1 => col (elim m c) c
structure Safe (w : Nat) (f : Frm) (c : Nat) : Prop where
 den : f.den ≠ 0 ∧ -9223372036854775807 ≤ f.den ∧ f.den ≤ 9223372036854775807
 nums : ∀ r ∈ f.rows, r.length = w ∧ ∀ x ∈ r, -9223372036854775807 ≤ x ∧ x ≤ 9223372036854775807
 exact_ : ∀ (i j : Nat), i < f.rows.length → i ≠ f.pivots.length → j < w → ∃ q, at_ (row f.rows i) j * at_ (row f.rows f.pivots.length) c - at_ (row f.rows i) c * at_ (row f.rows f.pivots.length) j = q * f.den ∧ -9223372036854775807 ≤ q ∧ q ≤ 9223372036854775807
def Fit (m : List (List Int)) (w n : Nat) : Prop := ∀ c, c < n → let f := elim m c
 (∀ r ∈ f.rows, r.length = w) ∧ f.rows.length = m.length ∧ f.pivots.length ≤ f.rows.length ∧ f.fr.length = m.length ∧
 match find c (f.rows.drop f.pivots.length) f.pivots.length with
 | none => True
 | some i => Safe w (ups f.pivots.length (i - f.pivots.length) f) c
end Go.Proofs.YtpbpafmgkdihlaaGreatDoor.Lin
end
section
namespace Go.Proofs.YtpbpafmgkdihlaaGreatDoor.Lin
def ex {α : Type} (h : α → List α → Int) : List α → Int
 | [] => 0
 | x :: xs => h x xs - ex (fun c r => h c (x :: r)) xs
abbrev Row := Nat → Int
def w : List Row → List Nat → Int
 | [], [] => 1
 | [], _ :: _ => 0
 | r :: rs, cs => ex (fun c rest => r c * w rs rest) cs
section
variable {α β : Type}
theorem Y1n : ∀ {cs : List α} {h h' : α → List α → Int}, (∀ c r, h c r = h' c r) → ex h cs = ex h' cs
 | [], _, _, _ => rfl
 | x :: xs, h, h', e => by
  simp only [ex]
  rw [e x xs, Y1n (fun c r => e c (x :: r))]
theorem Yqe : ∀ {cs : List α} {h h' : α → List α → Int}, ex (fun c r => h c r + h' c r) cs = ex h cs + ex h' cs
 | [], _, _ => rfl
 | x :: xs, h, h' => by
  simp only [ex]
  rw [Yqe]; omega
theorem Yqb : ∀ {cs : List α} {h h' : α → List α → Int}, ex (fun c r => h c r - h' c r) cs = ex h cs - ex h' cs
 | [], _, _ => rfl
 | x :: xs, h, h' => by
  simp only [ex]
  rw [Yqb]; omega
theorem Y8z (k : Int) : ∀ {cs : List α} {h : α → List α → Int}, ex (fun c r => k * h c r) cs = k * ex h cs
 | [], _ => by simp [ex]
 | x :: xs, h => by
  simp only [ex]
  rw [Y8z k, Int.mul_sub]
theorem Yaz : ∀ {cs : List α}, ex (fun _ _ => 0) cs = 0
 | [] => rfl
 | x :: xs => by simp only [ex]; rw [Yaz]; rfl
theorem Yqc {cs : List α} {h : α → List α → Int} : ex (fun c r => - h c r) cs = - ex h cs := by
 have := Y8z (-1) (cs := cs) (h := h)
 rw [← Y1n (fun c r => (show -1 * h c r = - h c r by omega)), this]; omega
theorem Y3k : ∀ {cs : List α} {h : α → List α → Int}, (∀ c r, c ∈ cs → h c r = 0) → ex h cs = 0
 | [], _, _ => rfl
 | x :: xs, h, e => by
  simp only [ex]
  rw [e x xs (by simp), Y3k (fun c r hc => e c (x :: r) (by simp [hc]))]; rfl
theorem Yvg : ∀ (cs : List α) (F : α → α → List α → Int), ex (fun c r => ex (fun d r' => F c d r') r) cs = - ex (fun c r => ex (fun d r' => F d c r') r) cs
 | [], F => rfl
 | x :: xs, F => by
  simp only [ex]
  have e1 : ∀ (F : α → α → List α → Int), ex (fun c r => F c x r - ex (fun d r' => F c d (x :: r')) r) xs = ex (fun c r => F c x r) xs - ex (fun c r => ex (fun d r' => F c d (x :: r')) r) xs := fun F => Yqb
  rw [e1 F, e1 (fun a b r => F b a r), Yvg xs (fun c d r => F c d (x :: r))]
  omega
theorem Yqa : ∀ (A : List α) (B : List β) (F : α → List α → β → List β → Int), ex (fun a as => ex (fun b bs => F a as b bs) B) A = ex (fun b bs => ex (fun a as => F a as b bs) A) B
 | [], B, F => by simp only [ex]; rw [Yaz]
 | x :: xs, B, F => by
  simp only [ex]
  rw [Yqa xs B (fun a as b bs => F a (x :: as) b bs), ← Yqb]
end
theorem Y2u (r : Row) (rs : List Row) (cs : List Nat) : w (r :: rs) cs = ex (fun c rest => r c * w rs rest) cs := rfl
theorem Y2h (r : Row) (rs : List Row) (j : Nat) (C : List Nat) : w (r :: rs) (j :: C) = r j * w rs C - ex (fun c rest => r c * w rs (j :: rest)) C := rfl
theorem Y9v (r s : Row) (rs : List Row) (cs : List Nat) : w (r :: s :: rs) cs = - w (s :: r :: rs) cs := by
 simp only [Y2u]
 have e : ∀ a b : Row, ex (fun c rest => a c * ex (fun d rest' => b d * w rs rest') rest) cs = ex (fun c rest => ex (fun d rest' => a c * b d * w rs rest') rest) cs := fun a b =>
  Y1n fun c r => by rw [← Y8z]; exact Y1n fun d r' => by rw [Int.mul_assoc]
 rw [e, e, Yvg]
 congr 1
 exact Y1n fun c q => Y1n fun d r' => by rw [Int.mul_comm (s c)]
theorem Yj3 (r s : Row) (rs : List Row) : ∀ (pre : List Row) (cs : List Nat), w (pre ++ r :: s :: rs) cs = - w (pre ++ s :: r :: rs) cs
 | [], cs => Y9v r s rs cs
 | p :: pre, cs => by
  simp only [List.cons_append, Y2u]
  rw [← Yqc]
  exact Y1n fun c rest => by rw [Yj3 r s rs pre rest]; rw [Int.mul_neg]
theorem Yux (r : Row) (post : List Row) : ∀ (pre : List Row) (cs : List Nat), w (r :: pre ++ r :: post) cs = 0
 | [], cs => by have := Y9v r r post cs; simp only [List.cons_append, List.nil_append]; omega
 | p :: pre, cs => by
  have h := Y9v r p (pre ++ r :: post) cs
  have h2 : w (p :: (r :: pre ++ r :: post)) cs = 0 := by
   rw [Y2u]
   exact Y3k fun c rest _ => by rw [Yux r post pre rest, Int.mul_zero]
  simp only [List.cons_append] at h h2 ⊢
  rw [h, h2]; rfl
theorem Yvz {r : Row} {S : List Row} (h : r ∈ S) (cs : List Nat) : w (r :: S) cs = 0 := by
 obtain ⟨a, b, rfl⟩ := List.append_of_mem h
 exact Yux r b a cs
theorem Yes (a b : Int) (r s : Row) (rs : List Row) (cs : List Nat) : w ((fun j => a * r j + b * s j) :: rs) cs = a * w (r :: rs) cs + b * w (s :: rs) cs := by
 simp only [Y2u]
 rw [← Y8z, ← Y8z, ← Yqe]
 exact Y1n fun c rest => by grind
theorem Yvh (x y : Nat) : ∀ (pre post : List Nat) (h : Nat → List Nat → Int), (∀ c pre post, h c (pre ++ x :: y :: post) = - h c (pre ++ y :: x :: post)) → ex h (pre ++ x :: y :: post) = - ex h (pre ++ y :: x :: post)
 | [], post, h, A => by
  simp only [List.nil_append, ex]
  have e1 : ex (fun c r => h c (x :: y :: r)) post = - ex (fun c r => h c (y :: x :: r)) post := by
   rw [← Yqc]; exact Y1n fun c r => A c [] r
  rw [e1]; omega
 | p :: pre, post, h, A => by
  simp only [List.cons_append, ex]
  rw [A p pre post, Yvh x y pre post (fun c r => h c (p :: r)) (fun c pre post => A c (p :: pre) post)]
  omega
theorem Y75 (x y : Nat) : ∀ (rs : List Row) (pre post : List Nat), w rs (pre ++ x :: y :: post) = - w rs (pre ++ y :: x :: post)
 | [], pre, post => by cases pre <;> rfl
 | r :: rs, pre, post => by
  simp only [Y2u]
  exact Yvh x y pre post _ fun c pre post => by rw [Y75 x y rs pre post, Int.mul_neg]
theorem Y9y (rs : List Row) (x : Nat) (post : List Nat) : ∀ (pre pre0 : List Nat), w rs (pre0 ++ x :: pre ++ x :: post) = 0
 | [], pre0 => by have := Y75 x x rs pre0 post; simp only [List.append_assoc, List.cons_append, List.nil_append]; omega
 | p :: pre, pre0 => by
  have h := Y75 x p rs pre0 (pre ++ x :: post)
  have h2 := Y9y rs x post pre (pre0 ++ [p])
  simp only [List.append_assoc, List.cons_append, List.nil_append] at h h2 ⊢
  rw [h, h2]; rfl
theorem Y96 {rs : List Row} {x : Nat} {C : List Nat} (h : x ∈ C) : w rs (x :: C) = 0 := by
 obtain ⟨a, b, rfl⟩ := List.append_of_mem h
 exact Y9y rs x b a []
def sgn : Nat → Int → Int
 | 0, x => x
 | n + 1, x => - sgn n x
theorem Ynx : ∀ (n : Nat) (k x : Int), sgn n (k * x) = k * sgn n x
 | 0, k, x => rfl
 | n + 1, k, x => by simp only [sgn]; rw [Ynx n k x, Int.mul_neg]
theorem Y7e : ∀ (n : Nat), sgn n 0 = 0
 | 0 => rfl
 | n + 1 => by simp only [sgn]; rw [Y7e n]; rfl
theorem Y6n (rs : List Row) (j : Nat) : ∀ (pre0 pre post : List Nat), w rs (pre0 ++ (pre ++ j :: post)) = sgn pre.length (w rs (pre0 ++ j :: (pre ++ post)))
 | _, [], post => rfl
 | pre0, p :: pre, post => by
  have h1 := Y6n rs j (pre0 ++ [p]) pre post
  have h2 := Y75 p j rs pre0 (pre ++ post)
  simp only [List.append_assoc, List.cons_append, List.nil_append, List.length_cons, sgn] at h1 h2 ⊢
  rw [h1, h2]
  have h : ∀ (n : Nat) (y : Int), sgn n (-y) = - sgn n y := fun n => by induction n with | zero => intro y; rfl | succ n ih => intro y; simp only [sgn]; rw [ih]
  rw [h]
def dot : List Int → List Row → Nat → Int
 | k :: ks, r :: rs, j => k * r j + dot ks rs j
 | _, _, _ => 0
def Span (rs : List Row) (f : Nat → Int) : Prop := ∃ ks, ks.length = rs.length ∧ ∀ j, f j = dot ks rs j
theorem Yqp : ∀ (ks ls : List Int) (rs : List Row) (j : Nat), ks.length = rs.length → ls.length = rs.length → dot (List.zipWith (· + ·) ks ls) rs j = dot ks rs j + dot ls rs j
  | [], ls, [], j, _, h2 => by have : ls = [] := by simpa using h2
                               subst this; rfl
  | [], ls, r :: rs, j, h1, _ => by simp at h1
  | k :: ks, ls, [], j, h1, _ => by simp at h1
  | k :: ks, [], r :: rs, j, _, h2 => by simp at h2
  | k :: ks, l :: ls, r :: rs, j, h1, h2 => by
    simp only [List.zipWith_cons_cons, dot]
    rw [Yqp ks ls rs j (by simpa using h1) (by simpa using h2)]
    grind
theorem Yqm (a : Int) : ∀ (ks : List Int) (rs : List Row) (j : Nat), dot (ks.map (a * ·)) rs j = a * dot ks rs j
 | [], rs, j => by simp [dot]
 | k :: ks, [], j => by simp [dot]
 | k :: ks, r :: rs, j => by
  simp only [List.map_cons, dot]
  rw [Yqm a ks rs j]; grind
theorem Span.add {rs : List Row} {f g : Nat → Int} (hf : Span rs f) (hg : Span rs g) : Span rs fun j => f j + g j := by
 obtain ⟨ks, h1, h2⟩ := hf
 obtain ⟨ls, h3, h4⟩ := hg
 exact ⟨List.zipWith (· + ·) ks ls, by simp [h1, h3], fun j => by show f j + g j = _; rw [Yqp _ _ _ _ h1 h3, h2, h4]⟩
theorem Span.mul {rs : List Row} {f : Nat → Int} (a : Int) (hf : Span rs f) : Span rs fun j => a * f j := by
 obtain ⟨ks, h1, h2⟩ := hf
 exact ⟨ks.map (a * ·), by simp [h1], fun j => by show a * f j = _; rw [Yqm, h2]⟩
theorem Span.congr {rs : List Row} {f g : Nat → Int} (hf : Span rs f) (h : ∀ j, g j = f j) : Span rs g := by
 obtain ⟨ks, h1, h2⟩ := hf
 exact ⟨ks, h1, fun j => by rw [h, h2]⟩
theorem Span.sub {rs : List Row} {f g : Nat → Int} (hf : Span rs f) (hg : Span rs g) : Span rs fun j => f j - g j :=
 (hf.add (hg.mul (-1))).congr fun j => by omega
theorem Ye9 : ∀ (rs : List Row) (j : Nat), dot (List.replicate rs.length 0) rs j = 0
 | [], j => rfl
 | r :: rs, j => by simp only [List.length_cons, List.replicate_succ, dot]; rw [Ye9 rs j]; omega
theorem Span.zero {rs : List Row} : Span rs fun _ => 0 := ⟨List.replicate rs.length 0, by simp, fun j => (Ye9 rs j).symm⟩
theorem Span.cons {r : Row} {rs : List Row} {f : Nat → Int} (hf : Span rs f) : Span (r :: rs) f := by
 obtain ⟨ks, h1, h2⟩ := hf
 exact ⟨0 :: ks, by simp [h1], fun j => by simp only [dot]; rw [h2]; omega⟩
theorem Span.head {r : Row} {rs : List Row} : Span (r :: rs) r :=
 ⟨1 :: List.replicate rs.length 0, by simp, fun j => by simp only [dot]; rw [Ye9]; omega⟩
theorem Span.mem : ∀ {rs : List Row} {r : Row}, r ∈ rs → Span rs r
 | [], r, h => by cases h
 | s :: rs, r, h => by
  rcases List.mem_cons.1 h with rfl | h
  ·exact .head
  ·exact (Span.mem h).cons
theorem Span.of_dot : ∀ {rs ss : List Row} (ks : List Int), (∀ r ∈ rs, Span ss r) → Span ss fun j => dot ks rs j
 | [], ss, ks, _ => Span.zero.congr fun j => by cases ks <;> rfl
 | r :: rs, ss, [], _ => Span.zero.congr fun j => rfl
 | r :: rs, ss, k :: ks, h => ((h r (by simp)).mul k).add (Span.of_dot ks fun r hr => h r (by simp [hr]))
theorem Span.trans {rs ss : List Row} {f : Nat → Int} (hf : Span rs f) (h : ∀ r ∈ rs, Span ss r) : Span ss f := by
 obtain ⟨ks, h1, h2⟩ := hf
 exact (Span.of_dot ks h).congr h2
theorem Span.sub_list {rs ss : List Row} {f : Nat → Int} (hf : Span rs f) (h : ∀ r ∈ rs, r ∈ ss) : Span ss f := hf.trans fun r hr => .mem (h r hr)
theorem Span.ex {rs : List Row} : ∀ (C : List Nat) (h : Nat → Nat → List Nat → Int), (∀ c r, Span rs fun j => h j c r) → Span rs fun j => ex (h j) C
 | [], _h, _ => Span.zero
 | x :: xs, h, hs => (hs x xs).sub (Span.ex xs (fun j c r => h j c (x :: r)) fun c r => hs c (x :: r))
theorem Ybl : ∀ (rs : List Row) (C : List Nat), Span rs fun j => w rs (j :: C)
 | [], C => Span.zero
 | r :: rs, C => by
  have h1 : Span (r :: rs) fun j => r j * w rs C := (Span.head.mul (w rs C)).congr fun j => Int.mul_comm _ _
  have h2 : Span (r :: rs) fun j => Lin.ex (fun c rest => r c * w rs (j :: rest)) C := Span.ex C (fun j c rest => r c * w rs (j :: rest)) fun c rest => ((Ybl rs rest).mul (r c)).cons
  exact h1.sub h2
theorem Y9x (rs : List Row) (pre post : List Nat) : Span rs fun j => w rs (pre ++ j :: post) := by
 have h := Ybl rs (pre ++ post)
 have : ∀ n : Nat, Span rs fun j => sgn n (w rs (j :: (pre ++ post))) := fun n => by
  induction n with
  | zero => exact h
  | succ n ih => exact (ih.mul (-1)).congr fun j => by simp only [sgn]; omega
 exact (this pre.length).congr fun j => by simpa using Y6n rs j [] pre post
theorem Y9w {S : List Row} {Y : Row} (h : Span S Y) (cs : List Nat) : w (Y :: S) cs = 0 := by
 obtain ⟨ks, hk, hY⟩ := h
 have key : ∀ (ks : List Int) (rs : List Row), (∀ r ∈ rs, r ∈ S) → w ((fun j => dot ks rs j) :: S) cs = 0 := by
  intro ks
  induction ks with
  | nil => intro rs _; rw [Y2u]; exact Y3k fun c r _ => by cases rs <;> simp [dot]
  | cons k ks ih =>
   intro rs hr
   cases rs with
   | nil => rw [Y2u]; exact Y3k fun c r _ => by simp [dot]
   | cons r rs =>
    have := Yes k 1 r (fun j => dot ks rs j) S cs
    simp only [Int.one_mul] at this
    show w ((fun j => k * r j + dot ks rs j) :: S) cs = 0
    rw [this, Yvz (hr r (by simp)), ih rs fun r h => hr r (by simp [h])]
    simp
 have : Y = fun j => dot ks S j := funext hY
 rw [this]
 exact key ks S fun r h => h
theorem Y50 {S : List Row} {C : List Nat} {Y : Row} (h : Span S Y) (h0 : ∀ c ∈ C, Y c = 0) (j : Nat) : w S C * Y j = 0 := by
 have h1 := Y9w h (j :: C)
 rw [Y2h, Y3k (fun c r hc => by rw [h0 c hc, Int.zero_mul])] at h1
 rw [Int.mul_comm]; omega
theorem Ypm {S : List Row} {C : List Nat} {Y : Row} (hD : w S C ≠ 0) (h : Span S Y) (h0 : ∀ c ∈ C, Y c = 0) (j : Nat) : Y j = 0 := by
 rcases Int.mul_eq_zero.1 (Y50 h h0 j) with h | h
 ·exact absurd h hD
 ·exact h
abbrev E (S : List Row) (C : List Nat) (s : Row) (j : Nat) : Int := w (s :: S) (j :: C)
theorem Yvn {S : List Row} {C : List Nat} {s : Row} : Span S fun j => E S C s j - w S C * s j := by
 have h2 : Span S fun j => Lin.ex (fun c rest => s c * w S (j :: rest)) C := Span.ex C (fun j c rest => s c * w S (j :: rest)) fun c rest => (Ybl S rest).mul (s c)
 exact (h2.mul (-1)).congr fun j => by
  show w (s :: S) (j :: C) - _ = _
  rw [Y2h, Int.mul_comm (s j)]; omega
theorem Ymt {S : List Row} {C : List Nat} {s : Row} {c : Nat} (h : c ∈ C) : E S C s c = 0 := Y96 h
theorem Yja {S : List Row} {C : List Nat} (s p : Row) (c : Nat) (hD' : E S C p c ≠ 0) (j : Nat) :
    w S C * E (p :: S) (c :: C) s j = E S C p c * E S C s j - E S C s c * E S C p j := by
  have hX : Span (p :: S) fun j => w S C * E (p :: S) (c :: C) s j - (E S C p c * E S C s j - E S C s c * E S C p j) := by
    have e1 := (Yvn (S := p :: S) (C := c :: C) (s := s)).mul (w S C)
    have e2 := ((Yvn (S := S) (C := C) (s := s)).mul (E S C p c)).cons (r := p)
    have e3 := (Ybl (p :: S) C).mul (E S C s c)
    refine ((e1.sub e2).add e3).congr fun j => ?_
    show _ = w S C * (E (p :: S) (c :: C) s j - w (p :: S) (c :: C) * s j) - E S C p c * (E S C s j - w S C * s j) + E S C s c * w (p :: S) (j :: C)
    show _ = w S C * (E (p :: S) (c :: C) s j - E S C p c * s j) - E S C p c * (E S C s j - w S C * s j) + E S C s c * E S C p j
    grind
  have h0 := Ypm (C := c :: C) hD' hX (fun d hd => by
    rw [Ymt hd]
    rcases List.mem_cons.1 hd with rfl | hd
    · grind
    · rw [Ymt hd, Ymt hd]; simp) j
  exact Int.sub_eq_zero.1 h0
theorem Ysf {S : List Row} {pre post : List Nat} (ci : Nat) (p : Row) (c : Nat) (hD' : E S (pre ++ ci :: post) p c ≠ 0) (j : Nat) :
    w S (pre ++ ci :: post) * w (p :: S) (c :: (pre ++ j :: post)) = E S (pre ++ ci :: post) p c * w S (pre ++ j :: post) - w S (pre ++ c :: post) * E S (pre ++ ci :: post) p j := by
  have hX : Span (p :: S) fun j => w S (pre ++ ci :: post) * w (p :: S) (c :: (pre ++ j :: post)) - (E S (pre ++ ci :: post) p c * w S (pre ++ j :: post) - w S (pre ++ c :: post) * E S (pre ++ ci :: post) p j) := by
    have e1 := (Y9x (p :: S) (c :: pre) post).mul (w S (pre ++ ci :: post))
    have e2 := ((Y9x S pre post).mul (E S (pre ++ ci :: post) p c)).cons (r := p)
    have e3 := (Ybl (p :: S) (pre ++ ci :: post)).mul (w S (pre ++ c :: post))
    exact (e1.sub (e2.sub e3)).congr fun j => rfl
  have same : ∀ (rs : List Row) (d : Nat), d ∈ pre ++ post → w rs (pre ++ d :: post) = 0 := fun rs d hd => by
    have := Y6n rs d [] pre post
    simp only [List.nil_append] at this
    rw [this, Y96 hd, Y7e]
  have same' : ∀ (rs : List Row) (d : Nat), d ∈ pre ++ post → w rs (c :: (pre ++ d :: post)) = 0 := fun rs d hd => by
    have := Y6n rs d [c] pre post
    simp only [List.cons_append, List.nil_append] at this
    obtain ⟨a, b, hab⟩ := List.append_of_mem hd
    rw [this, hab]
    have := Y9y rs d b a [c]
    simp only [List.cons_append, List.nil_append] at this
    rw [this, Y7e]
  have h0 := Ypm (C := c :: (pre ++ ci :: post)) hD' hX (fun d hd => by
    rcases List.mem_cons.1 hd with rfl | hd
    · have h1 : w (p :: S) (d :: (pre ++ d :: post)) = 0 := Y96 (by simp)
      rw [h1]; grind
    · by_cases e : d = ci
      · subst e
        rw [Ymt hd]
        show w S (pre ++ d :: post) * w (p :: S) (c :: (pre ++ d :: post)) - (E S (pre ++ d :: post) p c * w S (pre ++ d :: post) - _ * 0) = 0
        show w S (pre ++ d :: post) * E S (pre ++ d :: post) p c - (E S (pre ++ d :: post) p c * w S (pre ++ d :: post) - _ * 0) = 0
        grind
      · have hd' : d ∈ pre ++ post := by
          simp only [List.mem_append, List.mem_cons] at hd ⊢
          rcases hd with h | h | h
          · exact .inl h
          · exact absurd h e
          · exact .inr h
        rw [same S d hd', same' _ d hd', Ymt hd]; simp) j
  exact Int.sub_eq_zero.1 h0
end Go.Proofs.YtpbpafmgkdihlaaGreatDoor.Lin
end
section
namespace Go.Proofs.YtpbpafmgkdihlaaGreatDoor.Lin
theorem Y6e {a b A B : Int} (ha : -A ≤ a ∧ a ≤ A) (hb : -B ≤ b ∧ b ≤ B) : -(A * B) ≤ a * b ∧ a * b ≤ A * B := by
 have hA : 0 ≤ A := by omega
 have hB : 0 ≤ B := by omega
 have h1 : (a.natAbs : Int) * b.natAbs ≤ A * B := Int.mul_le_mul (by omega) (by omega) (by omega) hA
 have h2 : (a * b).natAbs = a.natAbs * b.natAbs := Int.natAbs_mul a b
 have h3 : ((a * b).natAbs : Int) ≤ A * B := by rw [h2]; simpa using h1
 omega
def fact : Nat → Int
 | 0 => 1
 | n + 1 => ((n + 1 : Nat) : Int) * fact n
theorem Yk4 : ∀ n, 0 < fact n
 | 0 => by decide
 | n + 1 => Int.mul_pos (by omega) (Yk4 n)
def Y38 (b : Nat → Int) : List Nat → Int
 | [] => 1
 | c :: cs => b c * Y38 b cs
theorem Y20 {b : Nat → Int} (hb : ∀ j, 0 ≤ b j) : ∀ cs, 0 ≤ Y38 b cs
 | [] => Int.one_nonneg
 | c :: cs => Int.mul_nonneg (hb c) (Y20 hb cs)
theorem Ybv {b : Nat → Int} {l l' : List Nat} (h : l.Perm l') : Y38 b l = Y38 b l' := by
 induction h with
 | nil => rfl
 | cons x _ ih => simp only [Y38, ih]
 | swap x y l => simp only [Y38]; grind
 | trans _ _ h1 h2 => rw [h1, h2]
theorem Y9n {α : Type} {K : Int} (hK : 0 ≤ K) : ∀ (cs : List α) (h : α → List α → Int), (∀ c r, (c :: r).Perm cs → -K ≤ h c r ∧ h c r ≤ K) → -(cs.length * K) ≤ ex h cs ∧ ex h cs ≤ cs.length * K
 | [], h, _ => by simp [ex]
 | x :: xs, h, hb => by
  have h1 := hb x xs (.refl _)
  have h2 := Y9n hK xs (fun c r => h c (x :: r)) fun c r hp => hb c (x :: r) ((List.Perm.swap x c r).trans (hp.cons x))
  simp only [ex, List.length_cons, Int.natCast_add, Int.natCast_one, Int.add_mul, Int.one_mul]
  omega
theorem Ycy {b : Nat → Int} (hb : ∀ j, 0 ≤ b j) : ∀ (rs : List Row) (cs : List Nat), (∀ r ∈ rs, ∀ j, -b j ≤ r j ∧ r j ≤ b j) → cs.length = rs.length → -(fact rs.length * Y38 b cs) ≤ w rs cs ∧ w rs cs ≤ fact rs.length * Y38 b cs
 | [], [], _, _ => by simp [w, fact, Y38]
 | [], _ :: _, _, h => by simp at h
 | r :: rs, cs, hr, hl => by
  have hK : 0 ≤ fact rs.length * Y38 b cs := Int.mul_nonneg (Int.le_of_lt (Yk4 _)) (Y20 hb cs)
  have h1 := Y9n hK cs (fun c rest => r c * w rs rest) fun c rest hp => by
   have hlr : rest.length = rs.length := by have := hp.length_eq; simp at this hl; omega
   have h2 := Ycy hb rs rest (fun r h => hr r (by simp [h])) hlr
   have h3 := Y6e (hr r (by simp) c) h2
   have e : fact rs.length * Y38 b cs = b c * (fact rs.length * Y38 b rest) := by rw [← Ybv hp]; simp only [Y38]; grind
   rw [e]; exact h3
  rw [hl] at h1
  have e : fact (r :: rs).length * Y38 b cs = ((r :: rs).length : Int) * (fact rs.length * Y38 b cs) := by simp only [List.length_cons, fact]; grind
  rw [e, Y2u]
  exact h1
theorem Yok {x : Int} (hx : 1 ≤ x) : ∀ n : Nat, 1 ≤ x ^ n
 | 0 => by simp
 | n + 1 => by
  have h := Int.mul_le_mul (Yok hx n) hx (by omega) (by have := Yok hx n; omega)
  rw [Int.pow_succ]; omega
theorem Ydf {b : Nat → Int} {x y : Int} (hx : 1 ≤ x) (hb : ∀ j, 0 ≤ b j) : ∀ cs : List Nat, (∀ c ∈ cs, b c ≤ x) → ∀ n, cs.length ≤ n → Y38 b cs ≤ x ^ n
 | [], _, n, _ => by
  simp only [Y38]
  exact Yok hx n
 | c :: cs, h, 0, hn => by simp at hn
 | c :: cs, h, n + 1, hn => by
  have h1 := Ydf (y := y) hx hb cs (fun c hc => h c (by simp [hc])) n (by simpa using hn)
  simp only [Y38, Int.pow_succ]
  rw [Int.mul_comm]
  exact Int.mul_le_mul h1 (h c (by simp)) (hb c) (Int.le_trans (Y20 hb cs) h1)
theorem Yfj {b : Nat → Int} {x y : Int} (hx : 1 ≤ x) (hb : ∀ j, 0 ≤ b j) {pre post : List Nat} {j : Nat} (h : ∀ c ∈ pre ++ post, b c ≤ x) (hj : b j ≤ y) {n : Nat} (hn : (pre ++ post).length ≤ n) : Y38 b (pre ++ j :: post) ≤ y * x ^ n := by
 have hp : Y38 b (pre ++ j :: post) = Y38 b (j :: (pre ++ post)) := Ybv List.perm_middle
 rw [hp]
 simp only [Y38]
 exact Int.mul_le_mul hj (Ydf (y := y) hx hb _ h n hn) (Y20 hb _) (Int.le_trans (hb j) hj)
def srow (m : List (List Int)) (f : Frm) (i : Nat) : List Int := row m ((f.fr[i]?).getD 0)
def SS (m : List (List Int)) (f : Frm) : List Row := (((f.fr.take f.pivots.length).map (row m)).reverse).map at_
def CC (f : Frm) : List Nat := f.pivots.reverse
def sgb (b : Bool) (n : Int) : Int := if b = true then -n else n
structure Inv (m : List (List Int)) (wd c : Nat) (f : Frm) : Prop where
 k_le : f.pivots.length ≤ m.length
 nr : f.rows.length = m.length
 nf : f.fr.length = m.length
 lens : ∀ r ∈ f.rows, r.length = wd
 frm : f.fr.Perm (List.range m.length)
 den : f.den = w (SS m f) (CC f)
 den0 : f.den ≠ 0
 lt : ∀ p ∈ f.pivots, p < c
 nd : f.pivots.Pairwise (· < ·)
 piv : ∀ (pre post : List Nat) (ci : Nat), CC f = pre ++ ci :: post → ∀ j, j < wd → at_ (row f.rows post.length) j = w (SS m f) (pre ++ j :: post)
 rest : ∀ i, f.pivots.length ≤ i → i < m.length → ∀ j, j < wd → at_ (row f.rows i) j = E (SS m f) (CC f) (at_ (srow m f i)) j
 zero : ∀ i, f.pivots.length ≤ i → i < m.length → ∀ j, j < c → E (SS m f) (CC f) (at_ (srow m f i)) j = 0
 sign : ∀ cs, w (((f.fr.map (row m)).reverse).map at_) cs = sgb f.turned (w (m.reverse.map at_) cs)
theorem Y61 {m : List (List Int)} {wd c : Nat} {f : Frm} (h : Inv m wd c f) : (SS m f).length = f.pivots.length := by
 have h1 := h.k_le
 have h2 := h.nf
 simp [SS]; omega
theorem Y36 (f : Frm) : (CC f).length = f.pivots.length := by simp [CC]
theorem row_get {m : List (List Int)} {i : Nat} (h : i < m.length) : row m i = m[i] := by simp [row, h]
theorem Ynr {m : List (List Int)} {wd : Nat} (hw : ∀ r ∈ m, r.length = wd) : Inv m wd 0 (start m) where
 k_le := Nat.zero_le _
 nr := rfl
 nf := by simp [start]
 lens := hw
 frm := .refl _
 den := rfl
 den0 := by show (1 : Int) ≠ 0; decide
 lt := fun p h => by cases h
 nd := .nil
 piv := fun pre post ci h => by
  have := congrArg List.length h
  simp [CC, start] at this
 rest := fun i _ hi j _ => by
  have : srow m (start m) i = row m i := by simp [srow, start, hi]
  rw [this]
  show at_ (row m i) j = w (at_ (row m i) :: []) (j :: [])
  simp [w, ex]
 zero := fun i _ _ j hj => by omega
 sign := fun cs => by
  have : (start m).fr.map (row m) = m := by
   apply List.ext_getElem?
   intro i
   by_cases h : i < m.length
   ·simp [start, h, row]
   ·simp [start, h]
  rw [this]
  rfl
theorem Ybk (x y : Row) (post : List Row) : ∀ (mid pre : List Row) (cs : List Nat), w (pre ++ x :: (mid ++ y :: post)) cs = - w (pre ++ y :: (mid ++ x :: post)) cs
 | [], pre, cs => Yj3 x y post pre cs
 | z :: mid, pre, cs => by
  have h1 := Yj3 x z (mid ++ y :: post) pre cs
  have h2 := Ybk x y post mid (pre ++ [z]) cs
  have h3 := Yj3 z y (mid ++ x :: post) pre cs
  simp only [List.append_assoc, List.cons_append, List.nil_append] at h1 h2 h3 ⊢
  rw [h1, h2, ← h3]; omega
theorem swp_get {α : Type} (l : List α) {i j : Nat} (hi : i < l.length) (hj : j < l.length) (x : Nat) : (swp l i j)[x]? = if x = j then l[i]? else if x = i then l[j]? else l[x]? := by
 unfold swp
 rw [List.getElem?_eq_getElem hi, List.getElem?_eq_getElem hj]
 simp only
 by_cases h1 : x = j
 ·subst h1; rw [List.getElem?_set_self (by simpa using hj), if_pos rfl]
 ·rw [List.getElem?_set_ne (Ne.symm h1), if_neg h1]
  by_cases h2 : x = i
  ·subst h2; rw [List.getElem?_set_self hi, if_pos rfl]
  ·rw [List.getElem?_set_ne (Ne.symm h2), if_neg h2]
theorem Yf3 {α : Type} {l : List α} {i j : Nat} (hij : i < j) (hj : j < l.length) : ∃ a x b y c, l = a ++ x :: (b ++ y :: c) ∧ swp l i j = a ++ y :: (b ++ x :: c) ∧ a.length = i := by
 have hi : i < l.length := by omega
 obtain ⟨a, x, t, e1, e2⟩ : ∃ a x t, l = a ++ x :: t ∧ a.length = i := ⟨l.take i, l[i], l.drop (i + 1), by rw [List.getElem_cons_drop, List.take_append_drop], by simp; omega⟩
 have ht : j - i - 1 < t.length := by have := congrArg List.length e1; simp at this; omega
 obtain ⟨b, y, c, e3, e4⟩ : ∃ b y c, t = b ++ y :: c ∧ b.length = j - i - 1 := ⟨t.take (j - i - 1), t[j - i - 1], t.drop (j - i - 1 + 1), by rw [List.getElem_cons_drop, List.take_append_drop], by simp; omega⟩
 refine ⟨a, x, b, y, c, by rw [e1, e3], ?_, e2⟩
 apply List.ext_getElem?
 intro z
 rw [swp_get l hi hj z, e1, e3]
 have hx : (a ++ x :: (b ++ y :: c))[i]? = some x := by rw [List.getElem?_append_right (by omega), e2, Nat.sub_self]; rfl
 have hy : (a ++ x :: (b ++ y :: c))[j]? = some y := by
  rw [List.getElem?_append_right (by omega), e2, show j - i = (j - i - 1) + 1 by omega, List.getElem?_cons_succ, List.getElem?_append_right (by omega), e4, Nat.sub_self]; rfl
 rw [hx, hy]
 by_cases h1 : z = j
 ·rw [if_pos h1, h1, List.getElem?_append_right (by omega), e2, show j - i = (j - i - 1) + 1 by omega, List.getElem?_cons_succ, List.getElem?_append_right (by omega), e4, Nat.sub_self]; rfl
 ·rw [if_neg h1]
  by_cases h2 : z = i
  ·rw [if_pos h2, h2, List.getElem?_append_right (by omega), e2, Nat.sub_self]; rfl
  ·rw [if_neg h2]
   by_cases h3 : z < i
   ·rw [List.getElem?_append_left (by omega), List.getElem?_append_left (by omega)]
   ·rw [List.getElem?_append_right (by omega), List.getElem?_append_right (by omega), e2, show z - i = (z - i - 1) + 1 by omega, List.getElem?_cons_succ, List.getElem?_cons_succ]
    by_cases h4 : z < j
    ·rw [List.getElem?_append_left (by omega), List.getElem?_append_left (by omega)]
    ·rw [List.getElem?_append_right (by omega), List.getElem?_append_right (by omega), e4, show z - i - 1 - (j - i - 1) = (z - j - 1) + 1 by omega, List.getElem?_cons_succ, List.getElem?_cons_succ]
theorem swp_comm {α : Type} (l : List α) (i j : Nat) (hi : i < l.length) (hj : j < l.length) : swp l i j = swp l j i := by
 apply List.ext_getElem?
 intro x
 rw [swp_get l hi hj, swp_get l hj hi]
 by_cases h1 : x = j <;> by_cases h2 : x = i <;> simp_all
theorem swp_perm {α : Type} {l : List α} {i j : Nat} (hij : i < j) (hj : j < l.length) : (swp l i j).Perm l := by
 obtain ⟨a, x, b, y, c, e1, e2, _⟩ := Yf3 hij hj
 rw [e2, e1]
 refine List.Perm.append_left a ?_
 refine (List.perm_middle (a := x) (l₁ := b) (l₂ := c)).cons y |>.trans ?_
 refine (List.Perm.swap x y (b ++ c)).trans ?_
 exact (List.perm_middle (a := y) (l₁ := b) (l₂ := c)).symm.cons x
def swpF (f : Frm) (i j : Nat) : Frm := { f with rows := swp f.rows i j, fr := swp f.fr i j, turned := !f.turned }
theorem Ysb {α : Type} (l : List α) {i j k : Nat} (hi : k ≤ i) (hj : k ≤ j) (hi' : i < l.length) (hj' : j < l.length) : (swp l i j).take k = l.take k := by
 apply List.ext_getElem?
 intro x
 simp only [List.getElem?_take]
 by_cases h : x < k
 ·rw [if_pos h, if_pos h, swp_get l hi' hj', if_neg (by omega), if_neg (by omega)]
 ·rw [if_neg h, if_neg h]
theorem Ysc {m : List (List Int)} {wd c : Nat} {f : Frm} (h : Inv m wd c f) {i j : Nat} (hi : f.pivots.length ≤ i) (hij : i < j) (hj : j < m.length) : Inv m wd c (swpF f i j) := by
 have hjr : j < f.rows.length := by rw [h.nr]; exact hj
 have hjf : j < f.fr.length := by rw [h.nf]; exact hj
 have hSS : SS m (swpF f i j) = SS m f := by simp only [SS, swpF]; rw [Ysb f.fr hi (by omega) (by omega) hjf]
 have hCC : CC (swpF f i j) = CC f := rfl
 have hrow : ∀ x, row (swpF f i j).rows x = if x = j then row f.rows i else if x = i then row f.rows j else row f.rows x := fun x => by
  simp only [row, swpF]
  rw [swp_get f.rows (by omega) hjr]
  split
  ·rfl
  ·split <;> rfl
 have hsr : ∀ x, srow m (swpF f i j) x = if x = j then srow m f i else if x = i then srow m f j else srow m f x := fun x => by
  simp only [srow, swpF]
  rw [swp_get f.fr (by omega) hjf]
  split
  ·rfl
  ·split <;> rfl
 refine ⟨h.k_le, ?_, ?_, fun r hr => ?_, ?_, ?_, h.den0, h.lt, h.nd, fun pre post ci e x hx => ?_, fun x h1 h2 y hy => ?_, fun x h1 h2 y hy => ?_, fun cs => ?_⟩
 ·simp only [swpF, Y1l]; exact h.nr
 ·simp only [swpF, Y1l]; exact h.nf
 ·exact h.lens r ((swp_perm hij hjr).mem_iff.1 hr)
 ·exact (swp_perm hij hjf).trans h.frm
 ·rw [hSS, hCC]; exact h.den
 ·have hlt : post.length < f.pivots.length := by
   have := congrArg List.length (hCC ▸ e)
   simp [Y36] at this; omega
  rw [hSS, hrow, if_neg (by omega), if_neg (by omega)]
  exact h.piv pre post ci (hCC ▸ e) x hx
 ·rw [hSS, hCC, hrow, hsr]
  have h1' : f.pivots.length ≤ x := h1
  split
  ·exact h.rest i hi (by omega) y hy
  ·split
   ·exact h.rest j (by omega) hj y hy
   ·exact h.rest x h1' h2 y hy
 ·rw [hSS, hCC, hsr]
  have h1' : f.pivots.length ≤ x := h1
  split
  ·exact h.zero i hi (by omega) y hy
  ·split
   ·exact h.zero j (by omega) hj y hy
   ·exact h.zero x h1' h2 y hy
 ·obtain ⟨a, x, b, y, d, e1, e2, _⟩ := Yf3 hij hjf
  have h1 := h.sign cs
  rw [e1] at h1
  show w ((((swp f.fr i j).map (row m)).reverse).map at_) cs = sgb (!f.turned) _
  rw [e2]
  have h2 := Ybk (at_ (row m y)) (at_ (row m x)) ((a.map (row m)).reverse.map at_) ((b.map (row m)).reverse.map at_) ((d.map (row m)).reverse.map at_) cs
  simp only [List.map_append, List.map_cons, List.reverse_append, List.reverse_cons, List.map_reverse, List.append_assoc, List.cons_append, List.nil_append] at h1 h2 ⊢
  rw [h1] at h2
  revert h2
  unfold sgb
  cases f.turned <;> simp <;> omega
theorem Yh2 {m : List (List Int)} {wd c k : Nat} : ∀ (d : Nat) {f : Frm}, Inv m wd c f → k = f.pivots.length → k + d < m.length → Inv m wd c (ups k d f) ∧ (ups k d f).pivots = f.pivots ∧ (ups k d f).den = f.den ∧ row (ups k d f).rows k = row f.rows (k + d)
 | 0, f, h, _, _ => ⟨h, rfl, rfl, rfl⟩
 | d + 1, f, h, hk, hd => by
  have e : ({ f with rows := swp f.rows (k + d + 1) (k + d), fr := swp f.fr (k + d + 1) (k + d), turned := !f.turned } : Frm) = swpF f (k + d) (k + d + 1) := by
   unfold swpF
   rw [swp_comm f.rows (k + d + 1) (k + d) (by rw [h.nr]; omega) (by rw [h.nr]; omega), swp_comm f.fr (k + d + 1) (k + d) (by rw [h.nf]; omega) (by rw [h.nf]; omega)]
  have h1 := Ysc h (i := k + d) (j := k + d + 1) (by omega) (by omega) (by omega)
  obtain ⟨g1, g2, g3, g4⟩ := Yh2 d h1 hk (by omega)
  simp only [ups, e]
  refine ⟨g1, g2, g3, ?_⟩
  rw [g4]
  simp only [row, swpF]
  rw [swp_get f.rows (by rw [h.nr]; omega) (by rw [h.nr]; omega), if_neg (by omega), if_pos rfl]
  rfl
theorem Yxt {p y e : Int} {r k : List Int} {j : Nat} (hr : j < r.length) (hk : j < k.length) : at_ (Y2x p y e r k) j = (at_ k j * p - y * at_ r j) / e := by
 have h1 : (Y2x p y e r k)[j]? = some ((k[j] * p - y * r[j]) / e) := by
  unfold Y2x
  rw [List.getElem?_zipWith, List.getElem?_eq_getElem hr, List.getElem?_eq_getElem hk]
 simp only [at_, h1, List.getElem?_eq_getElem hr, List.getElem?_eq_getElem hk, Option.getD_some]
theorem quot {q a e : Int} (he : e ≠ 0) (h : e * q = a) : a / e = q := by rw [← h]; exact Int.mul_ediv_cancel_left q he
theorem Y5r {c : Nat} {f : Frm} {i : Nat} (hi : i < f.rows.length) : row (piv c f).rows i = if i = f.pivots.length then row f.rows i else Y2x (at_ (row f.rows f.pivots.length) c) (at_ (row f.rows i) c) f.den (row f.rows f.pivots.length) (row f.rows i) := by
 simp only [row, Lin.piv, List.getElem?_mapIdx, List.getElem?_eq_getElem hi, Option.map_some, Option.getD_some]
theorem Yon {m : List (List Int)} {wd c : Nat} {f : Frm} (h : Inv m wd c f) (hk : f.pivots.length < m.length) (hc : c < wd) (hp : at_ (row f.rows f.pivots.length) c ≠ 0) :
    Inv m wd (c + 1) (piv c f) ∧ ∀ i, i < m.length → i ≠ f.pivots.length → ∀ j, j < wd → at_ (row f.rows i) j * at_ (row f.rows f.pivots.length) c - at_ (row f.rows i) c * at_ (row f.rows f.pivots.length) j = at_ (row (piv c f).rows i) j * f.den := by
  let k := f.pivots.length
  have hkr : k < f.rows.length := by rw [h.nr]; exact hk
  have hlk : (row f.rows k).length = wd := by rw [row_get hkr]; exact h.lens _ (List.getElem_mem hkr)
  have hli : ∀ i, i < m.length → (row f.rows i).length = wd := fun i hi => by
    have : i < f.rows.length := by rw [h.nr]; exact hi
    rw [row_get this]; exact h.lens _ (List.getElem_mem this)
  have hpe : at_ (row f.rows k) c = E (SS m f) (CC f) (at_ (srow m f k)) c := h.rest k (Nat.le_refl _) hk c hc
  have hD' : E (SS m f) (CC f) (at_ (srow m f k)) c ≠ 0 := by rw [← hpe]; exact hp
  have hSS : SS m (piv c f) = at_ (srow m f k) :: SS m f := by
    have hkf : k < f.fr.length := by rw [h.nf]; exact hk
    have e1 : f.fr.take (k + 1) = f.fr.take k ++ [f.fr[k]] := by rw [List.take_add_one, List.getElem?_eq_getElem hkf]; rfl
    have e2 : srow m f k = row m f.fr[k] := by simp only [srow, List.getElem?_eq_getElem hkf, Option.getD_some]
    show ((f.fr.take (f.pivots ++ [c]).length).map (row m)).reverse.map at_ = at_ (srow m f k) :: ((f.fr.take k).map (row m)).reverse.map at_
    rw [show (f.pivots ++ [c]).length = k + 1 by simp [k], e1, e2]
    simp only [List.map_append, List.map_cons, List.map_nil, List.reverse_append, List.reverse_cons, List.reverse_nil, List.nil_append, List.singleton_append]
  have hCC : CC (piv c f) = c :: CC f := by simp [CC, Lin.piv]
  have new : ∀ i, i < m.length → i ≠ k → ∀ j, j < wd → ∀ q, f.den * q = at_ (row f.rows i) j * at_ (row f.rows k) c - at_ (row f.rows i) c * at_ (row f.rows k) j → at_ (row (piv c f).rows i) j = q := fun i hi hik j hj q hq => by
    rw [Y5r (by rw [h.nr]; exact hi), if_neg hik, Yxt (by rw [hlk]; exact hj) (by rw [hli i hi]; exact hj)]
    exact quot h.den0 hq
  have hrk : ∀ j, j < wd → at_ (row f.rows k) j = E (SS m f) (CC f) (at_ (srow m f k)) j := fun j hj => h.rest k (Nat.le_refl _) hk j hj
  have old : ∀ (pre post : List Nat) (ci : Nat), CC f = pre ++ ci :: post → ∀ j, j < wd → f.den * w (at_ (srow m f k) :: SS m f) (c :: (pre ++ j :: post)) = at_ (row f.rows post.length) j * at_ (row f.rows k) c - at_ (row f.rows post.length) c * at_ (row f.rows k) j := fun pre post ci e j hj => by
    rw [h.piv pre post ci e j hj, h.piv pre post ci e c hc, hrk j hj, hpe, h.den]
    have := Ysf (S := SS m f) (pre := pre) (post := post) ci (at_ (srow m f k)) c (by rw [← e]; exact hD') j
    rw [← e] at this
    rw [this, Int.mul_comm (E _ _ _ c)]
  have left : ∀ i, k ≤ i → i < m.length → i ≠ k → ∀ j, j < wd → f.den * E (at_ (srow m f k) :: SS m f) (c :: CC f) (at_ (srow m f i)) j = at_ (row f.rows i) j * at_ (row f.rows k) c - at_ (row f.rows i) c * at_ (row f.rows k) j := fun i h1 h2 _ j hj => by
    rw [h.rest i h1 h2 j hj, h.rest i h1 h2 c hc, hrk j hj, hpe, h.den]
    rw [Yja (S := SS m f) (C := CC f) (at_ (srow m f i)) (at_ (srow m f k)) c hD' j, Int.mul_comm (E _ _ _ c)]
  have plen : (piv c f).pivots.length = k + 1 := by simp [Lin.piv, k]
  refine ⟨⟨by rw [plen]; omega, by simp [Lin.piv]; exact h.nr, h.nf, fun r hr => ?_, h.frm, ?_, hp, fun p hp' => ?_, ?_, fun pre post ci e j hj => ?_, fun i h1 h2 j hj => ?_, fun i h1 h2 j hj => ?_, h.sign⟩, fun i hi hik j hj => ?_⟩
  · obtain ⟨i, hi⟩ := List.mem_iff_getElem?.1 hr
    have hlt : i < f.rows.length := by have := (List.getElem?_eq_some_iff.1 hi).1; simpa [Lin.piv] using this
    have hrow : row (piv c f).rows i = r := by simp [row, hi]
    rw [← hrow, Y5r hlt]
    split
    · exact hli i (by rw [← h.nr]; exact hlt)
    · simp only [Y2x, List.length_zipWith]
      rw [hlk, hli i (by rw [← h.nr]; exact hlt), Nat.min_self]
  · rw [hSS, hCC]
    show at_ (row f.rows k) c = _
    rw [hpe]
  · simp only [Lin.piv, List.mem_append, List.mem_singleton] at hp'
    rcases hp' with hp' | rfl
    · have := h.lt p hp'; omega
    · omega
  · simp only [Lin.piv]
    refine List.pairwise_append.2 ⟨h.nd, List.pairwise_singleton _ _, fun a ha b hb => ?_⟩
    simp only [List.mem_singleton] at hb
    subst hb
    exact h.lt a ha
  · rw [hCC] at e
    rw [hSS]
    cases pre with
    | nil =>
      simp only [List.nil_append, List.cons.injEq] at e
      obtain ⟨rfl, rfl⟩ := e
      have hl : (CC f).length = k := Y36 f
      rw [hl, Y5r hkr, if_pos rfl, hrk j hj]
      rfl
    | cons c0 pre =>
      simp only [List.cons_append, List.cons.injEq] at e
      obtain ⟨rfl, e⟩ := e
      have hlt : post.length < k := by have := congrArg List.length e; simp [Y36] at this; omega
      exact new post.length (by omega) (by omega) j hj _ (old pre post ci e j hj)
  · rw [plen] at h1
    rw [hSS, hCC]
    exact new i h2 (by omega) j hj _ (left i (by omega) h2 (by omega) j hj)
  · rw [plen] at h1
    rw [hSS, hCC]
    show E (at_ (srow m f k) :: SS m f) (c :: CC f) (at_ (srow m f i)) j = 0
    by_cases e : j = c
    · subst e; exact Ymt (by simp)
    · have s := Yja (S := SS m f) (C := CC f) (at_ (srow m f i)) (at_ (srow m f k)) c hD' j
      rw [h.zero i (by omega) h2 j (by omega), h.zero k (Nat.le_refl _) hk j (by omega), Int.mul_zero, Int.mul_zero, Int.sub_zero] at s
      rcases Int.mul_eq_zero.1 s with s | s
      · exact absurd (h.den.trans s) h.den0
      · exact s
  · by_cases hlt : i < k
    · obtain ⟨pre, ci, post, e, hl⟩ : ∃ pre ci post, CC f = pre ++ ci :: post ∧ post.length = i := by
        have hl : (CC f).length = k := Y36 f
        refine ⟨(CC f).take (k - 1 - i), (CC f)[k - 1 - i]'(by omega), (CC f).drop (k - 1 - i + 1), by rw [List.getElem_cons_drop, List.take_append_drop], by simp; omega⟩
      subst hl
      have o := old pre post ci e j hj
      rw [new post.length hi hik j hj _ o, Int.mul_comm _ f.den]
      exact o.symm
    · have o := left i (by omega) hi hik j hj
      rw [new i hi hik j hj _ o, Int.mul_comm _ f.den]
      exact o.symm
theorem Y7s {c : Nat} : ∀ {l : List (List Int)} {k i : Nat}, find c l k = some i → k ≤ i ∧ i - k < l.length ∧ at_ (row l (i - k)) c ≠ 0
 | [], k, i, h => by simp [find] at h
 | r :: l, k, i, h => by
  simp only [find] at h
  split at h
  ·rename_i hr
   cases h
   simp [row]; exact hr
  ·obtain ⟨h1, h2, h3⟩ := Y7s h
   refine ⟨by omega, by simp; omega, ?_⟩
   rw [show i - k = (i - (k + 1)) + 1 by omega]
   simpa [row] using h3
theorem Ygc {c : Nat} : ∀ {l : List (List Int)} {k : Nat}, find c l k = none → ∀ i, at_ (row l i) c = 0
 | [], k, _, i => by simp [row, at_]
 | r :: l, k, h, i => by
  simp only [find] at h
  split at h
  ·cases h
  ·rename_i hr
   cases i with
   | zero => simpa [row] using hr
   | succ i => simpa [row] using Ygc h i
theorem Yda (m : List (List Int)) (k i : Nat) : row (m.drop k) i = row m (k + i) := by simp [row, List.getElem?_drop]
structure Mover (m : List (List Int)) (wd : Nat) (mv : Nat → Nat → Frm → Frm) : Prop where
 keep : ∀ {c : Nat} (d : Nat) {f : Frm}, Inv m wd c f → f.pivots.length + d < m.length → Inv m wd c (mv f.pivots.length d f) ∧ (mv f.pivots.length d f).pivots = f.pivots ∧ (mv f.pivots.length d f).den = f.den ∧ row (mv f.pivots.length d f).rows f.pivots.length = row f.rows (f.pivots.length + d)
def Yqx (mv : Nat → Nat → Frm → Frm) (f : Frm) (c : Nat) : Frm := match find c (f.rows.drop f.pivots.length) f.pivots.length with
 | none => f
 | some i => piv c (mv f.pivots.length (i - f.pivots.length) f)
def Yk6 (mv : Nat → Nat → Frm → Frm) (m : List (List Int)) : Nat → Frm
 | 0 => start m
 | c + 1 => Yqx mv (Yk6 mv m c) c
theorem Y5a (m : List (List Int)) : ∀ c, elim m c = Yk6 ups m c
 | 0 => rfl
 | c + 1 => by
  show col (elim m c) c = Yqx ups (Yk6 ups m c) c
  rw [Y5a m c]
  unfold col Yqx
  generalize find c _ _ = x
  cases x <;> rfl
theorem Y3p (m : List (List Int)) (wd : Nat) : Mover m wd ups := ⟨fun d _ h hd => Yh2 d h rfl hd⟩
theorem Inv.next {m : List (List Int)} {wd c : Nat} {f : Frm} (h : Inv m wd c f) (hc : c < wd) (hz : ∀ i, at_ (row (f.rows.drop f.pivots.length) i) c = 0) : Inv m wd (c + 1) f :=
 ⟨h.k_le, h.nr, h.nf, h.lens, h.frm, h.den, h.den0, fun p hp => by have := h.lt p hp; omega, h.nd, h.piv, h.rest, fun i h1 h2 j hj => by
  by_cases e : j = c
  ·subst e
   rw [← h.rest i h1 h2 j hc]
   have := hz (i - f.pivots.length)
   rwa [Yda, show f.pivots.length + (i - f.pivots.length) = i by omega] at this
  ·exact h.zero i h1 h2 j (by omega), h.sign⟩
theorem Yxf {m : List (List Int)} {wd c : Nat} {f : Frm} {mv : Nat → Nat → Frm → Frm} (M : Mover m wd mv) (h : Inv m wd c f) (hc : c < wd) : Inv m wd (c + 1) (Yqx mv f c) := by
 unfold Yqx
 cases hf : find c (f.rows.drop f.pivots.length) f.pivots.length with
 | none => exact h.next hc (Ygc hf)
 | some i =>
  obtain ⟨h1, h2, h3⟩ := Y7s hf
  have hlt : f.pivots.length + (i - f.pivots.length) < m.length := by have := h.nr; simp at h2; omega
  obtain ⟨g1, g2, g3, g4⟩ := M.keep (i - f.pivots.length) h hlt
  rw [Yda] at h3
  exact (Yon g1 (by rw [g2]; omega) hc (by rw [g2, g4]; exact h3)).1
theorem Y42 {m : List (List Int)} {wd : Nat} {mv : Nat → Nat → Frm → Frm} (M : Mover m wd mv) (hw : ∀ r ∈ m, r.length = wd) : ∀ c, c ≤ wd → Inv m wd c (Yk6 mv m c)
 | 0, _ => Ynr hw
 | c + 1, hc => Yxf M (Y42 M hw c (by omega)) hc
structure Small (m : List (List Int)) (wd n : Nat) : Prop where
 rows : m.length ≤ 6
 lens : ∀ r ∈ m, r.length = wd
 le : n ≤ wd
 num : ∀ r ∈ m, ∀ j, j < n → -32 ≤ at_ r j ∧ at_ r j ≤ 32
 big : ∀ r ∈ m, ∀ j, -67108864 ≤ at_ r j ∧ at_ r j ≤ 67108864
theorem Yq8 {k : Nat} (h : k ≤ 6) : fact k ≤ 720 := by
 rcases (show k = 0 ∨ k = 1 ∨ k = 2 ∨ k = 3 ∨ k = 4 ∨ k = 5 ∨ k = 6 by omega) with rfl | rfl | rfl | rfl | rfl | rfl | rfl <;> decide
def bd (n j : Nat) : Int := if j < n then 32 else 67108864
theorem Y35 (n j : Nat) : 0 ≤ bd n j := by unfold bd; split <;> decide
theorem Yh1 {m : List (List Int)} {wd n : Nat} (hs : Small m wd n) {rs : List Row} (hrs : ∀ r ∈ rs, ∃ s ∈ m, r = at_ s) {pre post : List Nat} {j : Nat} (hl : (pre ++ j :: post).length = rs.length) (hk : rs.length ≤ 6) (hc : ∀ c ∈ pre ++ post, c < n) :
    -1621295865853378560 ≤ w rs (pre ++ j :: post) ∧ w rs (pre ++ j :: post) ≤ 1621295865853378560 := by
  have h1 := Ycy (b := bd n) (Y35 n) rs (pre ++ j :: post) (fun r hr j => by
    obtain ⟨s, hsm, rfl⟩ := hrs r hr
    unfold bd
    split
    · exact hs.num s hsm j ‹_›
    · exact hs.big s hsm j) hl
  have h2 : Y38 (bd n) (pre ++ j :: post) ≤ 67108864 * 32 ^ 5 := Yfj (by decide) (Y35 n) (fun c h => by unfold bd; rw [if_pos (hc c h)]; decide) (by unfold bd; split <;> decide) (by simp at hl ⊢; omega)
  have h3 : fact rs.length * Y38 (bd n) (pre ++ j :: post) ≤ 720 * (67108864 * 32 ^ 5) := Int.mul_le_mul (Yq8 hk) h2 (Y20 (Y35 n) _) (by decide)
  have h4 : (720 * (67108864 * 32 ^ 5) : Int) = 1621295865853378560 := by decide
  omega
theorem Y85 {m : List (List Int)} {wd c : Nat} {f : Frm} (h : Inv m wd c f) : ∀ r ∈ SS m f, ∃ s ∈ m, r = at_ s := fun r hr => by
 simp only [SS, List.mem_map, List.mem_reverse] at hr
 obtain ⟨s, ⟨i, hi, rfl⟩, rfl⟩ := hr
 have : i ∈ List.range m.length := h.frm.mem_iff.1 (List.mem_of_mem_take hi)
 have hlt : i < m.length := by simpa using this
 exact ⟨row m i, by rw [row_get hlt]; exact List.getElem_mem hlt, rfl⟩
theorem Yjb {m : List (List Int)} {wd c : Nat} {f : Frm} (h : Inv m wd c f) {i : Nat} (hi : i < m.length) : srow m f i ∈ m := by
 have hf : i < f.fr.length := by rw [h.nf]; exact hi
 have hm : f.fr[i] ∈ List.range m.length := h.frm.mem_iff.1 (List.getElem_mem hf)
 have hlt : f.fr[i] < m.length := by simpa using hm
 simp only [srow, List.getElem?_eq_getElem hf, Option.getD_some]
 rw [row_get hlt]; exact List.getElem_mem hlt
theorem Inv.small {m : List (List Int)} {wd n c : Nat} {f : Frm} (h : Inv m wd c f) (hs : Small m wd n) (hc : c ≤ n) (i j : Nat) (hi : i < m.length) (hj : j < wd) : -1621295865853378560 ≤ at_ (row f.rows i) j ∧ at_ (row f.rows i) j ≤ 1621295865853378560 := by
 have hk := h.k_le
 have hr := hs.rows
 have hSl := Y61 h
 have hCl := Y36 f
 have hCn : ∀ d ∈ CC f, d < n := fun d hd => by have := h.lt d (by simpa [CC] using hd); omega
 by_cases hlt : i < f.pivots.length
 ·obtain ⟨pre, ci, post, e, hl⟩ : ∃ pre ci post, CC f = pre ++ ci :: post ∧ post.length = i :=
   ⟨(CC f).take (f.pivots.length - 1 - i), (CC f)[f.pivots.length - 1 - i]'(by omega), (CC f).drop (f.pivots.length - 1 - i + 1), by rw [List.getElem_cons_drop, List.take_append_drop], by simp; omega⟩
  subst hl
  rw [h.piv pre post ci e j hj]
  refine Yh1 hs (Y85 h) (by rw [hSl, ← hCl, e]; simp) (by omega) fun d hd => hCn d ?_
  rw [e]; simp only [List.mem_append, List.mem_cons] at hd ⊢
  rcases hd with hd | hd
  ·exact .inl hd
  ·exact .inr (.inr hd)
 ·rw [h.rest i (by omega) hi j hj]
  refine Yh1 (pre := []) hs (fun r hr => ?_) (by simp [hSl, hCl]) (by simp [hSl]; omega) (fun d hd => hCn d (by simpa using hd))
  rcases List.mem_cons.1 hr with rfl | hr
  ·exact ⟨_, Yjb h hi, rfl⟩
  ·exact Y85 h r hr
theorem Inv.den_small {m : List (List Int)} {wd n c : Nat} {f : Frm} (h : Inv m wd c f) (hs : Small m wd n) (hc : c ≤ n) : -1621295865853378560 ≤ f.den ∧ f.den ≤ 1621295865853378560 := by
 have hk := h.k_le
 have hr := hs.rows
 have hSl := Y61 h
 have hCl := Y36 f
 have hCn : ∀ d ∈ CC f, d < n := fun d hd => by have := h.lt d (by simpa [CC] using hd); omega
 rw [h.den]
 cases hC : CC f with
 | nil =>
  rw [hC] at hCl
  have : SS m f = [] := List.eq_nil_of_length_eq_zero (by rw [hSl, ← hCl]; rfl)
  rw [this]; decide
 | cons d C =>
  refine Yh1 (pre := []) hs (Y85 h) (by rw [hSl, ← hCl, hC]; rfl) (by omega) fun x hx => hCn x (by rw [hC]; simp at hx ⊢; exact .inr hx)
theorem fit {m : List (List Int)} {wd n : Nat} (hs : Small m wd n) : Fit m wd n := fun c hc => by
 have h := Y42 (Y3p m wd) hs.lens c (by have := hs.le; omega)
 rw [← Y5a] at h
 refine ⟨h.lens, h.nr, by rw [h.nr]; exact h.k_le, h.nf, ?_⟩
 cases hf : find c ((elim m c).rows.drop (elim m c).pivots.length) (elim m c).pivots.length with
 | none => trivial
 | some i =>
  obtain ⟨h1, h2, h3⟩ := Y7s hf
  have hlt : (elim m c).pivots.length + (i - (elim m c).pivots.length) < m.length := by have := h.nr; simp at h2; omega
  obtain ⟨g1, g2, g3, g4⟩ := Yh2 (i - (elim m c).pivots.length) h rfl hlt
  rw [Yda] at h3
  have hcw : c < wd := by have := hs.le; omega
  obtain ⟨p1, p2⟩ := Yon g1 (by rw [g2]; omega) hcw (by rw [g2, g4]; exact h3)
  simp only
  generalize hg : ups (elim m c).pivots.length (i - (elim m c).pivots.length) (elim m c) = g at *
  have d := g1.den_small hs (by omega)
  refine ⟨⟨g1.den0, by omega, by omega⟩, fun r hr => ⟨g1.lens r hr, fun x hx => ?_⟩, fun i' j hi' hik hj => ?_⟩
  ·obtain ⟨y, hy⟩ := List.mem_iff_getElem?.1 hr
   obtain ⟨z, hz⟩ := List.mem_iff_getElem?.1 hx
   have b := g1.small hs (by omega) y z (by rw [← g1.nr]; exact (List.getElem?_eq_some_iff.1 hy).1) (by rw [← g1.lens r hr]; exact (List.getElem?_eq_some_iff.1 hz).1)
   have : at_ (row g.rows y) z = x := by simp [row, at_, hy, hz]
   rw [this] at b
   omega
  ·have hi2 : i' < m.length := by rw [← g1.nr]; exact hi'
   have b := p1.small hs (by omega) i' j hi2 hj
   exact ⟨_, p2 i' hi2 hik j hj, by omega, by omega⟩
end Go.Proofs.YtpbpafmgkdihlaaGreatDoor.Lin
end
section
namespace Go.Proofs.YtpbpafmgkdihlaaGreatDoor.Lin
def Van (A S : List Row) (C : List Nat) (j : Nat) : Prop := ∀ r ∈ A, E S C r j = 0
theorem Yqn {A : List Row} {S : List Row} {C : List Nat} {j : Nat} (hv : Van A S C j) : ∀ (ks : List Int) (rs : List Row), (∀ r ∈ rs, r ∈ A) → dot ks rs j * w S C = ex (fun c rest => dot ks rs c * w S (j :: rest)) C
 | [], rs, _ => by
  have : ∀ c, dot [] rs c = 0 := fun c => by cases rs <;> rfl
  rw [this, Y1n (h' := fun _ _ => 0) (fun c r => by rw [this, Int.zero_mul]), Yaz, Int.zero_mul]
 | k :: ks, [], _ => by
  have : ∀ c, dot (k :: ks) [] c = 0 := fun c => rfl
  rw [this, Y1n (h' := fun _ _ => 0) (fun c r => by rw [this, Int.zero_mul]), Yaz, Int.zero_mul]
 | k :: ks, r :: rs, h => by
  have h1 := hv r (h r (by simp))
  have h2 := Yqn hv ks rs fun r hr => h r (by simp [hr])
  rw [E, Y2h] at h1
  simp only [dot]
  rw [Int.add_mul, h2, Int.mul_assoc, show r j * w S C = ex (fun c rest => r c * w S (j :: rest)) C by omega, ← Y8z, ← Yqe]
  exact Y1n fun c rest => by grind
theorem Yrz {A S : List Row} {C : List Nat} {j : Nat} (hv : Van A S C j) {Y : Row} (hY : Span A Y) : E S C Y j = 0 := by
 obtain ⟨ks, _, h⟩ := hY
 have := Yqn hv ks A fun r h => h
 have hY : Y = dot ks A := funext h
 rw [E, Y2h, hY, this]
 omega
theorem Ysn {S : List Row} {pre post : List Nat} {ci d : Nat} (hd : d ∈ pre ++ ci :: post) (hne : d ≠ ci) : w S (pre ++ d :: post) = 0 := by
 have hd' : d ∈ pre ++ post := by
  simp only [List.mem_append, List.mem_cons] at hd ⊢
  rcases hd with h | h | h
  ·exact .inl h
  ·exact absurd h hne
  ·exact .inr h
 have := Y6n S d [] pre post
 simp only [List.nil_append] at this
 rw [this, Y96 hd', Y7e]
section
variable {m : List (List Int)} {wd c : Nat} {f g : Frm}
theorem Inv.sub (h : Inv m wd c f) : ∀ r ∈ SS m f, r ∈ m.map at_ := fun r hr => by
 obtain ⟨s, hs, rfl⟩ := Y85 h r hr
 exact List.mem_map_of_mem hs
theorem Inv.wne (h : Inv m wd c f) : w (SS m f) (CC f) ≠ 0 := by rw [← h.den]; exact h.den0
theorem Inv.mem (h : Inv m wd c f) {s : List Int} (hs : s ∈ m) : at_ s ∈ SS m f ∨ ∃ i, f.pivots.length ≤ i ∧ i < m.length ∧ srow m f i = s := by
 obtain ⟨x, hx⟩ := List.mem_iff_getElem?.1 hs
 have hxl : x < m.length := (List.getElem?_eq_some_iff.1 hx).1
 have hxf : x ∈ f.fr := h.frm.mem_iff.2 (by simpa using hxl)
 obtain ⟨i, hi⟩ := List.mem_iff_getElem?.1 hxf
 have hil : i < m.length := by rw [← h.nf]; exact (List.getElem?_eq_some_iff.1 hi).1
 have hrow : row m x = s := by simp [row, hx]
 by_cases hlt : i < f.pivots.length
 ·left
  simp only [SS, List.mem_map, List.mem_reverse]
  refine ⟨s, ⟨x, ?_, hrow⟩, rfl⟩
  exact List.mem_of_getElem? (i := i) (by rw [List.getElem?_take, if_pos hlt]; exact hi)
 ·exact .inr ⟨i, by omega, hil, by simp only [srow, hi, Option.getD_some]; exact hrow⟩
theorem Inv.van (h : Inv m wd c f) {j : Nat} (hj : j < wd) : Van (m.map at_) (SS m f) (CC f) j ↔ ∀ i, f.pivots.length ≤ i → i < m.length → at_ (row f.rows i) j = 0 := by
 constructor
 ·intro hv i h1 h2
  rw [h.rest i h1 h2 j hj]
  exact hv _ (List.mem_map_of_mem (Yjb h h2))
 ·intro hz r hr
  obtain ⟨s, hs, rfl⟩ := List.mem_map.1 hr
  rcases h.mem hs with h1 | ⟨i, h1, h2, rfl⟩
  ·exact Yvz h1 _
  ·rw [← h.rest i h1 h2 j hj]; exact hz i h1 h2
theorem Inv.van_lt (h : Inv m wd c f) {j : Nat} (hj : j < c) : Van (m.map at_) (SS m f) (CC f) j := fun r hr => by
 obtain ⟨s, hs, rfl⟩ := List.mem_map.1 hr
 rcases h.mem hs with h1 | ⟨i, h1, h2, rfl⟩
 ·exact Yvz h1 _
 ·exact h.zero i h1 h2 j hj
end
end Go.Proofs.YtpbpafmgkdihlaaGreatDoor.Lin
end
section
namespace Go.Proofs.YtpbpafmgkdihlaaGreatDoor.Lin
def mixd (f : Frm) (k : Nat) (c : Nat) (y : Nat) : List (List Int) := f.rows.mapIdx fun i r => if i < y ∧ i ≠ k then Y2x (at_ (row f.rows k) c) (at_ r c) f.den (row f.rows k) r else r
theorem Y41 {f : Frm} {k c y i : Nat} : (mixd f k c y)[i]? = (f.rows[i]?).map fun r => if i < y ∧ i ≠ k then Y2x (at_ (row f.rows k) c) (at_ r c) f.den (row f.rows k) r else r := by
 simp [mixd]
theorem Yg0 (f : Frm) (k c : Nat) : mixd f k c 0 = f.rows := by
 apply List.ext_getElem?
 intro i
 rw [Y41]
 cases f.rows[i]? <;> simp
theorem Ypa (f : Frm) (k c : Nat) : mixd f k c (k + 1) = mixd f k c k := by
 apply List.ext_getElem?
 intro i
 rw [Y41, Y41]
 cases f.rows[i]? with
 | none => rfl
 | some r =>
  have : (i < k + 1 ∧ i ≠ k) ↔ (i < k ∧ i ≠ k) := by omega
  simp only [Option.map_some, this]
theorem Yp9 (f : Frm) (k c y : Nat) (h : y ≠ k) {r : List Int} (hr : f.rows[y]? = some r) : mixd f k c (y + 1) = (mixd f k c y).set y (Y2x (at_ (row f.rows k) c) (at_ r c) f.den (row f.rows k) r) := by
 apply List.ext_getElem?
 intro i
 have hy : y < (mixd f k c y).length := by simp [mixd]; exact (List.getElem?_eq_some_iff.1 hr).1
 by_cases e : y = i
 ·subst e
  rw [List.getElem?_set_self hy, Y41, hr]
  simp only [Option.map_some, if_pos (show y < y + 1 ∧ y ≠ k by omega)]
 ·rw [List.getElem?_set_ne e, Y41, Y41]
  have : (i < y + 1 ∧ i ≠ k) ↔ (i < y ∧ i ≠ k) := by omega
  simp only [this]
theorem Yt0 (f : Frm) (c : Nat) : mixd f f.pivots.length c f.rows.length = (piv c f).rows := by
 apply List.ext_getElem?
 intro i
 rw [Y41]
 simp only [piv, List.getElem?_mapIdx]
 by_cases h : i < f.rows.length
 ·rw [List.getElem?_eq_getElem h]
  simp only [Option.map_some]
  by_cases e : i = f.pivots.length
  ·rw [if_neg (by omega), if_pos e]
  ·rw [if_pos ⟨h, e⟩, if_neg e]
 ·rw [List.getElem?_eq_none (by omega)]; rfl
end Go.Proofs.YtpbpafmgkdihlaaGreatDoor.Lin
end
section
namespace Go.Proofs.YtpbpafmgkdihlaaGreatDoor.Lin
theorem Yyd : ∀ (rs : List Row) (j : Nat) (C : List Nat), w rs (j :: C) = ex (fun r rest => r j * w rest C) rs
 | [], j, C => rfl
 | r :: rs, j, C => by
  rw [Y2h]
  simp only [ex]
  congr 1
  have e1 : ex (fun c rest => r c * w rs (j :: rest)) C = ex (fun c rest => ex (fun s ss => r c * (s j * w ss rest)) rs) C := Y1n fun c rest => by rw [Yyd rs j rest, ← Y8z]
  rw [e1, Yqa C rs (fun c rest s ss => r c * (s j * w ss rest))]
  refine Y1n fun s ss => ?_
  rw [Y2u, ← Y8z]
  exact Y1n fun c rest => by grind
theorem Y68 {d x : Int} (hd : -32 ≤ d ∧ d ≤ 32) : d * x ≤ 32 * (x.natAbs : Int) ∧ -(32 * (x.natAbs : Int)) ≤ d * x := by
 have := Y6e hd (show -(x.natAbs : Int) ≤ x ∧ x ≤ (x.natAbs : Int) by omega)
 exact ⟨this.2, this.1⟩
theorem dot3 {d e f x y z : Int} (hd : -32 ≤ d ∧ d ≤ 32) (he : -32 ≤ e ∧ e ≤ 32) (hf : -32 ≤ f ∧ f ≤ 32) (h : x.natAbs + y.natAbs + z.natAbs ≤ 128) : d * x + e * y + f * z ≤ 4096 := by
 have h1 := (Y68 (x := x) hd).1
 have h2 := (Y68 (x := y) he).1
 have h3 := (Y68 (x := z) hf).1
 omega
theorem det3 {a b c d e f g h i : Int} (ha : -32 ≤ a ∧ a ≤ 32) (hb : -32 ≤ b ∧ b ≤ 32) (hc : -32 ≤ c ∧ c ≤ 32) (hd : -32 ≤ d ∧ d ≤ 32) (he : -32 ≤ e ∧ e ≤ 32) (hf : -32 ≤ f ∧ f ≤ 32) (hg : -32 ≤ g ∧ g ≤ 32) (hh : -32 ≤ h ∧ h ≤ 32) (hi : -32 ≤ i ∧ i ≤ 32) :
    -131072 ≤ a * (e * i - f * h) - (b * (d * i - f * g) - c * (d * h - e * g)) ∧ a * (e * i - f * h) - (b * (d * i - f * g) - c * (d * h - e * g)) ≤ 131072 := by
  have key : (e * i - f * h).natAbs + (d * i - f * g).natAbs + (d * h - e * g).natAbs ≤ 4096 := by
    have all : ∀ s1 s2 s3 : Int, (s1 = 1 ∨ s1 = -1) → (s2 = 1 ∨ s2 = -1) → (s3 = 1 ∨ s3 = -1) → s1 * (e * i - f * h) + s2 * (d * i - f * g) + s3 * (d * h - e * g) ≤ 4096 := fun s1 s2 s3 h1 h2 h3 => by
      have e1 : s1 * (e * i - f * h) + s2 * (d * i - f * g) + s3 * (d * h - e * g) = d * (s2 * i + s3 * h) + e * (s1 * i - s3 * g) + f * (-(s1 * h) - s2 * g) := by grind
      rw [e1]
      refine dot3 hd he hf ?_
      rcases h1 with rfl | rfl <;> rcases h2 with rfl | rfl <;> rcases h3 with rfl | rfl <;> omega
    have pm : ∀ x : Int, ∃ s : Int, (s = 1 ∨ s = -1) ∧ s * x = x.natAbs := fun x => by
      by_cases hx : 0 ≤ x
      · exact ⟨1, .inl rfl, by omega⟩
      · exact ⟨-1, .inr rfl, by omega⟩
    obtain ⟨s1, k1, q1⟩ := pm (e * i - f * h)
    obtain ⟨s2, k2, q2⟩ := pm (d * i - f * g)
    obtain ⟨s3, k3, q3⟩ := pm (d * h - e * g)
    have := all s1 s2 s3 k1 k2 k3
    rw [q1, q2, q3] at this
    omega
  have h1 := Y68 (x := e * i - f * h) ha
  have h2 := Y68 (x := d * i - f * g) hb
  have h3 := Y68 (x := d * h - e * g) hc
  omega
theorem w3 {r1 r2 r3 : Row} {x y z : Nat} (h : ∀ r ∈ [r1, r2, r3], ∀ j ∈ [x, y, z], -32 ≤ r j ∧ r j ≤ 32) : -131072 ≤ w [r1, r2, r3] [x, y, z] ∧ w [r1, r2, r3] [x, y, z] ≤ 131072 := by
 have e : w [r1, r2, r3] [x, y, z] = r1 x * (r2 y * r3 z - r2 z * r3 y) - (r1 y * (r2 x * r3 z - r2 z * r3 x) - r1 z * (r2 x * r3 y - r2 y * r3 x)) := by
  simp only [w, ex]; grind
 rw [e]
 exact det3 (h r1 (by simp) x (by simp)) (h r1 (by simp) y (by simp)) (h r1 (by simp) z (by simp)) (h r2 (by simp) x (by simp)) (h r2 (by simp) y (by simp)) (h r2 (by simp) z (by simp)) (h r3 (by simp) x (by simp)) (h r3 (by simp) y (by simp)) (h r3 (by simp) z (by simp))
def Y8c (rs : List Row) (cs : List Nat) : Prop := ∀ r ∈ rs, ∀ j ∈ cs, -32 ≤ r j ∧ r j ≤ 32
theorem w_up {K : Int} {n : Nat} (hK : 0 ≤ K) (h : ∀ (rs : List Row) (cs : List Nat), rs.length = n → cs.length = n → Y8c rs cs → -K ≤ w rs cs ∧ w rs cs ≤ K) (rs : List Row) (cs : List Nat) (hr : rs.length = n + 1) (hc : cs.length = n + 1) (hs : Y8c rs cs) :
    -(((n + 1 : Nat) : Int) * (32 * K)) ≤ w rs cs ∧ w rs cs ≤ ((n + 1 : Nat) : Int) * (32 * K) := by
  cases rs with
  | nil => simp at hr
  | cons r rs =>
    have := Y9n (K := 32 * K) (by omega) cs (fun c rest => r c * w rs rest) fun c rest hp => by
      have hm : ∀ j ∈ rest, j ∈ cs := fun j hj => hp.mem_iff.1 (by simp [hj])
      have hl := hp.length_eq
      simp at hl hr
      exact Y6e (hs r (by simp) c (hp.mem_iff.1 (by simp))) (h rs rest (by omega) (by omega) fun r hr j hj => hs r (by simp [hr]) j (hm j hj))
    rw [hc] at this
    rw [Y2u]
    exact this
theorem w5 (rs : List Row) (cs : List Nat) (hr : rs.length = 5) (hc : cs.length = 5) (hs : Y8c rs cs) : -2684354560 ≤ w rs cs ∧ w rs cs ≤ 2684354560 := by
 have h3 : ∀ (rs : List Row) (cs : List Nat), rs.length = 3 → cs.length = 3 → Y8c rs cs → -131072 ≤ w rs cs ∧ w rs cs ≤ 131072 := fun rs cs hr hc hs => by
  match rs, hr, cs, hc with
  | [r1, r2, r3], _, [x, y, z], _ => exact w3 hs
 have h4 := w_up (K := 131072) (by decide) h3
 have h4' : ∀ (rs : List Row) (cs : List Nat), rs.length = 4 → cs.length = 4 → Y8c rs cs → -16777216 ≤ w rs cs ∧ w rs cs ≤ 16777216 := fun rs cs a b c => by have := h4 rs cs a b c; omega
 have h5 := w_up (K := 16777216) (by decide) h4' rs cs hr hc hs
 omega
theorem w6 (rs : List Row) (pre post : List Nat) (j : Nat) (hr : rs.length = 6) (hc : (pre ++ post).length = 5) (hs : Y8c rs (pre ++ post)) (hj : ∀ r ∈ rs, -67108864 ≤ r j ∧ r j ≤ 67108864) : -1080863910568919040 ≤ w rs (pre ++ j :: post) ∧ w rs (pre ++ j :: post) ≤ 1080863910568919040 := by
 have hf := Y6n rs j [] pre post
 simp only [List.nil_append] at hf
 have hb : -1080863910568919040 ≤ w rs (j :: (pre ++ post)) ∧ w rs (j :: (pre ++ post)) ≤ 1080863910568919040 := by
  rw [Yyd]
  have := Y9n (K := 67108864 * 2684354560) (by decide) rs (fun r rest => r j * w rest (pre ++ post)) fun r rest hp => by
   have hm : ∀ s ∈ rest, s ∈ rs := fun s hs => hp.mem_iff.1 (by simp [hs])
   have hl := hp.length_eq
   simp only [List.length_cons] at hl
   exact Y6e (hj r (hp.mem_iff.1 (by simp))) (w5 rest (pre ++ post) (by omega) hc fun r hr c hc => hs r (hm r hr) c hc)
  rw [hr] at this
  omega
 have hsg : ∀ (n : Nat) (x : Int), sgn n x = x ∨ sgn n x = -x := fun n => by
  induction n with
  | zero => intro x; exact .inl rfl
  | succ n ih => intro x; simp only [sgn]; rcases ih x with h | h <;> rw [h] <;> omega
 rw [hf]
 rcases hsg pre.length (w rs (j :: (pre ++ post))) with h | h <;> rw [h] <;> omega
theorem Inv.small2 {m : List (List Int)} {wd n c : Nat} {f : Frm} (h : Inv m wd c f) (hs : Small m wd n) (hc : c ≤ n) (i j : Nat) (hi : i < f.pivots.length) (hj : j < wd) : -1152921504606846976 ≤ at_ (row f.rows i) j ∧ at_ (row f.rows i) j ≤ 1152921504606846976 := by
 have hk := h.k_le
 have hr := hs.rows
 have hSl := Y61 h
 have hCl := Y36 f
 have hCn : ∀ d ∈ CC f, d < n := fun d hd => by have := h.lt d (by simpa [CC] using hd); omega
 obtain ⟨pre, ci, post, e, hl⟩ : ∃ pre ci post, CC f = pre ++ ci :: post ∧ post.length = i :=
  ⟨(CC f).take (f.pivots.length - 1 - i), (CC f)[f.pivots.length - 1 - i]'(by omega), (CC f).drop (f.pivots.length - 1 - i + 1), by rw [List.getElem_cons_drop, List.take_append_drop], by simp; omega⟩
 subst hl
 have hmem : ∀ d ∈ pre ++ post, d < n := fun d hd => hCn d (by
  rw [e]; simp only [List.mem_append, List.mem_cons] at hd ⊢
  rcases hd with hd | hd
  ·exact .inl hd
  ·exact .inr (.inr hd))
 have hlen : (pre ++ ci :: post).length = f.pivots.length := by rw [← e, hCl]
 rw [h.piv pre post ci e j hj]
 by_cases h6 : f.pivots.length = 6
 ·have := w6 (SS m f) pre post j (by omega) (by simp at hlen ⊢; omega) (fun r hr c hc => by
   obtain ⟨s, hsm, rfl⟩ := Y85 h r hr
   exact hs.num s hsm c (hmem c hc)) (fun r hr => by
   obtain ⟨s, hsm, rfl⟩ := Y85 h r hr
   exact hs.big s hsm j)
  omega
 ·have h1 := Ycy (b := bd n) (Y35 n) (SS m f) (pre ++ j :: post) (fun r hr j => by
   obtain ⟨s, hsm, rfl⟩ := Y85 h r hr
   unfold bd
   split
   ·exact hs.num s hsm j ‹_›
   ·exact hs.big s hsm j) (by rw [hSl, ← hlen]; simp)
  have h2 : Y38 (bd n) (pre ++ j :: post) ≤ 67108864 * 32 ^ 4 := Yfj (by decide) (Y35 n) (fun c h => by unfold bd; rw [if_pos (hmem c h)]; decide) (by unfold bd; split <;> decide) (by simp at hlen ⊢; omega)
  have h3 : fact (SS m f).length ≤ 120 := by
   rw [hSl]
   rcases (show f.pivots.length = 0 ∨ f.pivots.length = 1 ∨ f.pivots.length = 2 ∨ f.pivots.length = 3 ∨ f.pivots.length = 4 ∨ f.pivots.length = 5 by omega) with h | h | h | h | h | h <;> rw [h] <;> decide
  have h4 : fact (SS m f).length * Y38 (bd n) (pre ++ j :: post) ≤ 120 * (67108864 * 32 ^ 4) := Int.mul_le_mul h3 h2 (Y20 (Y35 n) _) (by decide)
  have h5 : (120 * (67108864 * 32 ^ 4) : Int) ≤ 1152921504606846976 := by decide
  omega
end Go.Proofs.YtpbpafmgkdihlaaGreatDoor.Lin
end
section
namespace Go.Proofs.YtpbpafmgkdihlaaGreatDoor.Lin
theorem Inv.den_small2 {m : List (List Int)} {wd n c : Nat} {f : Frm} (h : Inv m wd c f) (hs : Small m wd n) (hc : c ≤ n) : -1152921504606846976 ≤ f.den ∧ f.den ≤ 1152921504606846976 := by
 have hk := h.k_le
 have hr := hs.rows
 have hSl := Y61 h
 have hCl := Y36 f
 have hCn : ∀ d ∈ CC f, d < n := fun d hd => by have := h.lt d (by simpa [CC] using hd); omega
 rw [h.den]
 have h1 := Ycy (b := bd n) (Y35 n) (SS m f) (CC f) (fun r hr j => by
  obtain ⟨s, hsm, rfl⟩ := Y85 h r hr
  unfold bd
  split
  ·exact hs.num s hsm j ‹_›
  ·exact hs.big s hsm j) (by omega)
 have h2 : Y38 (bd n) (CC f) ≤ 32 ^ 6 := Ydf (y := 0) (by decide) (Y35 n) _ (fun c h => by unfold bd; rw [if_pos (hCn c h)]; decide) 6 (by omega)
 have h3 : fact (SS m f).length * Y38 (bd n) (CC f) ≤ 720 * 32 ^ 6 := Int.mul_le_mul (Yq8 (by omega)) h2 (Y20 (Y35 n) _) (by decide)
 have h4 : (720 * 32 ^ 6 : Int) ≤ 1152921504606846976 := by decide
 omega
end Go.Proofs.YtpbpafmgkdihlaaGreatDoor.Lin
end
section
namespace Go.Proofs.YtpbpafmgkdihlaaGreatDoor.Lin
theorem Yuy {V V' : List Row} (h : V.Perm V') : (∀ cs, w V cs = w V' cs) ∨ (∀ cs, w V cs = - w V' cs) := by
 induction h with
 | nil => exact .inl fun _ => rfl
 | @cons x l l' _ ih =>
  rcases ih with ih | ih
  ·exact .inl fun cs => by rw [Y2u, Y2u]; exact Y1n fun c r => by rw [ih]
  ·exact .inr fun cs => by rw [Y2u, Y2u, ← Yqc]; exact Y1n fun c r => by rw [ih, Int.mul_neg]
 | swap x y l => exact .inr fun cs => Y9v y x l cs
 | trans _ _ h1 h2 =>
  rcases h1 with h1 | h1 <;> rcases h2 with h2 | h2
  ·exact .inl fun cs => by rw [h1, h2]
  ·exact .inr fun cs => by rw [h1, h2]
  ·exact .inr fun cs => by rw [h1, h2]
  ·exact .inl fun cs => by rw [h1, h2, Int.neg_neg]
theorem Y4o {α : Type} : ∀ {cs : List α} {h h' : α → List α → Int}, (∀ c r, c ∈ cs → (∀ x ∈ r, x ∈ cs) → h c r = h' c r) → ex h cs = ex h' cs
 | [], _, _, _ => rfl
 | x :: xs, h, h', e => by
  simp only [ex]
  rw [e x xs (by simp) (fun y hy => by simp [hy]), Y4o (fun c r hc hr => e c (x :: r) (by simp [hc]) (fun y hy => by
   rcases List.mem_cons.1 hy with rfl | hy
   ·simp
   ·simp [hr y hy]))]
theorem Ycx {r s : Row} {rs : List Row} {cs : List Nat} (h : ∀ c ∈ cs, r c = s c) : w (r :: rs) cs = w (s :: rs) cs := by
 rw [Y2u, Y2u]
 exact Y4o fun c rest hc _ => by rw [h c hc]
def Dep (V : List Row) (C : List Nat) : Prop := ∃ (v : Row) (rest : List Row), (v :: rest).Perm V ∧ ∃ (k : Int) (f : Row), k ≠ 0 ∧ Span rest f ∧ ∀ c ∈ C, k * v c = f c
theorem Yu6 {V : List Row} {C : List Nat} (h : Dep V C) : w V C = 0 := by
 obtain ⟨v, rest, hp, k, f, hk, hf, hc⟩ := h
 have h1 : w (v :: rest) C = 0 := by
  have e := Yes k 0 v v rest C
  simp only [Int.zero_mul, Int.add_zero] at e
  have e2 := Ycx (r := fun j => k * v j) (s := f) (rs := rest) (cs := C) hc
  rw [Y9w hf C, e] at e2
  rcases Int.mul_eq_zero.1 e2 with h | h
  ·exact absurd h hk
  ·exact h
 rcases Yuy hp with h | h
 ·rw [← h, h1]
 ·have := h C; omega
theorem Y90 {c : Nat} : ∀ (ks : List Int) (rs : List Row), (∀ r ∈ rs, r c = 0) → dot ks rs c = 0
 | [], rs, _ => by cases rs <;> rfl
 | k :: ks, [], _ => rfl
 | k :: ks, r :: rs, h => by simp only [dot]; rw [h r (by simp), Y90 ks rs fun r hr => h r (by simp [hr])]; simp
theorem Yqo (a : Int) (c : Nat) (v0 : Row) : ∀ (ks : List Int) (rs : List Row) (j : Nat), dot ks (rs.map fun v j => a * v j - v c * v0 j) j = a * dot ks rs j - dot ks rs c * v0 j
 | [], rs, j => by cases rs <;> simp [dot]
 | k :: ks, [], j => by simp [dot]
 | k :: ks, r :: rs, j => by simp only [List.map_cons, dot]; rw [Yqo a c v0 ks rs j]; grind
theorem Yfk {α β : Type} {f : α → β} {K M : List β} (h : K.Perm M) : ∀ L : List α, K = L.map f → ∃ L' : List α, L'.Perm L ∧ M = L'.map f := by
 induction h with
 | nil =>
  intro L hL
  have : L = [] := by simpa using hL.symm
  subst this
  exact ⟨[], .refl _, rfl⟩
 | cons x _ ih =>
  intro L hL
  cases L with
  | nil => simp at hL
  | cons a L =>
   simp only [List.map_cons, List.cons.injEq] at hL
   obtain ⟨rfl, hL⟩ := hL
   obtain ⟨L', h1, rfl⟩ := ih L hL
   exact ⟨a :: L', h1.cons a, rfl⟩
 | swap x y l =>
  intro L hL
  match L, hL with
  | a :: b :: L, hL =>
   simp only [List.map_cons, List.cons.injEq] at hL
   obtain ⟨rfl, rfl, rfl⟩ := hL
   exact ⟨b :: a :: L, List.Perm.swap a b L, rfl⟩
 | trans _ _ h1 h2 =>
  intro L hL
  obtain ⟨L1, a1, a2⟩ := h1 L hL
  obtain ⟨L2, b1, b2⟩ := h2 L1 a2
  exact ⟨L2, b1.trans a1, b2⟩
theorem Yed : ∀ (C : List Nat) (V : List Row), C.length < V.length → Dep V C
 | [], V, h => by
  cases V with
  | nil => simp at h
  | cons v V => exact ⟨v, V, .refl _, 1, fun _ => 0, by decide, Span.zero, fun c hc => by cases hc⟩
 | c :: C, V, h => by
  by_cases hz : ∀ v ∈ V, v c = 0
  ·obtain ⟨v, rest, hp, k, f, hk, ⟨ks, hl, hf⟩, hc⟩ := Yed C V (by simp at h; omega)
   refine ⟨v, rest, hp, k, f, hk, ⟨ks, hl, hf⟩, fun d hd => ?_⟩
   rcases List.mem_cons.1 hd with rfl | hd
   ·rw [hz v (hp.mem_iff.1 (by simp)), hf, Y90 ks rest fun r hr => hz r (hp.mem_iff.1 (by simp [hr]))]; simp
   ·exact hc d hd
  ·obtain ⟨v0, hv0⟩ : ∃ v0, ¬ (v0 ∈ V → v0 c = 0) := Classical.not_forall.1 hz
   obtain ⟨hm, hne⟩ := Classical.not_imp.1 hv0
   obtain ⟨V1, V2, rfl⟩ := List.append_of_mem hm
   have hl : C.length < ((V1 ++ V2).map fun (v : Row) (j : Nat) => v0 c * v j - v c * v0 j).length := by simp at h ⊢; omega
   obtain ⟨u, rest', hp, k, f, hk, ⟨ks, hkl, hf⟩, hc⟩ := Yed C _ hl
   obtain ⟨L', hL, hM⟩ := Yfk hp.symm (V1 ++ V2) rfl
   cases L' with
   | nil => simp at hM
   | cons v rest =>
    simp only [List.map_cons, List.cons.injEq] at hM
    obtain ⟨rfl, rfl⟩ := hM
    refine ⟨v, v0 :: rest, ?_, k * v0 c, fun j => k * v c * v0 j + (v0 c * dot ks rest j - dot ks rest c * v0 j), by simp [hk, hne], ?_, fun d hd => ?_⟩
    ·exact (List.Perm.swap v0 v rest).trans ((hL.cons v0).trans List.perm_middle.symm)
    ·have hs : Span rest fun j => dot ks rest j := ⟨ks, by simpa using hkl, fun j => rfl⟩
     exact (((Span.head (r := v0) (rs := rest)).mul (k * v c)).add ((hs.mul (v0 c)).cons.sub ((Span.head (r := v0) (rs := rest)).mul (dot ks rest c))))
    ·rcases List.mem_cons.1 hd with rfl | hd
     ·grind
     ·have := hc d hd
      rw [hf, Yqo] at this
      grind
def IsRank (A : List Row) (n r : Nat) : Prop := ∃ (S : List Row) (C : List Nat), (∀ s ∈ S, s ∈ A) ∧ S.length = r ∧ C.length = r ∧ (∀ c ∈ C, c < n) ∧ w S C ≠ 0 ∧ ∀ j, j < n → Van A S C j
theorem IsRank.max {A : List Row} {n r : Nat} (h : IsRank A n r) {S' : List Row} {C' : List Nat} (hS : ∀ s ∈ S', s ∈ A) (hC : ∀ c ∈ C', c < n) (hne : w S' C' ≠ 0) : S'.length ≤ r := by
 obtain ⟨S, C, h1, h2, h3, h4, h5, h6⟩ := h
 rcases Nat.lt_or_ge r S'.length with hlt | hge
 ·exfalso
  obtain ⟨v, rest, hp, k, f, hk, hf, hc⟩ := Yed C S' (by omega)
  apply hne
  refine Yu6 ⟨v, rest, hp, k, f, hk, hf, fun c hc' => ?_⟩
  have hY : Span A fun j => k * v j - f j := ((Span.mem (hS v (hp.mem_iff.1 (by simp)))).mul k).sub (hf.sub_list fun s hs => hS s (hp.mem_iff.1 (by simp [hs])))
  have hE := Yrz (h6 c (hC c hc')) hY
  rw [E, Y2h, Y3k (fun d r hd => by have := hc d hd; rw [show k * v d - f d = 0 by omega, Int.zero_mul])] at hE
  rcases Int.mul_eq_zero.1 (show (k * v c - f c) * w S C = 0 by omega) with h | h
  ·omega
  ·exact absurd h h5
 ·exact hge
theorem IsRank.le {A B : List Row} {n r s : Nat} (hA : IsRank A n r) (hB : IsRank B n s) (h : ∀ x ∈ A, x ∈ B) : r ≤ s := by
 obtain ⟨S, C, h1, h2, h3, h4, h5, h6⟩ := hA
 rw [← h2]
 exact hB.max (fun x hx => h x (h1 x hx)) h4 h5
theorem Inv.isRank {m : List (List Int)} {wd n : Nat} {f : Frm} (h : Inv m wd n f) : IsRank (m.map at_) n f.pivots.length :=
 ⟨SS m f, CC f, h.sub, Y61 h, Y36 f, fun c hc => h.lt c (by simpa [CC] using hc), h.wne, fun j hj => h.van_lt hj⟩
end Go.Proofs.YtpbpafmgkdihlaaGreatDoor.Lin
end
