import Derived.Test.YtpbpafmgkdihlaaGreatDoorQSDE
import Derived.Test.YtpbpafmgkdihlaaGreatDoorQWX
set_option linter.all false
namespace Go.Proofs.YtpbpafmgkdihlaaGreatDoor.T
open Go Go.RowKit Lin
mutual
def Y2w : D → Bool
 | .v _ => true
 | .sl _ cs full => !full && Y37 cs
 | .rp cs _ => Y37 cs
 | .own .. => false
 | .ptr .. => false
 | .agg cs => Y37 cs
 | .tup cs => Y37 cs
 | .fn _ cs => Y37 cs
 | .mp .. => false
 | .any => true
def Y37 : List D → Bool
 | [] => true
 | d :: ds => Y2w d && Y37 ds
end
mutual
theorem Yo1 (R : D → D) (H : Hp) : ∀ d : D, Y2w d = true → rs R H d = d
 | .v x, _ => by simp only [rs]
 | .sl sz cs full, h => by simp only [Y2w, Bool.and_eq_true, Bool.not_eq_true'] at h; simp only [rs, Y65 R H cs h.2, h.1]
 | .rp cs o, h => by simp only [Y2w] at h; simp only [rs, Y65 R H cs h]
 | .own .., h => by simp [Y2w] at h
 | .ptr .., h => by simp [Y2w] at h
 | .agg cs, h => by simp only [Y2w] at h; simp only [rs, Y65 R H cs h]
 | .tup cs, h => by simp only [Y2w] at h; simp only [rs, Y65 R H cs h]
 | .fn f cs, h => by simp only [Y2w] at h; simp only [rs, Y65 R H cs h]
 | .mp .., h => by simp [Y2w] at h
 | .any, _ => by simp only [rs]
theorem Y65 (R : D → D) (H : Hp) : ∀ ds : List D, Y37 ds = true → rsL R H ds = ds
 | [], _ => by simp only [rsL]
 | d :: ds, h => by
  simp only [Y37, Bool.and_eq_true] at h
  simp only [rsL, Yo1 R H d h.1, Y65 R H ds h.2]
end
theorem Y2c (H : Hp) (k : Nat) {d : D} (h : Y2w d = true) : rsv H (k + 1) d = d := Yo1 _ H d h
theorem Y3q : ∀ {l : List D}, (∀ d ∈ l, Y2w d = true) → Y37 l = true
 | [], _ => rfl
 | d :: l, h => by simp only [Y37, Bool.and_eq_true]; exact ⟨h d (by simp), Y3q fun x hx => h x (by simp [hx])⟩
theorem Yez (l : List Int) : Y37 (l.map int) = true := Y3q fun d hd => by obtain ⟨x, _, rfl⟩ := List.mem_map.1 hd; rfl
theorem Yj6 (m : List (List Int)) : Y2w (mat m) = true := by
 simp only [Y2w, Bool.not_false, Bool.true_and]
 exact Y3q fun d hd => by obtain ⟨x, _, rfl⟩ := List.mem_map.1 hd; simp only [Y2w, Bool.not_false, Bool.true_and, Yez]
theorem Yw6 (l : List Hd) : Y37 (hdC l) = true := Y3q fun d hd => by
 obtain ⟨x, _, hx⟩ := List.mem_flatMap.1 hd
 simp only [List.mem_cons, List.not_mem_nil, or_false] at hx
 rcases hx with rfl | rfl | rfl | rfl <;> rfl
theorem Ynm (l : List Bk) : Y37 (bkC l) = true := Y3q fun d hd => by
 obtain ⟨x, _, hx⟩ := List.mem_flatMap.1 hd
 simp only [List.mem_cons, List.not_mem_nil, or_false] at hx
 rcases hx with rfl | rfl <;> rfl
theorem Ynl (l : List Rp) : Y37 (rpC l) = true := Y3q fun d hd => by
 obtain ⟨x, _, hx⟩ := List.mem_flatMap.1 hd
 simp only [List.mem_cons, List.not_mem_nil, or_false] at hx
 rcases hx with rfl | rfl | rfl
 ·rfl
 ·simp only [Y2w, Bool.not_false, Bool.true_and, Yw6]
 ·rfl
theorem Y9g : ∀ (R S : Hp), hpLe (R ++ S) R
 | [], S => by cases S <;> trivial
 | x :: R, S => ⟨.inr rfl, Y9g R S⟩
def pull (nm : ByteArray) : List Hd → Int
 | [] => 0
 | h :: l => (if h.b = nm then h.p else 0) + pull nm l
theorem Yji (nm : ByteArray) : ∀ a b : List Hd, pull nm (a ++ b) = pull nm a + pull nm b
 | [], b => by simp [pull]
 | h :: a, b => by simp only [List.cons_append, pull, Yji nm a b]; omega
theorem Yfi {nm : ByteArray} {hs : List Hd} {k : Nat} {h : Hd} (hh : hs[k]? = some h) : pull nm (hs.take (k + 1)) = pull nm (hs.take k) + (if h.b = nm then h.p else 0) := by
 rw [List.take_add_one, hh, Yji]; simp [pull]
theorem Y66 {nm : ByteArray} : ∀ {hs : List Hd}, (∀ h ∈ hs, -2 ≤ h.p ∧ h.p ≤ 2) → -(2 * hs.length : Int) ≤ pull nm hs ∧ pull nm hs ≤ 2 * hs.length
 | [], _ => by simp [pull]
 | h :: l, hb => by
  have ih := Y66 (nm := nm) (hs := l) fun x hx => hb x (List.mem_cons_of_mem _ hx)
  have := hb h (by simp)
  simp only [pull, List.length_cons]
  split <;> omega
def matS (s : Sy) : List (List Int) := s.bs.map fun b => s.rs.map fun r => pull b.nm r.hs
def wtsS (s : Sy) : List Int := s.bs.map (·.w)
structure OkS (s : Sy) : Prop where
 b1 : 1 ≤ s.bs.length
 b6 : s.bs.length ≤ 6
 r1 : 1 ≤ s.rs.length
 r6 : s.rs.length ≤ 6
 holds : ∀ r ∈ s.rs, 2 ≤ r.hs.length ∧ r.hs.length ≤ 10 ∧ Y21 s.bs r.hs = true
 pulls : ∀ r ∈ s.rs, ∀ h ∈ r.hs, -2 ≤ h.p ∧ h.p ≤ 2
 wts : ∀ b ∈ s.bs, 0 ≤ b.w ∧ b.w ≤ 16777216
 inj : ∀ (i j : Nat) (a b : Bk), s.bs[i]? = some a → s.bs[j]? = some b → a.nm = b.nm → i = j
 names : ∀ b ∈ s.bs, isNm b.nm = true
 rinj : ∀ (i j : Nat) (a b : Rp), s.rs[i]? = some a → s.rs[j]? = some b → a.nm = b.nm → i = j
theorem Yhq {bs : List Bk} {h : Hd} {e : Bool} (hk : Y0q bs h e = true) : -2 ≤ h.p ∧ h.p ≤ 2 := by
 unfold Y0q at hk
 rw [Bool.and_eq_true] at hk
 obtain ⟨_, hk⟩ := hk
 split at hk
 ·have : h.p = 0 := by simpa using hk
  omega
 ·rw [Bool.and_eq_true] at hk
  obtain ⟨_, hk⟩ := hk
  split at hk <;> simp at hk <;> omega
theorem Y0h {s : Sy} (h : Y0g s = true) : OkS s := by
 simp only [Y0g, Bool.and_eq_true, List.all_eq_true, List.mem_range, Y4f, decide_eq_true_eq] at h
 obtain ⟨⟨⟨⟨⟨b1, b6⟩, r1, r6⟩, hb⟩, hr⟩, _⟩ := h
 have hB : ∀ i b, s.bs[i]? = some b → isNm b.nm = true ∧ (Y0l (s.bs.take i)).contains b.nm = false ∧ 0 ≤ b.w ∧ b.w ≤ 16777216 := fun i b hi => by
  have := hb i (List.getElem?_eq_some_iff.1 hi).1
  rw [Yfw hi, Bool.and_eq_true, Bool.and_eq_true, Bool.not_eq_true', decide_eq_true_eq] at this
  exact ⟨this.1.1, this.1.2, this.2⟩
 have hR : ∀ i r, s.rs[i]? = some r → (Y0l s.bs ++ Y18 (s.rs.take i)).contains r.nm = false ∧ Y1g s.bs r = true := fun i r hi => by
  have := hr i (List.getElem?_eq_some_iff.1 hi).1
  rw [Yft hi, Bool.and_eq_true, Bool.and_eq_true, Bool.not_eq_true'] at this
  exact ⟨this.1.2, this.2⟩
 have hH : ∀ r ∈ s.rs, 2 ≤ r.hs.length ∧ r.hs.length ≤ 10 ∧ Y21 s.bs r.hs = true := fun r hr => by
  obtain ⟨i, hi⟩ := List.mem_iff_getElem?.1 hr
  have := (hR i r hi).2
  rw [Y1g, Bool.and_eq_true, Bool.and_eq_true, decide_eq_true_eq] at this
  exact ⟨this.1.1.1, this.1.1.2, this.1.2⟩
 have key : ∀ (i j : Nat) (a b : Bk), i < j → s.bs[i]? = some a → s.bs[j]? = some b → a.nm ≠ b.nm := fun i j a b hij hi hj e => by
  have h1 := (hB j b hj).2.1
  rw [← Bool.not_eq_true, List.contains_iff_mem] at h1
  refine h1 (List.mem_map.2 ⟨a, List.mem_of_getElem? (i := i) ?_, e⟩)
  rw [List.getElem?_take, if_pos hij]; exact hi
 have keyR : ∀ (i j : Nat) (a b : Rp), i < j → s.rs[i]? = some a → s.rs[j]? = some b → a.nm ≠ b.nm := fun i j a b hij hi hj e => by
  have h1 := (hR j b hj).1
  rw [← Bool.not_eq_true, List.contains_iff_mem] at h1
  refine h1 (List.mem_append_right _ (List.mem_map.2 ⟨a, List.mem_of_getElem? (i := i) ?_, e⟩))
  rw [List.getElem?_take, if_pos hij]; exact hi
 refine ⟨b1, b6, r1, r6, hH, fun r hr h hh => ?_, fun b hb => ?_, fun i j a b hi hj e => ?_, fun b hb => ?_, fun i j a b hi hj e => ?_⟩
 ·obtain ⟨_, _, h3⟩ := hH r hr
  obtain ⟨j, hj⟩ := List.mem_iff_getElem?.1 hh
  unfold Y21 at h3
  rw [List.all_eq_true] at h3
  have := h3 j (List.mem_range.2 (List.getElem?_eq_some_iff.1 hj).1)
  rw [hj] at this
  exact Yhq this
 ·obtain ⟨i, hi⟩ := List.mem_iff_getElem?.1 hb
  exact (hB i b hi).2.2
 ·rcases Nat.lt_trichotomy i j with h | h | h
  ·exact absurd e (key i j a b h hi hj)
  ·exact h
  ·exact absurd e.symm (key j i b a h hj hi)
 ·obtain ⟨i, hi⟩ := List.mem_iff_getElem?.1 hb
  exact (hB i b hi).1
 ·rcases Nat.lt_trichotomy i j with h | h | h
  ·exact absurd e (keyR i j a b h hi hj)
  ·exact h
  ·exact absurd e.symm (keyR j i b a h hj hi)
theorem OkS.pull_le {s : Sy} (h : OkS s) {r : Rp} (hr : r ∈ s.rs) (nm : ByteArray) : -20 ≤ pull nm r.hs ∧ pull nm r.hs ≤ 20 := by
 have := Y66 (nm := nm) (h.pulls r hr)
 have := (h.holds r hr).2.1
 omega
theorem OkS.mat_len {s : Sy} (_h : OkS s) : (matS s).length = s.bs.length := by simp [matS]
theorem OkS.mat_wid {s : Sy} (h : OkS s) : wid (matS s) = s.rs.length := by
 have := h.b1
 unfold wid matS
 cases hb : s.bs with
 | nil => rw [hb] at this; simp at this
 | cons b l => simp
theorem OkS.mat_valid {s : Sy} (h : OkS s) : Y1c (matS s) = true := by
 refine Y0v.2 ⟨by rw [h.mat_len]; exact ⟨h.b1, h.b6⟩, by rw [h.mat_wid]; have := h.r1; have := h.r6; omega, fun r hr => ?_⟩
 obtain ⟨b, _, rfl⟩ := List.mem_map.1 hr
 refine ⟨by rw [h.mat_wid]; simp, fun x hx => ?_⟩
 obtain ⟨p, hp, rfl⟩ := List.mem_map.1 hx
 have := h.pull_le hp b.nm
 omega
theorem OkS.wts_len {s : Sy} (_h : OkS s) : (wtsS s).length = s.bs.length := by simp [wtsS]
theorem OkS.wts_in {s : Sy} (h : OkS s) : Y0u (wtsS s) 67108864 = true := Y88 fun n hn => by
 obtain ⟨b, hb, rfl⟩ := List.mem_map.1 hn
 have := h.wts b hb
 omega
end Go.Proofs.YtpbpafmgkdihlaaGreatDoor.T
