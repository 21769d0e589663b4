import Derived.Test.YtpcakodemleoiaaTVS
set_option linter.all false
namespace Go.Proofs.Ytpcakodemleoiaa.T
open Go Go.RowKit Lin
set_option linter.unusedSimpArgs false

/-! slices.Reverse, in the caller's block. -/
/-- The first i of a list, and the last i, have changed places. -/
def rvS {α : Type} (l : List α) : Nat → List α
  | 0 => l
  | i + 1 => Lin.swp (rvS l i) i (l.length - 1 - i)
theorem rvS_len {α : Type} (l : List α) : ∀ i, (rvS l i).length = l.length
  | 0 => rfl
  | i + 1 => by simp only [rvS]; rw [Lin.swp_length, rvS_len l i]
theorem rvS_get {α : Type} (l : List α) : ∀ (i : Nat), 2 * i ≤ l.length + 1 → ∀ k, k < l.length → (rvS l i)[k]? = if k < i ∨ l.length - 1 - k < i then l[l.length - 1 - k]? else l[k]?
  | 0, _, k, hk => by simp [rvS]
  | i + 1, hi, k, hk => by
    have ih := rvS_get l i (by omega)
    have hl := rvS_len l i
    simp only [rvS]
    rw [Lin.swp_get _ (by omega) (by omega)]
    by_cases e1 : k = l.length - 1 - i
    · subst e1
      rw [if_pos rfl, ih i (by omega)]
      have a1 : ¬ (i < i ∨ l.length - 1 - i < i) := by omega
      rw [if_neg a1]
      have a2 : l.length - 1 - (l.length - 1 - i) = i := by omega
      rw [if_pos (by omega), a2]
    · rw [if_neg e1]
      by_cases e2 : k = i
      · subst e2
        rw [if_pos rfl, ih _ (by omega)]
        by_cases e3 : l.length - 1 - k < k
        · omega
        · rw [if_neg (by omega), if_pos (by omega)]
      · rw [if_neg e2, ih k hk]
        by_cases e3 : k < i ∨ l.length - 1 - k < i
        · rw [if_pos e3, if_pos (by omega)]
        · rw [if_neg e3, if_neg (by omega)]
theorem rvS_end {α : Type} (l : List α) {i : Nat} (h1 : 2 * i ≤ l.length + 1) (h2 : l.length ≤ 2 * i + 1) : rvS l i = l.reverse := by
  refine List.ext_getElem? fun k => ?_
  by_cases hk : k < l.length
  · rw [rvS_get l i h1 k hk, List.getElem?_reverse hk]
    by_cases e : k < i ∨ l.length - 1 - k < i
    · rw [if_pos e]
    · rw [if_neg e]
      have : l.length - 1 - k = k := by omega
      rw [this]
  · rw [List.getElem?_eq_none (by rw [rvS_len]; omega), List.getElem?_eq_none (by simp; omega)]
/-- Groups of cells. -/
theorem grp_len {sz : Nat} : ∀ {l : List (List D)}, (∀ x ∈ l, x.length = sz) → l.flatten.length = l.length * sz
  | [], _ => by simp
  | x :: l, h => by
    rw [List.flatten_cons, List.length_append, h x (by simp), grp_len fun y hy => h y (List.mem_cons_of_mem _ hy), List.length_cons, Nat.add_mul]
    omega
theorem grp_read {sz : Nat} : ∀ {l : List (List D)}, (∀ x ∈ l, x.length = sz) → ∀ (i : Nat) (x : List D), l[i]? = some x → (l.flatten.drop (i * sz)).take sz = x
  | [], _, i, x, h => by simp at h
  | y :: l, hl, 0, x, h => by
    simp at h; subst h
    rw [Nat.zero_mul, List.drop_zero, List.flatten_cons, List.take_left' (hl y (by simp))]
  | y :: l, hl, i + 1, x, h => by
    have ih := grp_read (fun z hz => hl z (List.mem_cons_of_mem _ hz)) i x (by simpa using h)
    have hy := hl y (by simp)
    have e : (i + 1) * sz = y.length + i * sz := by rw [hy, Nat.add_mul]; omega
    rw [e, List.flatten_cons, List.drop_append, List.drop_eq_nil_of_le (by omega), List.nil_append, Nat.add_sub_cancel_left]
    exact ih
theorem grp_set {sz : Nat} : ∀ {l : List (List D)}, (∀ x ∈ l, x.length = sz) → ∀ (i : Nat) (y : List D), i < l.length → l.flatten.take (i * sz) ++ y ++ l.flatten.drop (i * sz + sz) = (l.set i y).flatten
  | [], _, i, y, h => by simp at h
  | x :: l, hl, 0, y, h => by
    have hx := hl x (by simp)
    simp only [Nat.zero_mul, List.take_zero, List.nil_append, Nat.zero_add, List.set_cons_zero, List.flatten_cons]
    rw [List.drop_append, List.drop_eq_nil_of_le (by omega), hx, Nat.sub_self]; simp
  | x :: l, hl, i + 1, y, h => by
    have ih := grp_set (fun z hz => hl z (List.mem_cons_of_mem _ hz)) i y (by simpa using h)
    have hx := hl x (by simp)
    have e : (i + 1) * sz = x.length + i * sz := by rw [hx, Nat.add_mul]; omega
    rw [List.set_cons_succ, List.flatten_cons, List.flatten_cons, ← ih, e, Nat.add_assoc, List.take_append, List.take_of_length_le (by omega), Nat.add_sub_cancel_left, List.drop_append, List.drop_eq_nil_of_le (by omega), List.nil_append, Nat.add_sub_cancel_left]
    simp
theorem swp_mem' {α : Type} {l : List α} {i j : Nat} (hi : i < l.length) (hj : j < l.length) {x : α} (h : x ∈ Lin.swp l i j) : x ∈ l := by
  obtain ⟨k, hk⟩ := List.mem_iff_getElem?.1 h
  rw [Lin.swp_get l hi hj] at hk
  split at hk
  · exact List.mem_of_getElem? hk
  · split at hk
    · exact List.mem_of_getElem? hk
    · exact List.mem_of_getElem? hk
theorem rvS_mem {α : Type} {l : List α} : ∀ {i : Nat}, 2 * i ≤ l.length + 1 → ∀ x, x ∈ rvS l i → x ∈ l
  | 0, _, x, h => h
  | i + 1, hi, x, h => by
    simp only [rvS] at h
    have hl := rvS_len l i
    exact rvS_mem (by omega) x (swp_mem' (by omega) (by omega) h)
set_option maxHeartbeats 2000000 in
theorem reverseBk {H : Hp} {t b g : Nat} {l : List (List D)} (hb : H[b]? = some (some ⟨35, g, l.flatten⟩)) (hsh : ∀ x ∈ l, ∃ (nm : ByteArray) (w : Int), x = [str nm, int w]) (hn : l.length ≤ 1000000) : ACall Try.prog 11 [.own 2 b g 0 l.length] H t (fun _ H' _ => H' = H.set b (some ⟨35, g, l.reverse.flatten⟩)) := by
  refine ACall.enter tab_ok Try.func11 rfl rfl Try.ntmps11 (by simp) ?_
  simp only [enterTM]
  have hl : ∀ x ∈ l, x.length = 2 := fun x hx => by
    obtain ⟨a1, a2, rfl⟩ := hsh x hx
    rfl
  have hbl := (List.getElem?_eq_some_iff.1 hb).1
  have hH : H.set b (some ⟨35, g, (rvS l 0).flatten⟩) = H := by
    refine List.ext_getElem? fun k => ?_
    by_cases e : b = k
    · subst e
      rw [List.getElem?_set_self hbl, hb]
      rfl
    · rw [List.getElem?_set_ne e]
  have hget : ∀ X : Option Blk, (H.set b X)[b]? = some X := fun X => List.getElem?_set_self hbl
  have hne : ∀ X : Option Blk, (b = (H.set b X).length) = False := fun X => by simp; omega
  have hss : ∀ X Y : Option Blk, (H.set b X).set b Y = H.set b Y := fun X Y => by simp
  have hfl : ∀ i, 2 * i ≤ l.length + 1 → (rvS l i).flatten.length = l.length * 2 := fun i hi => by
    rw [grp_len fun x hx => hl x (rvS_mem hi x hx), rvS_len]
  have hf0 := hfl 0 (by omega)
  conv => arg 5; rw [← hH]
  ((refine ggb0 (F := _∧_) ⟨hget, hf0⟩ ?_))
  ((repeat refine AW_seq ?_))
  refine AW_block ?_
  refine AW_loop_w (fun x : Nat × Nat => ⟨[(0, .own 2 b g 0 l.length), (2, int x.1), (3, int ((l.length : Int) - 1 - x.1))], H.set b (some ⟨35, g, (rvS l x.1).flatten⟩), x.2⟩) (fun x => l.length - x.1) (fun x => 2 * x.1 ≤ l.length + 1) (0, t) (by simp) (by (simp (disch := omega) only [StLe, tmLe, hpLe_refl, hpLe, bl, bb, bt, zDs, zD, eqCells, simprocAttr, Int.sub_zero])) ?_
  rintro ⟨i, tt⟩ hi
  simp only at hi
  have hfi := hfl i hi
  by_cases hlt : 2 * i + 1 < l.length
  · have c1 : (i : Int) < (l.length : Int) - 1 - i := by omega
    have ej : (l.length : Int) - 1 - i = ((l.length - 1 - i : Nat) : Int) := by omega
    have hil : i < l.length := by omega
    have hjl : l.length - 1 - i < l.length := by omega
    have hri := rvS_len l i
    have hmem := fun x hx => hl x (rvS_mem hi x hx)
    obtain ⟨x, hx⟩ : ∃ x, (rvS l i)[i]? = some x := ⟨_, List.getElem?_eq_getElem (by omega)⟩
    obtain ⟨y, hy⟩ : ∃ y, (rvS l i)[l.length - 1 - i]? = some y := ⟨_, List.getElem?_eq_getElem (by omega)⟩
    have hrx := grp_read hmem i x hx
    have hry := grp_read hmem _ y hy
    have hxl := hmem x (List.mem_of_getElem? hx)
    have hyl := hmem y (List.mem_of_getElem? hy)
    have hs1 := grp_set hmem i y (by omega)
    have hmem2 : ∀ z ∈ (rvS l i).set i y, z.length = 2 := fun z hz => by
      rcases List.mem_or_eq_of_mem_set hz with h | rfl
      · exact hmem z h
      · exact hyl
    have hs2 := grp_set hmem2 (l.length - 1 - i) x (by rw [List.length_set]; omega)
    have hsw : ((rvS l i).set i y).set (l.length - 1 - i) x = rvS l (i + 1) := by
      simp only [rvS]
      unfold Lin.swp
      rw [hx, hy]
    rw [hsw] at hs2
    have hf2 : ((rvS l i).set i y).flatten.length = l.length * 2 := by rw [grp_len hmem2, List.length_set, hri]
    have hx0 := hsh x (rvS_mem hi x (List.mem_of_getElem? hx))
    have hy0 := hsh y (rvS_mem hi y (List.mem_of_getElem? hy))
    obtain ⟨a1, a2, rfl⟩ := hx0
    obtain ⟨b1, b2, rfl⟩ := hy0
    ((refine ggb0 c1 ?_))
    ((repeat refine AW_seq ?_))
    refine AW_block ?_
    ((repeat refine AW_seq ?_); (refine AW_drawn_k tab_ok follows_mixed 0 fun KR hKR => ?_); simp only [List.replicate_succ, List.replicate_zero, List.append_nil, List.nil_append, List.cons_append, List.length_cons, List.length_nil, Nat.reduceAdd])
    ((refine wdb (F := _∧_∧_∧_∧_∧_∧_∧_∧_∧_∧_∧_) ⟨hget, hss, hne, hfi, hf2, ej, hil, hjl, hrx, hry, hs1, hs2⟩ ?_))
    ((refine awD_nil ?_); simp only [List.reverse_cons, List.reverse_nil, List.nil_append, List.cons_append]; (refine hKR _ _ (by exact anyB_map (clamp 0) (by kernel_rfl)) ?_); (try clear hKR KR); (repeat (with_reducible first | refine q1 ?_ | refine q2 ?_ | refine q3 ?_ | refine q4 ?_ | refine q5 ?_ | refine q6 ?_ | (refine q7 ?_ ?_; (focus (with_unfolding_all rfl))))))
    ((refine gga0 ?_))
    have ej2 : ((l.length - 1 - i : Nat) : Int) - 1 = (l.length : Int) - 1 - ((i : Int) + 1) := by omega
    refine ⟨(i + 1, tt + 1), by show 2 * (i + 1) ≤ _; omega, by show l.length - (i + 1) < l.length - i; omega, ?_⟩
    (simp (disch := omega) only [StLe, tmLe, hpLe_refl, hpLe, bl, bb, bt, zDs, zD, eqCells, simprocAttr, ej2])
  · have c1 : ¬ (i : Int) < (l.length : Int) - 1 - i := by omega
    have he := rvS_end l hi (by omega)
    rw [he]
    ((refine ggb0 c1 ?_))
    (simp (disch := omega) only [retQ, resD, oneD, rsv, rs, rsL, rsL_eq_map, List.map_map, bb, bt, zDs, zD, eqCells, simprocAttr, Try.results11])
set_option maxHeartbeats 2000000 in
theorem reverseRp {H : Hp} {t b g : Nat} {l : List (List D)} (hb : H[b]? = some (some ⟨39, g, l.flatten⟩)) (hsh : ∀ x ∈ l, ∃ (nm : ByteArray) (p g n : Nat) (hl : Bool), x = [str nm, .own 4 p g 0 n, bool hl]) (hn : l.length ≤ 1000000) : ACall Try.prog 12 [.own 3 b g 0 l.length] H t (fun _ H' _ => H' = H.set b (some ⟨39, g, l.reverse.flatten⟩)) := by
  refine ACall.enter tab_ok Try.func12 rfl rfl Try.ntmps12 (by simp) ?_
  simp only [enterTM]
  have hl : ∀ x ∈ l, x.length = 3 := fun x hx => by
    obtain ⟨a1, a2, a3, a4, a5, rfl⟩ := hsh x hx
    rfl
  have hbl := (List.getElem?_eq_some_iff.1 hb).1
  have hH : H.set b (some ⟨39, g, (rvS l 0).flatten⟩) = H := by
    refine List.ext_getElem? fun k => ?_
    by_cases e : b = k
    · subst e
      rw [List.getElem?_set_self hbl, hb]
      rfl
    · rw [List.getElem?_set_ne e]
  have hget : ∀ X : Option Blk, (H.set b X)[b]? = some X := fun X => List.getElem?_set_self hbl
  have hne : ∀ X : Option Blk, (b = (H.set b X).length) = False := fun X => by simp; omega
  have hss : ∀ X Y : Option Blk, (H.set b X).set b Y = H.set b Y := fun X Y => by simp
  have hfl : ∀ i, 2 * i ≤ l.length + 1 → (rvS l i).flatten.length = l.length * 3 := fun i hi => by
    rw [grp_len fun x hx => hl x (rvS_mem hi x hx), rvS_len]
  have hf0 := hfl 0 (by omega)
  conv => arg 5; rw [← hH]
  ((refine ggb0 (F := _∧_) ⟨hget, hf0⟩ ?_))
  ((repeat refine AW_seq ?_))
  refine AW_block ?_
  refine AW_loop_w (fun x : Nat × Nat => ⟨[(0, .own 3 b g 0 l.length), (2, int x.1), (3, int ((l.length : Int) - 1 - x.1))], H.set b (some ⟨39, g, (rvS l x.1).flatten⟩), x.2⟩) (fun x => l.length - x.1) (fun x => 2 * x.1 ≤ l.length + 1) (0, t) (by simp) (by (simp (disch := omega) only [StLe, tmLe, hpLe_refl, hpLe, bl, bb, bt, zDs, zD, eqCells, simprocAttr, Int.sub_zero])) ?_
  rintro ⟨i, tt⟩ hi
  simp only at hi
  have hfi := hfl i hi
  by_cases hlt : 2 * i + 1 < l.length
  · have c1 : (i : Int) < (l.length : Int) - 1 - i := by omega
    have ej : (l.length : Int) - 1 - i = ((l.length - 1 - i : Nat) : Int) := by omega
    have hil : i < l.length := by omega
    have hjl : l.length - 1 - i < l.length := by omega
    have hri := rvS_len l i
    have hmem := fun x hx => hl x (rvS_mem hi x hx)
    obtain ⟨x, hx⟩ : ∃ x, (rvS l i)[i]? = some x := ⟨_, List.getElem?_eq_getElem (by omega)⟩
    obtain ⟨y, hy⟩ : ∃ y, (rvS l i)[l.length - 1 - i]? = some y := ⟨_, List.getElem?_eq_getElem (by omega)⟩
    have hrx := grp_read hmem i x hx
    have hry := grp_read hmem _ y hy
    have hxl := hmem x (List.mem_of_getElem? hx)
    have hyl := hmem y (List.mem_of_getElem? hy)
    have hs1 := grp_set hmem i y (by omega)
    have hmem2 : ∀ z ∈ (rvS l i).set i y, z.length = 3 := fun z hz => by
      rcases List.mem_or_eq_of_mem_set hz with h | rfl
      · exact hmem z h
      · exact hyl
    have hs2 := grp_set hmem2 (l.length - 1 - i) x (by rw [List.length_set]; omega)
    have hsw : ((rvS l i).set i y).set (l.length - 1 - i) x = rvS l (i + 1) := by
      simp only [rvS]
      unfold Lin.swp
      rw [hx, hy]
    rw [hsw] at hs2
    have hf2 : ((rvS l i).set i y).flatten.length = l.length * 3 := by rw [grp_len hmem2, List.length_set, hri]
    have hx0 := hsh x (rvS_mem hi x (List.mem_of_getElem? hx))
    have hy0 := hsh y (rvS_mem hi y (List.mem_of_getElem? hy))
    obtain ⟨a1, a2, a3, a4, a5, rfl⟩ := hx0
    obtain ⟨b1, b2, b3, b4, b5, rfl⟩ := hy0
    ((refine ggb0 c1 ?_))
    ((repeat refine AW_seq ?_))
    refine AW_block ?_
    ((repeat refine AW_seq ?_); (refine AW_drawn_k tab_ok follows_mixed 0 fun KR hKR => ?_); simp only [List.replicate_succ, List.replicate_zero, List.append_nil, List.nil_append, List.cons_append, List.length_cons, List.length_nil, Nat.reduceAdd])
    ((refine wdb (F := _∧_∧_∧_∧_∧_∧_∧_∧_∧_∧_∧_) ⟨hget, hss, hne, hfi, hf2, ej, hil, hjl, hrx, hry, hs1, hs2⟩ ?_))
    ((refine awD_nil ?_); simp only [List.reverse_cons, List.reverse_nil, List.nil_append, List.cons_append]; (refine hKR _ _ (by exact anyB_map (clamp 0) (by kernel_rfl)) ?_); (try clear hKR KR); (repeat (with_reducible first | refine q1 ?_ | refine q2 ?_ | refine q3 ?_ | refine q4 ?_ | refine q5 ?_ | refine q6 ?_ | (refine q7 ?_ ?_; (focus (with_unfolding_all rfl))))))
    ((refine gga0 ?_))
    have ej2 : ((l.length - 1 - i : Nat) : Int) - 1 = (l.length : Int) - 1 - ((i : Int) + 1) := by omega
    refine ⟨(i + 1, tt + 1), by show 2 * (i + 1) ≤ _; omega, by show l.length - (i + 1) < l.length - i; omega, ?_⟩
    (simp (disch := omega) only [StLe, tmLe, hpLe_refl, hpLe, bl, bb, bt, zDs, zD, eqCells, simprocAttr, ej2])
  · have c1 : ¬ (i : Int) < (l.length : Int) - 1 - i := by omega
    have he := rvS_end l hi (by omega)
    rw [he]
    ((refine ggb0 c1 ?_))
    (simp (disch := omega) only [retQ, resD, oneD, rsv, rs, rsL, rsL_eq_map, List.map_map, bb, bt, zDs, zD, eqCells, simprocAttr, Try.results12])
set_option maxHeartbeats 2000000 in
theorem reverseFr {H : Hp} {t b g : Nat} {l : List (List D)} (hb : H[b]? = some (some ⟨42, g, l.flatten⟩)) (hsh : ∀ x ∈ l, ∃ (n d : Int), x = [int n, int d]) (hn : l.length ≤ 1000000) : ACall Try.prog 13 [.own 2 b g 0 l.length] H t (fun _ H' _ => H' = H.set b (some ⟨42, g, l.reverse.flatten⟩)) := by
  refine ACall.enter tab_ok Try.func13 rfl rfl Try.ntmps13 (by simp) ?_
  simp only [enterTM]
  have hl : ∀ x ∈ l, x.length = 2 := fun x hx => by
    obtain ⟨a1, a2, rfl⟩ := hsh x hx
    rfl
  have hbl := (List.getElem?_eq_some_iff.1 hb).1
  have hH : H.set b (some ⟨42, g, (rvS l 0).flatten⟩) = H := by
    refine List.ext_getElem? fun k => ?_
    by_cases e : b = k
    · subst e
      rw [List.getElem?_set_self hbl, hb]
      rfl
    · rw [List.getElem?_set_ne e]
  have hget : ∀ X : Option Blk, (H.set b X)[b]? = some X := fun X => List.getElem?_set_self hbl
  have hne : ∀ X : Option Blk, (b = (H.set b X).length) = False := fun X => by simp; omega
  have hss : ∀ X Y : Option Blk, (H.set b X).set b Y = H.set b Y := fun X Y => by simp
  have hfl : ∀ i, 2 * i ≤ l.length + 1 → (rvS l i).flatten.length = l.length * 2 := fun i hi => by
    rw [grp_len fun x hx => hl x (rvS_mem hi x hx), rvS_len]
  have hf0 := hfl 0 (by omega)
  conv => arg 5; rw [← hH]
  ((refine ggb0 (F := _∧_) ⟨hget, hf0⟩ ?_))
  ((repeat refine AW_seq ?_))
  refine AW_block ?_
  refine AW_loop_w (fun x : Nat × Nat => ⟨[(0, .own 2 b g 0 l.length), (2, int x.1), (3, int ((l.length : Int) - 1 - x.1))], H.set b (some ⟨42, g, (rvS l x.1).flatten⟩), x.2⟩) (fun x => l.length - x.1) (fun x => 2 * x.1 ≤ l.length + 1) (0, t) (by simp) (by (simp (disch := omega) only [StLe, tmLe, hpLe_refl, hpLe, bl, bb, bt, zDs, zD, eqCells, simprocAttr, Int.sub_zero])) ?_
  rintro ⟨i, tt⟩ hi
  simp only at hi
  have hfi := hfl i hi
  by_cases hlt : 2 * i + 1 < l.length
  · have c1 : (i : Int) < (l.length : Int) - 1 - i := by omega
    have ej : (l.length : Int) - 1 - i = ((l.length - 1 - i : Nat) : Int) := by omega
    have hil : i < l.length := by omega
    have hjl : l.length - 1 - i < l.length := by omega
    have hri := rvS_len l i
    have hmem := fun x hx => hl x (rvS_mem hi x hx)
    obtain ⟨x, hx⟩ : ∃ x, (rvS l i)[i]? = some x := ⟨_, List.getElem?_eq_getElem (by omega)⟩
    obtain ⟨y, hy⟩ : ∃ y, (rvS l i)[l.length - 1 - i]? = some y := ⟨_, List.getElem?_eq_getElem (by omega)⟩
    have hrx := grp_read hmem i x hx
    have hry := grp_read hmem _ y hy
    have hxl := hmem x (List.mem_of_getElem? hx)
    have hyl := hmem y (List.mem_of_getElem? hy)
    have hs1 := grp_set hmem i y (by omega)
    have hmem2 : ∀ z ∈ (rvS l i).set i y, z.length = 2 := fun z hz => by
      rcases List.mem_or_eq_of_mem_set hz with h | rfl
      · exact hmem z h
      · exact hyl
    have hs2 := grp_set hmem2 (l.length - 1 - i) x (by rw [List.length_set]; omega)
    have hsw : ((rvS l i).set i y).set (l.length - 1 - i) x = rvS l (i + 1) := by
      simp only [rvS]
      unfold Lin.swp
      rw [hx, hy]
    rw [hsw] at hs2
    have hf2 : ((rvS l i).set i y).flatten.length = l.length * 2 := by rw [grp_len hmem2, List.length_set, hri]
    have hx0 := hsh x (rvS_mem hi x (List.mem_of_getElem? hx))
    have hy0 := hsh y (rvS_mem hi y (List.mem_of_getElem? hy))
    obtain ⟨a1, a2, rfl⟩ := hx0
    obtain ⟨b1, b2, rfl⟩ := hy0
    ((refine ggb0 c1 ?_))
    ((repeat refine AW_seq ?_))
    refine AW_block ?_
    ((repeat refine AW_seq ?_); (refine AW_drawn_k tab_ok follows_mixed 0 fun KR hKR => ?_); simp only [List.replicate_succ, List.replicate_zero, List.append_nil, List.nil_append, List.cons_append, List.length_cons, List.length_nil, Nat.reduceAdd])
    ((refine wdb (F := _∧_∧_∧_∧_∧_∧_∧_∧_∧_∧_∧_) ⟨hget, hss, hne, hfi, hf2, ej, hil, hjl, hrx, hry, hs1, hs2⟩ ?_))
    ((refine awD_nil ?_); simp only [List.reverse_cons, List.reverse_nil, List.nil_append, List.cons_append]; (refine hKR _ _ (by exact anyB_map (clamp 0) (by kernel_rfl)) ?_); (try clear hKR KR); (repeat (with_reducible first | refine q1 ?_ | refine q2 ?_ | refine q3 ?_ | refine q4 ?_ | refine q5 ?_ | refine q6 ?_ | (refine q7 ?_ ?_; (focus (with_unfolding_all rfl))))))
    ((refine gga0 ?_))
    have ej2 : ((l.length - 1 - i : Nat) : Int) - 1 = (l.length : Int) - 1 - ((i : Int) + 1) := by omega
    refine ⟨(i + 1, tt + 1), by show 2 * (i + 1) ≤ _; omega, by show l.length - (i + 1) < l.length - i; omega, ?_⟩
    (simp (disch := omega) only [StLe, tmLe, hpLe_refl, hpLe, bl, bb, bt, zDs, zD, eqCells, simprocAttr, ej2])
  · have c1 : ¬ (i : Int) < (l.length : Int) - 1 - i := by omega
    have he := rvS_end l hi (by omega)
    rw [he]
    ((refine ggb0 c1 ?_))
    (simp (disch := omega) only [retQ, resD, oneD, rsv, rs, rsL, rsL_eq_map, List.map_map, bb, bt, zDs, zD, eqCells, simprocAttr, Try.results13])
set_option maxHeartbeats 2000000 in
theorem reverseHd {H : Hp} {t b g : Nat} {l : List (List D)} (hb : H[b]? = some (some ⟨46, g, l.flatten⟩)) (hsh : ∀ x ∈ l, ∃ (nm : ByteArray) (p n d : Int), x = [str nm, int p, int n, int d]) (hn : l.length ≤ 1000000) : ACall Try.prog 15 [.own 4 b g 0 l.length] H t (fun _ H' _ => H' = H.set b (some ⟨46, g, l.reverse.flatten⟩)) := by
  refine ACall.enter tab_ok Try.func15 rfl rfl Try.ntmps15 (by simp) ?_
  simp only [enterTM]
  have hl : ∀ x ∈ l, x.length = 4 := fun x hx => by
    obtain ⟨a1, a2, a3, a4, rfl⟩ := hsh x hx
    rfl
  have hbl := (List.getElem?_eq_some_iff.1 hb).1
  have hH : H.set b (some ⟨46, g, (rvS l 0).flatten⟩) = H := by
    refine List.ext_getElem? fun k => ?_
    by_cases e : b = k
    · subst e
      rw [List.getElem?_set_self hbl, hb]
      rfl
    · rw [List.getElem?_set_ne e]
  have hget : ∀ X : Option Blk, (H.set b X)[b]? = some X := fun X => List.getElem?_set_self hbl
  have hne : ∀ X : Option Blk, (b = (H.set b X).length) = False := fun X => by simp; omega
  have hss : ∀ X Y : Option Blk, (H.set b X).set b Y = H.set b Y := fun X Y => by simp
  have hfl : ∀ i, 2 * i ≤ l.length + 1 → (rvS l i).flatten.length = l.length * 4 := fun i hi => by
    rw [grp_len fun x hx => hl x (rvS_mem hi x hx), rvS_len]
  have hf0 := hfl 0 (by omega)
  conv => arg 5; rw [← hH]
  ((refine ggb0 (F := _∧_) ⟨hget, hf0⟩ ?_))
  ((repeat refine AW_seq ?_))
  refine AW_block ?_
  refine AW_loop_w (fun x : Nat × Nat => ⟨[(0, .own 4 b g 0 l.length), (2, int x.1), (3, int ((l.length : Int) - 1 - x.1))], H.set b (some ⟨46, g, (rvS l x.1).flatten⟩), x.2⟩) (fun x => l.length - x.1) (fun x => 2 * x.1 ≤ l.length + 1) (0, t) (by simp) (by (simp (disch := omega) only [StLe, tmLe, hpLe_refl, hpLe, bl, bb, bt, zDs, zD, eqCells, simprocAttr, Int.sub_zero])) ?_
  rintro ⟨i, tt⟩ hi
  simp only at hi
  have hfi := hfl i hi
  by_cases hlt : 2 * i + 1 < l.length
  · have c1 : (i : Int) < (l.length : Int) - 1 - i := by omega
    have ej : (l.length : Int) - 1 - i = ((l.length - 1 - i : Nat) : Int) := by omega
    have hil : i < l.length := by omega
    have hjl : l.length - 1 - i < l.length := by omega
    have hri := rvS_len l i
    have hmem := fun x hx => hl x (rvS_mem hi x hx)
    obtain ⟨x, hx⟩ : ∃ x, (rvS l i)[i]? = some x := ⟨_, List.getElem?_eq_getElem (by omega)⟩
    obtain ⟨y, hy⟩ : ∃ y, (rvS l i)[l.length - 1 - i]? = some y := ⟨_, List.getElem?_eq_getElem (by omega)⟩
    have hrx := grp_read hmem i x hx
    have hry := grp_read hmem _ y hy
    have hxl := hmem x (List.mem_of_getElem? hx)
    have hyl := hmem y (List.mem_of_getElem? hy)
    have hs1 := grp_set hmem i y (by omega)
    have hmem2 : ∀ z ∈ (rvS l i).set i y, z.length = 4 := fun z hz => by
      rcases List.mem_or_eq_of_mem_set hz with h | rfl
      · exact hmem z h
      · exact hyl
    have hs2 := grp_set hmem2 (l.length - 1 - i) x (by rw [List.length_set]; omega)
    have hsw : ((rvS l i).set i y).set (l.length - 1 - i) x = rvS l (i + 1) := by
      simp only [rvS]
      unfold Lin.swp
      rw [hx, hy]
    rw [hsw] at hs2
    have hf2 : ((rvS l i).set i y).flatten.length = l.length * 4 := by rw [grp_len hmem2, List.length_set, hri]
    have hx0 := hsh x (rvS_mem hi x (List.mem_of_getElem? hx))
    have hy0 := hsh y (rvS_mem hi y (List.mem_of_getElem? hy))
    obtain ⟨a1, a2, a3, a4, rfl⟩ := hx0
    obtain ⟨b1, b2, b3, b4, rfl⟩ := hy0
    ((refine ggb0 c1 ?_))
    ((repeat refine AW_seq ?_))
    refine AW_block ?_
    ((repeat refine AW_seq ?_); (refine AW_drawn_k tab_ok follows_mixed 0 fun KR hKR => ?_); simp only [List.replicate_succ, List.replicate_zero, List.append_nil, List.nil_append, List.cons_append, List.length_cons, List.length_nil, Nat.reduceAdd])
    ((refine wdb (F := _∧_∧_∧_∧_∧_∧_∧_∧_∧_∧_∧_) ⟨hget, hss, hne, hfi, hf2, ej, hil, hjl, hrx, hry, hs1, hs2⟩ ?_))
    ((refine awD_nil ?_); simp only [List.reverse_cons, List.reverse_nil, List.nil_append, List.cons_append]; (refine hKR _ _ (by exact anyB_map (clamp 0) (by kernel_rfl)) ?_); (try clear hKR KR); (repeat (with_reducible first | refine q1 ?_ | refine q2 ?_ | refine q3 ?_ | refine q4 ?_ | refine q5 ?_ | refine q6 ?_ | (refine q7 ?_ ?_; (focus (with_unfolding_all rfl))))))
    ((refine gga0 ?_))
    have ej2 : ((l.length - 1 - i : Nat) : Int) - 1 = (l.length : Int) - 1 - ((i : Int) + 1) := by omega
    refine ⟨(i + 1, tt + 1), by show 2 * (i + 1) ≤ _; omega, by show l.length - (i + 1) < l.length - i; omega, ?_⟩
    (simp (disch := omega) only [StLe, tmLe, hpLe_refl, hpLe, bl, bb, bt, zDs, zD, eqCells, simprocAttr, ej2])
  · have c1 : ¬ (i : Int) < (l.length : Int) - 1 - i := by omega
    have he := rvS_end l hi (by omega)
    rw [he]
    ((refine ggb0 c1 ?_))
    (simp (disch := omega) only [retQ, resD, oneD, rsv, rs, rsL, rsL_eq_map, List.map_map, bb, bt, zDs, zD, eqCells, simprocAttr, Try.results15])
end Go.Proofs.Ytpcakodemleoiaa.T

