import Derived.Test.YtpcakodemleoiaaGreatHTB
import Derived.Test.YtpcakodemleoiaaGreatHWC
import Derived.Test.YtpcakodemleoiaaGreatHTN
import Derived.Test.YtpcakodemleoiaaGreatHMinJ
set_option linter.all false
namespace Go.Proofs.YtpcakodemleoiaaGreat.T
open Go Go.RowKit Lin
structure LayO (o : Nat) (rows : List (List Int)) (fr : List Nat) (cells : List D) (R : Hp) : Prop where
  lr : rows.length = fr.length
  lc : cells.length = fr.length
  nd : fr.Nodup
  at_ : ∀ (i x : Nat) (r : List Int), fr[i]? = some x → rows[i]? = some r → ∃ g, cells[i]? = some (D.own 1 (x + o) g 0 r.length) ∧ R[x]? = some (some ⟨3, g, r.map int⟩)
theorem LayO.nil (o : Nat) (R : Hp) : LayO o [] (List.range 0) [] R := ⟨rfl, rfl, List.nodup_nil, fun i x r h => by simp at h⟩
theorem LayO.push {o : Nat} {rows : List (List Int)} {k g : Nat} {cells : List D} {R : Hp} {r : List Int} (h : LayO o rows (List.range k) cells R) (hR : R.length = k) :
    LayO o (rows ++ [r]) (List.range (k + 1)) (cells ++ [D.own 1 (k + o) g 0 r.length]) (R ++ [some ⟨3, g, r.map int⟩]) := by
  have hr : rows.length = k := by simpa using h.lr
  have hc : cells.length = k := by simpa using h.lc
  refine ⟨by simp [hr], by simp [hc], List.nodup_range, fun i x r' hi hx => ?_⟩
  have hi' : i < k + 1 ∧ x = i := by
    obtain ⟨h1, h2⟩ := List.getElem?_eq_some_iff.1 hi
    simp at h1 h2
    exact ⟨h1, h2.symm⟩
  obtain ⟨h1, rfl⟩ := hi'
  by_cases hik : x < k
  · rw [List.getElem?_append_left (by omega)] at hx
    obtain ⟨g', g1, g2⟩ := h.at_ x x r' (by simp [hik]) hx
    exact ⟨g', by rw [List.getElem?_append_left (by omega)]; exact g1, by rw [List.getElem?_append_left (by omega)]; exact g2⟩
  · have hxk : x = k := by omega
    subst hxk
    rw [List.getElem?_append_right (by omega), hr, Nat.sub_self] at hx
    simp at hx
    subst hx
    exact ⟨g, by rw [List.getElem?_append_right (by omega), hc, Nat.sub_self]; rfl, by rw [List.getElem?_append_right (by omega), hR, Nat.sub_self]; rfl⟩
theorem LayO.swp {o : Nat} {rows : List (List Int)} {fr : List Nat} {cells : List D} {R : Hp} (h : LayO o rows fr cells R) {i j : Nat} (hij : i ≠ j) (hj : j < rows.length) (hi : i < rows.length) : LayO o (Lin.swp rows i j) (Lin.swp fr i j) (Lin.swp cells i j) R := by
  have h1 := h.lr
  have h2 := h.lc
  have at3 : ∀ {α : Type} (l : List α), i < l.length → j < l.length → ∀ x, (Lin.swp l i j)[x]? = if x = j then l[i]? else if x = i then l[j]? else l[x]? := fun l a b x => Lin.swp_get l a b x
  refine ⟨by rw [Y13, Y13, h1], by rw [Y13, Y13, h2], ?_, fun y x r hy hr => ?_⟩
  · rcases Nat.lt_or_gt_of_ne hij with hlt | hlt
    · exact (Lin.swp_perm hlt (by omega)).nodup_iff.2 h.nd
    · rw [Lin.swp_comm fr i j (by omega) (by omega)]
      exact (Lin.swp_perm hlt (by omega)).nodup_iff.2 h.nd
  · rw [at3 fr (by omega) (by omega)] at hy
    rw [at3 rows (by omega) (by omega)] at hr
    rw [at3 cells (by omega) (by omega)]
    by_cases e1 : y = j
    · rw [if_pos e1] at hy hr ⊢
      exact h.at_ i x r hy hr
    · rw [if_neg e1] at hy hr ⊢
      by_cases e2 : y = i
      · rw [if_pos e2] at hy hr ⊢
        exact h.at_ j x r hy hr
      · rw [if_neg e2] at hy hr ⊢
        exact h.at_ y x r hy hr
theorem LayO.set {o : Nat} {rows : List (List Int)} {fr : List Nat} {cells : List D} {R : Hp} (h : LayO o rows fr cells R) {i x g : Nat} {r r' : List Int} (hx : fr[i]? = some x) (hr : rows[i]? = some r) (hR : R[x]? = some (some ⟨3, g, r.map int⟩)) (hl : r'.length = r.length) :
    LayO o (rows.set i r') fr cells (R.set x (some ⟨3, g, r'.map int⟩)) := by
  refine ⟨by simpa using h.lr, h.lc, h.nd, fun y z s hy hs => ?_⟩
  have hiN := (List.getElem?_eq_some_iff.1 hr).1
  have hxR := (List.getElem?_eq_some_iff.1 hR).1
  by_cases e : y = i
  · subst e
    rw [hx] at hy; cases hy
    rw [List.getElem?_set_self hiN] at hs
    cases hs
    obtain ⟨g', k1, k2⟩ := h.at_ y x r hx hr
    rw [hR] at k2
    cases k2
    exact ⟨g, by rw [hl]; exact k1, by rw [List.getElem?_set_self hxR]⟩
  · rw [List.getElem?_set_ne (Ne.symm e)] at hs
    obtain ⟨g', k1, k2⟩ := h.at_ y z s hy hs
    have hzx : x ≠ z := fun e' => by
      subst e'
      obtain ⟨a1, a2⟩ := List.getElem?_eq_some_iff.1 hx
      obtain ⟨b1, b2⟩ := List.getElem?_eq_some_iff.1 hy
      have hp := List.pairwise_iff_getElem.1 h.nd
      rcases Nat.lt_or_gt_of_ne e with hlt | hlt
      · exact hp y i b1 a1 hlt (b2.trans a2.symm)
      · exact hp i y a1 b1 hlt (a2.trans b2.symm)
    exact ⟨g', k1, by rw [List.getElem?_set_ne hzx]; exact k2⟩
theorem shL_ints (n : Nat) (l : List Int) : shL n (l.map int) = l.map int := by
  induction l with
  | nil => rfl
  | cons x r ih => simp only [List.map_cons, shL, shD, ih]
theorem LayO.shift {o n : Nat} {rows : List (List Int)} {fr : List Nat} {cells : List D} {bs : List Blk} (h : LayO o rows fr cells (bs.map some)) : LayO (o + n) rows fr (shL n cells) ((bs.map (shB n)).map some) := by
  refine ⟨h.lr, by rw [Y91]; exact h.lc, h.nd, fun i x r hi hr => ?_⟩
  obtain ⟨g, h1, h2⟩ := h.at_ i x r hi hr
  refine ⟨g, by rw [Yac, List.getElem?_map, h1]; simp only [Option.map_some, shD, Nat.add_assoc], ?_⟩
  rw [List.getElem?_map] at h2
  cases hb : bs[x]? with
  | none => rw [hb] at h2; cases h2
  | some b =>
    rw [hb] at h2
    simp only [Option.map_some, Option.some.injEq] at h2
    subst h2
    simp only [List.getElem?_map, hb, Option.map_some, shB, shL_ints]
theorem zv_ints (m : Nat) (H2 : Hp) (k : Nat) (l : List Int) : (l.map int).map (zv m H2 k) = l.map int := by
  rw [List.map_map]
  refine List.map_congr_left fun x _ => ?_
  cases k with
  | zero => rfl
  | succ k => simp only [Function.comp_apply, zv, zz]
theorem LayO.value {o m : Nat} {rows : List (List Int)} {fr : List Nat} {cells : List D} {R : Hp} (h : LayO o rows fr cells R) {H2 : Hp} (hm : m ≤ o) (hH : ∀ x, x < R.length → H2[x + o - m]? = R[x]?) (k : Nat) : cells.map (zv m H2 (k + 1)) = rows.map ints := by
  have h1 := h.lr
  have h2 := h.lc
  apply List.ext_getElem?
  intro i
  by_cases hi : i < fr.length
  · obtain ⟨x, hx⟩ : ∃ x, fr[i]? = some x := ⟨_, List.getElem?_eq_getElem hi⟩
    obtain ⟨r, hr⟩ : ∃ r, rows[i]? = some r := ⟨_, List.getElem?_eq_getElem (by omega)⟩
    obtain ⟨g, k1, k2⟩ := h.at_ i x r hx hr
    rw [List.getElem?_map, List.getElem?_map, k1, hr]
    simp only [Option.map_some, zv, zz]
    rw [if_neg (by omega), hH x (List.getElem?_eq_some_iff.1 k2).1, k2]
    simp only [List.length_map, Nat.zero_add, Nat.mul_one, Nat.le_refl, and_self, if_true, List.drop_zero]
    rw [List.take_of_length_le (by simp), zv_ints]
  · rw [List.getElem?_eq_none (by simp; omega), List.getElem?_eq_none (by simp; omega)]
def copyP (m : List (List Int)) (right : List Int) : List (List Int) := m.mapIdx fun i r => r ++ (right[i]?).toList
structure CP where
  k : Nat
  bs : List Blk
  cells : List D
  ga : Nat
  t : Nat
def CP.st (m : List (List Int)) (right : List Int) (x : CP) : St := ⟨[(0, mat m), (1, ints right), (5, .own 1 0 x.ga 0 x.k), (6, int x.k)], some ⟨126, x.ga, x.cells⟩ :: x.bs.map some, x.t⟩
theorem CP.st_mk (m : List (List Int)) (right : List Int) (k : Nat) (bs : List Blk) (cells : List D) (ga t : Nat) : CP.st m right ⟨k, bs, cells, ga, t⟩ = ⟨[(0, mat m), (1, ints right), (5, .own 1 0 ga 0 k), (6, int k)], some ⟨126, ga, cells⟩ :: bs.map some, t⟩ := rfl
def copyK (m : List (List Int)) (right : List Int) (t : Nat) (d : D) (H' : Hp) (t' : Nat) : Prop := ∃ (bs : List Blk) (cells : List D) (ga : Nat), d = .own 1 0 ga 0 m.length ∧ H' = some ⟨126, ga, cells⟩ :: bs.map some ∧ LayO 1 (copyP m right) (List.range m.length) cells (bs.map some) ∧ bs.length = m.length ∧ (∀ bl ∈ bs, t < bl.g ∧ ∃ r : List Int, bl.cells = r.map int) ∧ t < ga ∧ t ≤ t'
theorem copyP_take (m : List (List Int)) (right : List Int) (k : Nat) {r : List Int} (hr : m[k]? = some r) : (copyP m right).take (k + 1) = (copyP m right).take k ++ [r ++ (right[k]?).toList] := by
  rw [List.take_add_one]
  simp [copyP, hr]
set_option maxHeartbeats 1000000 in
theorem copy0 (m : List (List Int)) (right : List Int) (hm : m.length ≤ 1000) (hw : ∀ r ∈ m, r ≠ [] ∧ r.length ≤ 1000) (hr' : right.length ≤ 1000) (t : Nat) : ACall Tryz.prog 146 [mat m, ints right] [] t (copyK m right t) := by
  refine ACall.enter tab_ok Tryz.func146 rfl rfl Tryz.ntmps146 (by simp) ?_
  simp only [Y06]
  ((refine wqa ?_))
  ((refine wqa ?_))
  refine AW.begin 5 1 126 rfl (by omega) ?_
  (simp (disch := omega) only [bb, bt, zDs, zD, Y00, simprocAttr])
  ((refine wqa ?_))
  refine Y0j (CP.st m right) (fun x => x.k = m.length ∧ x.bs.length = m.length ∧ LayO 1 (copyP m right) (List.range m.length) x.cells (x.bs.map some) ∧ (∀ bl ∈ x.bs, t < bl.g ∧ ∃ r : List Int, bl.cells = r.map int) ∧ t < x.ga ∧ t ≤ x.t) ?_ ?_
  · refine Y04 ?_
    refine Y07 (CP.st m right) (fun x => m.length - x.k) (fun x => x.k ≤ m.length ∧ x.bs.length = x.k ∧ LayO 1 ((copyP m right).take x.k) (List.range x.k) x.cells (x.bs.map some) ∧ (∀ bl ∈ x.bs, t < bl.g ∧ ∃ r : List Int, bl.cells = r.map int) ∧ t < x.ga ∧ t ≤ x.t) ⟨0, [], [], t + 1, t + 1⟩ ⟨Nat.zero_le _, rfl, .nil _ _, by simp, by simp, by simp⟩ (by (simp (disch := omega) only [StLe, tmLe, Y03, hpLe, bl, bb, bt, zDs, zD, Y00, simprocAttr, CP.st_mk])) ?_
    rintro ⟨k, bs, cells, ga, tt⟩ ⟨hk, hb, hL, hbs, hga, htt⟩
    simp only at hk hb hL hbs hga htt
    rw [CP.st_mk]
    by_cases hlt : k < m.length
    · obtain ⟨r, hr⟩ : ∃ r, m[k]? = some r := ⟨_, List.getElem?_eq_getElem hlt⟩
      obtain ⟨hne, hrl⟩ := hw r (List.mem_of_getElem? hr)
      obtain ⟨x0, r0, rfl⟩ : ∃ x0 r0, r = x0 :: r0 := by
        cases r with
        | nil => exact absurd rfl hne
        | cons a b => exact ⟨a, b, rfl⟩
      have hlc : cells.length = k := by simpa using hL.lc
      have hcell := Y7x (x0 :: r0)
      simp only [List.map_cons] at hcell
      simp only [List.length_cons] at hrl
      ((refine wqb (F := _∧_) ⟨@Int.ofNat_lt, hlt⟩ ?_))
      ((refine wia ?_))
      ((refine wsa ?_))
      ((repeat refine Y01 ?_))
      refine Y04 ?_
      ((repeat refine Y01 ?_); (refine Y05 tab_ok fun KR hKR => ?_); (repeat ((first | refine Y0r rfl fun KK hKK => ?_ | refine Y0s rfl rfl fun KK hKK => ?_ | refine Y0c rfl fun KK hKK => ?_); simp (disch := omega) only [bb, bt, zDs, zD, Y00, simprocAttr, hlt, hr, hcell, List.length_map, Y1h]; refine hKK _ ?_; clear hKK KK)); (refine Y0g ?_); (refine hKR _ ?_); (try clear hKR KR); (repeat (with_reducible first | refine q1 ?_ | refine q2 ?_ | refine q3 ?_ | refine q4 ?_ | refine q5 ?_ | refine q6 ?_ | (refine q7 ?_ ?_; (focus (with_unfolding_all rfl))))))
      have hget : ∀ B : Blk, (List.map some bs ++ [some B])[bs.length]? = some (some B) := fun B => by rw [List.getElem?_append_right (by simp)]; simp
      have hset : ∀ B B' : Option Blk, (List.map some bs ++ [B]).set bs.length B' = List.map some bs ++ [B'] := fun B B' => by rw [List.set_append_right _ _ (by simp)]; simp
      have nilr : ∀ B : Blk, List.map some bs ++ [some B] = List.map some (bs ++ [B]) := fun B => by simp
      have done : ∀ (q : List Int) (g tt' : Nat), q = (x0 :: r0) ++ (right[k]?).toList → tt < g → tt ≤ tt' → (k + 1 ≤ m.length ∧ (bs ++ [(⟨3, g, q.map int⟩ : Blk)]).length = k + 1 ∧ LayO 1 ((copyP m right).take (k + 1)) (List.range (k + 1)) (cells ++ [D.own 1 (k + 1) g 0 q.length]) ((bs ++ [(⟨3, g, q.map int⟩ : Blk)]).map some) ∧ (∀ bl ∈ bs ++ [(⟨3, g, q.map int⟩ : Blk)], t < bl.g ∧ ∃ r : List Int, bl.cells = r.map int) ∧ t < tt' + 1 ∧ t ≤ tt' + 1) := fun q g tt' hq hg htt' => by
        refine ⟨hlt, by simp [hb], ?_, fun bl hbl => ?_, by omega, by omega⟩
        · rw [copyP_take m right k hr, ← hq, ← nilr]
          exact hL.push (by simp [hb])
        · rcases List.mem_append.1 hbl with h | h
          · exact hbs bl h
          · simp only [List.mem_singleton] at h; subst h; exact ⟨by show t < g; omega, q, rfl⟩
      by_cases hkr : k < right.length
      · obtain ⟨v, hv⟩ : ∃ v, right[k]? = some v := ⟨_, List.getElem?_eq_getElem hkr⟩
        ((refine wqb (F := _∧_) ⟨@Int.ofNat_lt, hkr⟩ ?_))
        ((refine wia ?_))
        ((repeat refine Y01 ?_); (refine Y05 tab_ok fun KR hKR => ?_); (repeat ((first | refine Y0r rfl fun KK hKK => ?_ | refine Y0s rfl rfl fun KK hKK => ?_ | refine Y0c rfl fun KK hKK => ?_); simp (disch := omega) only [bb, bt, zDs, zD, Y00, simprocAttr, Int.ofNat_lt, hkr, hv, hget, hset, Y1h]; refine hKK _ ?_; clear hKK KK)); (refine Y0g ?_); (refine hKR _ ?_); (try clear hKR KR); (repeat (with_reducible first | refine q1 ?_ | refine q2 ?_ | refine q3 ?_ | refine q4 ?_ | refine q5 ?_ | refine q6 ?_ | (refine q7 ?_ ?_; (focus (with_unfolding_all rfl))))))
        ((refine wqb (F := _∧_) ⟨hlc, hb⟩ ?_))
        ((refine wqa ?_))
        refine ⟨⟨k + 1, bs ++ [⟨3, tt + 1 + 1, (x0 :: r0 ++ [v]).map int⟩], cells ++ [D.own 1 (k + 1) (tt + 1 + 1) 0 (x0 :: r0 ++ [v]).length], tt + 1 + 1 + 1, tt + 1 + 1 + 1⟩, done (x0 :: r0 ++ [v]) (tt + 1 + 1) (tt + 1 + 1) (by rw [hv]; rfl) (by omega) (by omega), by show m.length - (k + 1) < m.length - k; omega, ?_⟩
        rw [CP.st_mk, ← nilr]
        (simp (disch := omega) only [StLe, tmLe, Y03, hpLe, bl, bb, bt, zDs, zD, Y00, simprocAttr, List.map_append])
      · have hv : right[k]? = none := List.getElem?_eq_none (by omega)
        ((refine wqb (F := _∧_) ⟨@Int.ofNat_lt, hkr⟩ ?_))
        ((refine wia ?_))
        ((refine wsa ?_))
        ((refine wqb (F := _∧_) ⟨hlc, hb⟩ ?_))
        ((refine wqa ?_))
        refine ⟨⟨k + 1, bs ++ [⟨3, tt + 1, (x0 :: r0).map int⟩], cells ++ [D.own 1 (k + 1) (tt + 1) 0 (x0 :: r0).length], tt + 1 + 1, tt + 1 + 1⟩, done (x0 :: r0) (tt + 1) (tt + 1) (by rw [hv]; simp) (by omega) (by omega), by show m.length - (k + 1) < m.length - k; omega, ?_⟩
        rw [CP.st_mk, ← nilr]
        (simp (disch := omega) only [StLe, tmLe, Y03, hpLe, bl, bb, bt, zDs, zD, Y00, simprocAttr])
    · have hke : k = m.length := by omega
      subst hke
      ((refine wqb @Int.lt_irrefl ?_))
      ((refine wia ?_))
      ((refine wxa ?_))
      refine ⟨⟨m.length, bs, cells, ga, tt⟩, ⟨rfl, hb, ?_, hbs, hga, htt⟩, ?_⟩
      · rw [List.take_of_length_le (by simp [copyP])] at hL; exact hL
      · rw [CP.st_mk]; (simp (disch := omega) only [StLe, tmLe, Y03, hpLe, bl, bb, bt, zDs, zD, Y00, simprocAttr])
  · rintro ⟨k, bs, cells, ga, tt⟩ ⟨hk, hb, hL, hbs, hga, htt⟩
    simp only at hk hb hL hbs hga htt
    subst hk
    rw [CP.st_mk]
    ((refine wqa ?_))
    ((repeat refine Y01 ?_); (refine wta ?_); simp (disch := omega) only [retQ, resD, oneD, bb, bt, zDs, zD, Y00, simprocAttr, Tryz.results146])
    exact ⟨bs, cells, ga, rfl, rfl, hL, hb, hbs, hga, htt⟩
theorem copy_call {m : List (List Int)} {right : List Int} (hm : m.length ≤ 1000) (hw : ∀ r ∈ m, r ≠ [] ∧ r.length ≤ 1000) (hr' : right.length ≤ 1000) {ds : List D} {H : Hp} {t : Nat} {K : D → Hp → Nat → Prop} (hd : ds.map ufa = [mat m, ints right])
    (hK : ∀ (ga : Nat) (cells : List D) (R : Hp) (t' : Nat), LayO (H.length + 1) (copyP m right) (List.range m.length) cells R → R.length = m.length → t ≤ t' → K (.own 1 H.length ga 0 m.length) (H ++ some ⟨126, ga, cells⟩ :: R) t') : ACall Tryz.prog 146 ds H t K := by
  have hp : Y0q [mat m, ints right] = true := by
    have h1 : ∀ m : List (List Int), Y0q (m.map ints) = true := fun m => by
      induction m with
      | nil => rfl
      | cons r m ih => simp only [List.map_cons, Y0q, Y0z, Y4w, ih, Bool.and_self]
    simp only [Y0q, Y0z, h1, Y4w, Bool.and_self]
  refine ACall.of_new (copy0 m right hm hw hr' t) hd hp fun d H' t' hk => ?_
  obtain ⟨bs, cells, ga, rfl, rfl, hL, hb, hbs, hga, htt⟩ := hk
  refine ⟨⟨126, ga, cells⟩ :: bs, rfl, ⟨htt, by simp [inD], fun bl hbl => ?_⟩, ?_⟩
  · rcases List.mem_cons.1 hbl with rfl | hbl
    · refine ⟨hga, Y7y fun d hd => ?_⟩
      obtain ⟨i, hi⟩ := List.mem_iff_getElem?.1 hd
      have hlc := hL.lc
      have hlr := hL.lr
      have hiN : i < m.length := by have := (List.getElem?_eq_some_iff.1 hi).1; simpa [hlc] using this
      obtain ⟨r, hr⟩ : ∃ r, (copyP m right)[i]? = some r := ⟨_, List.getElem?_eq_getElem (by rw [hlr]; simpa using hiN)⟩
      obtain ⟨g, h1, _⟩ := hL.at_ i i r (by simp [hiN]) hr
      rw [hi] at h1
      cases h1
      simp only [inD, List.length_cons, decide_eq_true_eq]
      omega
    · obtain ⟨h1, r, h2⟩ := hbs bl hbl
      refine ⟨h1, Y7y fun d hd => ?_⟩
      rw [h2] at hd
      obtain ⟨x, _, rfl⟩ := List.mem_map.1 hd
      rfl
  · have h1 := hL.shift (n := H.length)
    rw [Nat.add_comm 1 H.length] at h1
    have h2 := hK ga (shL H.length cells) ((bs.map (shB H.length)).map some) t' h1 (by simp [hb]) htt
    simpa [shD, shB] using h2
end Go.Proofs.YtpcakodemleoiaaGreat.T

