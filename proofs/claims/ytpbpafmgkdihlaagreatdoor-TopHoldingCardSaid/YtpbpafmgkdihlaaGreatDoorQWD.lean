import Derived.Test.YtpbpafmgkdihlaaGreatDoorQTB
import Derived.Test.YtpbpafmgkdihlaaGreatDoorQWC
import Derived.Test.YtpbpafmgkdihlaaGreatDoorQMinJ
set_option linter.all false
namespace Go.Proofs.YtpbpafmgkdihlaaGreatDoor.T
open Go Go.RowKit Lin
abbrev natD (l : List Nat) : List D := l.map fun x : Nat => int (x : Int)
structure Lay (rows : List (List Int)) (fr : List Nat) (cells : List D) (R : Hp) : Prop where
 lr : rows.length = fr.length
 lc : cells.length = fr.length
 nd : fr.Nodup
 at_ : ∀ (i x : Nat) (r : List Int), fr[i]? = some x → rows[i]? = some r → ∃ g, cells[i]? = some (D.own 1 (x + 5) g 0 r.length) ∧ R[x]? = some (some ⟨3, g, r.map int⟩)
theorem Lay.push {rows : List (List Int)} {k g : Nat} {cells : List D} {R : Hp} {r : List Int} (h : Lay rows (List.range k) cells R) (hR : R.length = k) :
    Lay (rows ++ [r]) (List.range (k + 1)) (cells ++ [D.own 1 (R.length + 1 + 1 + 1 + 1 + 1) g 0 r.length]) (R ++ [some ⟨3, g, r.map int⟩]) := by
  have hr : rows.length = k := by simpa using h.lr
  have hc : cells.length = k := by simpa using h.lc
  refine ⟨by simp [hr], by simp [hc], List.nodup_range, fun i x r' hi hx => ?_⟩
  have hi' : i < k + 1 ∧ x = i := by
    obtain ⟨h1, h2⟩ := List.getElem?_eq_some_iff.1 hi
    simp at h1 h2
    exact ⟨h1, h2.symm⟩
  obtain ⟨h1, rfl⟩ := hi'
  by_cases hik : x < k
  · rw [List.getElem?_append_left (by omega)] at hx
    obtain ⟨g', g1, g2⟩ := h.at_ x x r' (by simp [hik]) hx
    exact ⟨g', by rw [List.getElem?_append_left (by omega)]; exact g1, by rw [List.getElem?_append_left (by omega)]; exact g2⟩
  · have hxk : x = k := by omega
    subst hxk
    rw [List.getElem?_append_right (by omega), hr, Nat.sub_self] at hx
    simp at hx
    subst hx
    exact ⟨g, by rw [List.getElem?_append_right (by omega), hc, Nat.sub_self, hR]; rfl, by rw [List.getElem?_append_right (by omega), hR, Nat.sub_self]; rfl⟩
theorem swp_get {α : Type} (l : List α) {i j : Nat} {x y : α} (hi : l[i]? = some x) (hj : l[j]? = some y) : (l.set i y).set j x = swp l i j := by
 unfold swp; rw [hi, hj]
theorem Yjo (l : List Nat) (i : Nat) {x : Nat} (h : l[i]? = some x) : (natD l)[i]? = some (int x) := by simp [natD, h]
theorem Ysx (l : List Nat) {i j x y : Nat} (hi : l[i]? = some x) (hj : l[j]? = some y) : ((natD l).set i (int y)).set j (int x) = natD (swp l i j) := by
 rw [← swp_get l hi hj]; simp [natD, List.map_set]
theorem Yno {α : Type} (l : List α) {i j : Nat} (hi : i < l.length) (hj : j < l.length) (x : Nat) : (swp l i j)[x]? = if x = j then l[i]? else if x = i then l[j]? else l[x]? := Lin.swp_get l hi hj x
theorem Lay.swp {rows : List (List Int)} {fr : List Nat} {cells : List D} {R : Hp} (h : Lay rows fr cells R) {i j : Nat} (hj : j < i) (hi : i < rows.length) : Lay (Lin.swp rows i j) (Lin.swp fr i j) (Lin.swp cells i j) R := by
 have h1 := h.lr
 have h2 := h.lc
 refine ⟨by rw [Y1l, Y1l, h1], by rw [Y1l, Y1l, h2], ?_, fun y x r hy hr => ?_⟩
 ·rw [Lin.swp_comm fr i j (by omega) (by omega)]
  exact (Lin.swp_perm hj (by omega)).nodup_iff.2 h.nd
 ·rw [Yno fr (by omega) (by omega)] at hy
  rw [Yno rows (by omega) (by omega)] at hr
  rw [Yno cells (by omega) (by omega)]
  by_cases e1 : y = j
  ·rw [if_pos e1] at hy hr ⊢
   exact h.at_ i x r hy hr
  ·rw [if_neg e1] at hy hr ⊢
   by_cases e2 : y = i
   ·rw [if_pos e2] at hy hr ⊢
    exact h.at_ j x r hy hr
   ·rw [if_neg e2] at hy hr ⊢
    exact h.at_ y x r hy hr
theorem Lay.set {rows : List (List Int)} {fr : List Nat} {cells : List D} {R : Hp} (h : Lay rows fr cells R) {i x g : Nat} {r r' : List Int} (hx : fr[i]? = some x) (hr : rows[i]? = some r) (hR : R[x]? = some (some ⟨3, g, r.map int⟩)) (hl : r'.length = r.length) :
    Lay (rows.set i r') fr cells (R.set x (some ⟨3, g, r'.map int⟩)) := by
  refine ⟨by simpa using h.lr, h.lc, h.nd, fun y z s hy hs => ?_⟩
  have hiN := (List.getElem?_eq_some_iff.1 hr).1
  have hxR := (List.getElem?_eq_some_iff.1 hR).1
  by_cases e : y = i
  · subst e
    rw [hx] at hy; cases hy
    rw [List.getElem?_set_self hiN] at hs
    cases hs
    obtain ⟨g', k1, k2⟩ := h.at_ y x r hx hr
    rw [hR] at k2
    cases k2
    exact ⟨g, by rw [hl]; exact k1, by rw [List.getElem?_set_self hxR]⟩
  · rw [List.getElem?_set_ne (Ne.symm e)] at hs
    obtain ⟨g', k1, k2⟩ := h.at_ y z s hy hs
    have hzx : x ≠ z := fun e' => by
      subst e'
      obtain ⟨a1, a2⟩ := List.getElem?_eq_some_iff.1 hx
      obtain ⟨b1, b2⟩ := List.getElem?_eq_some_iff.1 hy
      have hp := List.pairwise_iff_getElem.1 h.nd
      rcases Nat.lt_or_gt_of_ne e with hlt | hlt
      · exact hp y i b1 a1 hlt (b2.trans a2.symm)
      · exact hp i y a1 b1 hlt (a2.trans b2.symm)
    exact ⟨g', k1, by rw [List.getElem?_set_ne hzx]; exact k2⟩
theorem Lay.read {rows : List (List Int)} {fr : List Nat} {cells : List D} {R : Hp} (h : Lay rows fr cells R) (b0 b1 b2 b3 b4 : Option Blk) (k : Nat) : cells.map (rsv (b0 :: b1 :: b2 :: b3 :: b4 :: R) (k + 2)) = rows.map ints := by
 have h1 := h.lr
 have h2 := h.lc
 apply List.ext_getElem?
 intro i
 by_cases hi : i < fr.length
 ·obtain ⟨x, hx⟩ : ∃ x, fr[i]? = some x := ⟨_, List.getElem?_eq_getElem hi⟩
  obtain ⟨r, hr⟩ : ∃ r, rows[i]? = some r := ⟨_, List.getElem?_eq_getElem (by omega)⟩
  obtain ⟨g, k1, k2⟩ := h.at_ i x r hx hr
  rw [List.getElem?_map, List.getElem?_map, k1, hr]
  simp only [Option.map_some, rsv, rs]
  have e : (b0 :: b1 :: b2 :: b3 :: b4 :: R)[x + 5]? = R[x]? := by simp
  rw [e, k2]
  simp only [List.length_map, Nat.zero_add, Nat.mul_one, Nat.le_refl, and_self, if_true, List.drop_zero]
  rw [List.take_of_length_le (by simp), List.map_map]
  congr 1
 ·rw [List.getElem?_eq_none (by simp; omega), List.getElem?_eq_none (by simp; omega)]
abbrev Yrt : List D := [.sl 1 [] true, int 0, .sl 1 [] true, .sl 1 [] true, bool false]
def Ytr (f : Frm) : D := .agg [mat f.rows, int f.den, .sl 1 (natD f.pivots) false, .sl 1 (natD f.fr) false, bool f.turned]
structure LA where
 k : Nat
 R : Hp
 cells : List D
 ga : Nat
 gf : Nat
 t : Nat
def LA.st (m : List (List Int)) (n t : Nat) (x : LA) : St := ⟨[(1, int n), (4, .ptr 0 (t + 1) 0), (5, .ptr 1 (t + 1 + 1) 0), (18, mat m), (19, int m.length), (20, int x.k)],
 some ⟨166, t + 1, Yrt⟩ :: some ⟨166, t + 1 + 1, [.own 1 2 x.ga 0 x.k, int 1, .own 1 3 (t + 1 + 1 + 1 + 1) 0 0, .own 1 4 x.gf 0 x.k, bool false]⟩ :: some ⟨59, x.ga, x.cells⟩ :: some ⟨3, t + 1 + 1 + 1 + 1, []⟩ :: some ⟨3, x.gf, natD (List.range x.k)⟩ :: x.R, x.t⟩
theorem LA.st_mk (m : List (List Int)) (n t k : Nat) (R : Hp) (cells : List D) (ga gf tt : Nat) : LA.st m n t ⟨k, R, cells, ga, gf, tt⟩ = ⟨[(1, int n), (4, .ptr 0 (t + 1) 0), (5, .ptr 1 (t + 1 + 1) 0), (18, mat m), (19, int m.length), (20, int k)],
 some ⟨166, t + 1, Yrt⟩ :: some ⟨166, t + 1 + 1, [.own 1 2 ga 0 k, int 1, .own 1 3 (t + 1 + 1 + 1 + 1) 0 0, .own 1 4 gf 0 k, bool false]⟩ :: some ⟨59, ga, cells⟩ :: some ⟨3, t + 1 + 1 + 1 + 1, []⟩ :: some ⟨3, gf, natD (List.range k)⟩ :: R, tt⟩ := rfl
structure LB where
 c : Nat
 f : Frm
 R : Hp
 cells : List D
 ga : Nat
 gp : Nat
 gf : Nat
 t : Nat
def LB.hp (t : Nat) (x : LB) : Hp := some ⟨166, t + 1, Yrt⟩ :: some ⟨166, t + 1 + 1, [.own 1 2 x.ga 0 x.f.rows.length, int x.f.den, .own 1 3 x.gp 0 x.f.pivots.length, .own 1 4 x.gf 0 x.f.fr.length, bool x.f.turned]⟩ :: some ⟨59, x.ga, x.cells⟩ :: some ⟨3, x.gp, natD x.f.pivots⟩ :: some ⟨3, x.gf, natD x.f.fr⟩ :: x.R
theorem LB.hp_mk (t c : Nat) (f : Frm) (R : Hp) (cells : List D) (ga gp gf tt : Nat) : LB.hp t ⟨c, f, R, cells, ga, gp, gf, tt⟩ = some ⟨166, t + 1, Yrt⟩ :: some ⟨166, t + 1 + 1, [.own 1 2 ga 0 f.rows.length, int f.den, .own 1 3 gp 0 f.pivots.length, .own 1 4 gf 0 f.fr.length, bool f.turned]⟩ :: some ⟨59, ga, cells⟩ :: some ⟨3, gp, natD f.pivots⟩ :: some ⟨3, gf, natD f.fr⟩ :: R := rfl
abbrev LB.tm (n t : Nat) (c : Nat) : TM := [(1, int n), (4, .ptr 0 (t + 1) 0), (5, .ptr 1 (t + 1 + 1) 0), (39, int n), (40, int c)]
def LB.st (n t : Nat) (x : LB) : St := ⟨LB.tm n t x.c, LB.hp t x, x.t⟩
theorem LB.st_mk (n t c : Nat) (f : Frm) (R : Hp) (cells : List D) (ga gp gf tt : Nat) : LB.st n t ⟨c, f, R, cells, ga, gp, gf, tt⟩ = ⟨LB.tm n t c, LB.hp t ⟨c, f, R, cells, ga, gp, gf, tt⟩, tt⟩ := rfl
set_option maxHeartbeats 2000000 in
theorem Yqk (m : List (List Int)) (w n : Nat) (hm : m.length ≤ 6) (hw : ∀ r ∈ m, r.length = w) (hw' : w ≤ 1000) (hn : n ≤ w) (hf : Fit m w n) : PRet Tryz.prog 107 [mat m, int n] (Ytr (elim m n)) := by
 refine pri 3 Tryz.func107 Tryz.ntmps107 fun t => ?_
 simp only [Y04]
 refine wqa ?_
 refine wqa ?_
 refine AW.begin_cell 1 0 1 59 rfl rfl (by omega) ?_
 refine AW.begin_cell 1 2 1 3 rfl rfl (by omega) ?_
 refine AW.begin_cell 1 3 1 3 rfl rfl (by omega) ?_
 (simp (disch := omega) only [bb, bt, zDs, zD, Y01, simprocAttr])
 refine wqb @Nat.lt_one_iff ?_
 refine Y0i (LA.st m n t) (fun x => x.k = m.length ∧ x.R.length = m.length ∧ Lay m (List.range m.length) x.cells x.R) ?_ ?_
 ·refine Y02 ?_
  refine Y05 (LA.st m n t) (fun x => m.length - x.k) (fun x => x.k ≤ m.length ∧ x.R.length = x.k ∧ Lay (m.take x.k) (List.range x.k) x.cells x.R) ⟨0, [], [], t + 1 + 1 + 1, t + 1 + 1 + 1 + 1 + 1, t + 1 + 1 + 1 + 1 + 1⟩ ⟨Nat.zero_le _, rfl, ⟨rfl, rfl, List.nodup_nil, fun i x r h => by simp at h⟩⟩ (by (simp (disch := omega) only [StLe, tmLe, Y0b, hpLe, bl, bb, bt, zDs, zD, Y01, simprocAttr, LA.st_mk, natD, List.range_zero])) ?_
  rintro ⟨k, R, cells, ga, gf, tt⟩ ⟨hk, hR, hL⟩
  simp only at hk hR hL
  rw [LA.st_mk]
  by_cases hlt : k < m.length
  ·obtain ⟨r, hr⟩ : ∃ r, m[k]? = some r := ⟨_, List.getElem?_eq_getElem hlt⟩
   have hrl := hw r (List.mem_of_getElem? hr)
   have hlc : cells.length = k := by simpa using hL.lc
   ((refine wqb (F := _∧_) ⟨@Int.ofNat_lt, hlt⟩ ?_))
   refine wia ?_
   refine wsa ?_
   repeat refine Y00 ?_
   refine Y02 ?_
   ((refine wqb (F := _∧_) ⟨hlt, hr⟩ ?_))
   ((repeat refine Y00 ?_); (refine Y0d tab_ok Y06 1 fun KR hKR => ?_); simp only [List.replicate_succ, List.replicate_zero, List.append_nil, List.nil_append, List.cons_append, List.length_cons, List.length_nil, Nat.reduceAdd])
   refine wda ?_
   ((first | refine Y14 fun KK hKK => ?_ | refine Y15 rfl fun KK hKK => ?_); simp (disch := omega) only [bb, bt, zDs, zD, Y01, simprocAttr, Y2a, Y0t, Y3y, Y0m, ufa, uf]; refine PGive.fresh (R.length + 1 + 1 + 1 + 1 + 1) (Y7z r (by omega)) ?_ ?_; (focus (first | omega | (simp (disch := omega) only [List.length_cons, List.length_nil, List.length_append]; done) | (simp (disch := omega) only [List.length_cons, List.length_nil, List.length_append]; omega))); simp (disch := omega) only [bb, bt, zDs, zD, Y01, simprocAttr, Y1d]; refine hKK _ _ _ ?_; clear hKK KK)
   refine wda ?_
   ((refine Y0k ?_); simp only [List.reverse_cons, List.reverse_nil, List.nil_append, List.cons_append]; (refine hKR _ _ (by rw [hR]; rcases (show k = 0 ∨ k = 1 ∨ k = 2 ∨ k = 3 ∨ k = 4 ∨ k = 5 by omega) with rfl | rfl | rfl | rfl | rfl | rfl <;> kernel_rfl) ?_); (try clear hKR KR); (refine qq1 ?_))
   refine wqb @List.length_range ?_
   refine wqa ?_
   refine ⟨⟨k + 1, R ++ [some ⟨3, tt + 1, r.map int⟩], cells ++ [D.own 1 (R.length + 1 + 1 + 1 + 1 + 1) (tt + 1) 0 r.length], tt + 1, tt + 1 + 1, tt + 1 + 1⟩, ⟨hlt, ?_, ?_⟩, by show m.length - (k + 1) < m.length - k; omega, ?_⟩
   rotate_left 2
   ·rw [LA.st_mk]
    (simp (disch := omega) only [StLe, tmLe, Y0b, hpLe, bl, bb, bt, zDs, zD, Y01, simprocAttr, natD, List.range_succ, List.map_append])
   ·simp [hR]
   ·rw [show m.take (k + 1) = m.take k ++ [r] by rw [List.take_add_one, hr]; rfl]
    exact hL.push hR
  ·have hke : k = m.length := by omega
   subst hke
   refine wqb @Int.lt_irrefl ?_
   refine wia ?_
   refine wxa ?_
   refine ⟨⟨m.length, R, cells, ga, gf, tt⟩, ⟨rfl, hR, by simpa using hL⟩, ?_⟩
   rw [LA.st_mk]
   exact ele
 ·rintro ⟨k, R, cells, ga, gf, tt⟩ ⟨hk, hR, hL⟩
  simp only at hk hR hL
  subst hk
  rw [LA.st_mk]
  refine wqa ?_
  refine Y0i (LB.st n t) (fun x => x.f = elim m n ∧ Lay x.f.rows x.f.fr x.cells x.R) ?_ ?_
  ·refine Y02 ?_
   refine Y05 (LB.st n t) (fun x => n - x.c) (fun x => x.c ≤ n ∧ x.f = elim m x.c ∧ x.R.length = m.length ∧ Lay x.f.rows x.f.fr x.cells x.R) ⟨0, Lin.start m, R, cells, ga, t + 1 + 1 + 1 + 1, gf, tt⟩ ⟨Nat.zero_le _, rfl, hR, hL⟩ (by rw [LB.st_mk, LB.hp_mk]; (simp (disch := omega) only [StLe, tmLe, Y0b, hpLe, bl, bb, bt, zDs, zD, Y01, simprocAttr, Lin.start, List.length_range])) ?_
   rintro ⟨c, f, R, cells, ga, gp, gf, tt⟩ ⟨hc, hf', hR, hL⟩
   simp only at hc hf' hR hL
   rw [LB.st_mk, LB.hp_mk]
   by_cases hlt : c < n
   ·obtain ⟨q1, q2, q3, q4, q5⟩ := hf c hlt
    rw [← hf'] at q1 q2 q3 q4 q5
    ((refine wqb (F := _∧_) ⟨@Int.ofNat_lt, hlt⟩ ?_))
    refine wia ?_
    refine wsa ?_
    repeat refine Y00 ?_
    refine Y02 ?_
    refine wqa ?_
    refine wqa ?_
    refine wqa ?_
    refine wqa ?_
    refine Y0i (fun a : Int => ⟨(8, int c) :: (9, int f.pivots.length) :: (10, int a) :: LB.tm n t c, LB.hp t ⟨c, f, R, cells, ga, gp, gf, tt⟩, tt⟩) (fun a => a = (match find c (f.rows.drop f.pivots.length) f.pivots.length with | none => -1 | some i => (i : Int))) ?_ ?_
    ·refine Y02 ?_
     refine Y05 (fun x : Nat × Int => ⟨(8, int c) :: (9, int f.pivots.length) :: (10, int x.2) :: (11, int x.1) :: LB.tm n t c, LB.hp t ⟨c, f, R, cells, ga, gp, gf, tt⟩, tt⟩) (fun x => f.rows.length + 1 - x.1) (fun x => f.pivots.length ≤ x.1 ∧ x.1 ≤ f.rows.length + 1 ∧ ((x.2 = -1 ∧ find c (f.rows.drop x.1) x.1 = find c (f.rows.drop f.pivots.length) f.pivots.length) ∨ ∃ p : Nat, x.2 = p ∧ find c (f.rows.drop f.pivots.length) f.pivots.length = some p)) (f.pivots.length, -1) ⟨Nat.le_refl _, by simp only; omega, .inl ⟨rfl, rfl⟩⟩ (by rw [LB.hp_mk]; (simp (disch := omega) only [StLe, tmLe, Y0b, hpLe, bl, bb, bt, zDs, zD, Y01, simprocAttr])) ?_
     rintro ⟨i, a⟩ ⟨hi, hi', ha⟩
     simp only at hi hi' ha
     simp only [LB.hp_mk]
     by_cases hiN : i < f.rows.length
     ·rcases ha with ⟨rfl, ha⟩ | ⟨p, rfl, ha⟩
      ·obtain ⟨r, hr⟩ : ∃ r, f.rows[i]? = some r := ⟨_, List.getElem?_eq_getElem hiN⟩
       obtain ⟨x0, hx0⟩ : ∃ x, f.fr[i]? = some x := ⟨_, List.getElem?_eq_getElem (by rw [← hL.lr]; exact hiN)⟩
       obtain ⟨g, hci, hRx⟩ := hL.at_ i x0 r hx0 hr
       ((refine wqb (F := _∧_) ⟨@Int.ofNat_lt, hiN⟩ ?_))
       refine wia ?_
       refine wsa ?_
       repeat refine Y00 ?_
       refine Y02 ?_
       have hrw : r.length = w := q1 r (List.mem_of_getElem? hr)
       obtain ⟨v, hv⟩ : ∃ v, r[c]? = some v := ⟨_, List.getElem?_eq_getElem (by omega)⟩
       ((refine wqb (F := _∧_∧_∧_∧_) ⟨@Int.ofNat_lt, hiN, hci, hRx, hv⟩ ?_))
       have hat : Lin.at_ r c = v := by simp [Lin.at_, hv]
       have hdr : f.rows.drop i = r :: f.rows.drop (i + 1) := by
        obtain ⟨h1, h2⟩ := List.getElem?_eq_some_iff.1 hr
        rw [List.drop_eq_getElem_cons h1, h2]
       rw [hdr] at ha
       simp only [find, hat] at ha
       cases hvz : (v != 0)
       ·have hv0 : v = 0 := by simpa using hvz
        refine wib hvz ?_
        refine wsa ?_
        refine wqa ?_
        refine ⟨(i + 1, -1), ⟨by omega, by simp only; omega, .inl ⟨rfl, ?_⟩⟩, by show f.rows.length + 1 - (i + 1) < f.rows.length + 1 - i; omega, ?_⟩
        ·rw [if_neg (by simp [hv0])] at ha; exact ha
        ·(try rw [LB.hp_mk]); exact ele
       ·have hv0 : v ≠ 0 := by simpa using hvz
        refine wib hvz ?_
        refine wqa ?_
        refine wqa ?_
        refine ⟨(i + 1, (i : Int)), ⟨by omega, by simp only; omega, .inr ⟨i, rfl, ?_⟩⟩, by show f.rows.length + 1 - (i + 1) < f.rows.length + 1 - i; omega, ?_⟩
        ·rw [if_pos hv0] at ha; exact ha.symm
        ·(try rw [LB.hp_mk]); exact ele
      ·have hp0 : ¬ (p : Int) < 0 := by omega
       ((refine wqb (F := _∧_∧_) ⟨@Int.ofNat_lt, hiN, hp0⟩ ?_))
       refine wia ?_
       refine wxa ?_
       exact ⟨p, by rw [ha], by (try rw [LB.hp_mk]); (simp (disch := omega) only [StLe, tmLe, Y0b, hpLe, bl, bb, bt, zDs, zD, Y01, simprocAttr])⟩
     ·((refine wqb (F := _∧_) ⟨@Int.ofNat_lt, hiN⟩ ?_))
      refine wia ?_
      refine wxa ?_
      rcases ha with ⟨rfl, ha⟩ | ⟨p, rfl, ha⟩
      ·rw [List.drop_eq_nil_of_le (by omega)] at ha
       exact ⟨-1, by rw [← ha]; rfl, by (try rw [LB.hp_mk]); (simp (disch := omega) only [StLe, tmLe, Y0b, hpLe, bl, bb, bt, zDs, zD, Y01, simprocAttr])⟩
      ·exact ⟨p, by rw [ha], by (try rw [LB.hp_mk]); (simp (disch := omega) only [StLe, tmLe, Y0b, hpLe, bl, bb, bt, zDs, zD, Y01, simprocAttr])⟩
    ·rintro a rfl
     rw [LB.hp_mk]
     cases hfd : find c (f.rows.drop f.pivots.length) f.pivots.length with
     | none =>
      simp only
      refine wqa ?_
      refine wia ?_
      refine wxa ?_
      refine wqa ?_
      refine ⟨⟨c + 1, f, R, cells, ga, gp, gf, tt⟩, ⟨hlt, ?_, hR, hL⟩, by show n - (c + 1) < n - c; omega, ?_⟩
      ·simp only [elim, ← hf', col, hfd]
      ·rw [LB.st_mk, LB.hp_mk]; exact ele
     | some i =>
      rw [hfd] at q5
      simp only at q5 ⊢
      have hi0 : ¬ (i : Int) < 0 := by omega
      refine wqb hi0 ?_
      refine wia ?_
      refine wsa ?_
      obtain ⟨hf1, hf2, -⟩ := Y7s hfd
      simp only [List.length_drop] at hf2
      repeat refine Y00 ?_
      refine Y0i (fun x : Frm × List D × Nat => ⟨(8, int c) :: (9, int f.pivots.length) :: LB.tm n t c, LB.hp t ⟨c, x.1, R, x.2.1, ga, gp, gf, tt⟩, x.2.2⟩) (fun x => x.1 = ups f.pivots.length (i - f.pivots.length) f ∧ x.1.pivots = f.pivots ∧ x.1.den = f.den ∧ x.1.rows.length = f.rows.length ∧ Lay x.1.rows x.1.fr x.2.1 R) ?_ ?_
      ·refine Y02 ?_
       refine Y05 (fun x : Nat × Frm × List D × Nat => ⟨(8, int c) :: (9, int f.pivots.length) :: (10, int ((f.pivots.length + x.1 : Nat) : Int)) :: LB.tm n t c, LB.hp t ⟨c, x.2.1, R, x.2.2.1, ga, gp, gf, tt⟩, x.2.2.2⟩) (fun x => x.1) (fun x => x.1 ≤ i - f.pivots.length ∧ ups f.pivots.length x.1 x.2.1 = ups f.pivots.length (i - f.pivots.length) f ∧ x.2.1.pivots = f.pivots ∧ x.2.1.den = f.den ∧ x.2.1.rows.length = f.rows.length ∧ Lay x.2.1.rows x.2.1.fr x.2.2.1 R) (i - f.pivots.length, f, cells, tt) ⟨Nat.le_refl _, rfl, rfl, rfl, rfl, hL⟩ (by simp only [show f.pivots.length + (i - f.pivots.length) = i by omega, LB.hp_mk]; (simp (disch := omega) only [StLe, tmLe, Y0b, hpLe, bl, bb, bt, zDs, zD, Y01, simprocAttr])) ?_
       rintro ⟨d, f1, cells1, t1⟩ ⟨hd, hu, hp1, hd1, hn1, hL1⟩
       simp only at hd hu hp1 hd1 hn1 hL1
       simp only [LB.hp_mk, hp1, hd1]
       cases d with
       | zero =>
        refine wqb @Int.lt_irrefl ?_
        refine wia ?_
        refine wxa ?_
        refine ⟨(f1, cells1, t1), ⟨hu, hp1, hd1, hn1, hL1⟩, ?_⟩
        (try simp only [LB.hp_mk, hp1, hd1]); exact ele
       | succ d =>
        have hgt : (f.pivots.length : Int) < ((f.pivots.length + (d + 1) : Nat) : Int) := by omega
        refine wqb hgt ?_
        refine wia ?_
        refine wsa ?_
        repeat refine Y00 ?_
        refine Y02 ?_
        have h1r := hL1.lr
        have h1c := hL1.lc
        obtain ⟨r1, hr1⟩ : ∃ r, f1.rows[f.pivots.length + (d + 1)]? = some r := ⟨_, List.getElem?_eq_getElem (by omega)⟩
        obtain ⟨r2, hr2⟩ : ∃ r, f1.rows[f.pivots.length + d]? = some r := ⟨_, List.getElem?_eq_getElem (by omega)⟩
        obtain ⟨x1, hx1⟩ : ∃ x, f1.fr[f.pivots.length + (d + 1)]? = some x := ⟨_, List.getElem?_eq_getElem (by omega)⟩
        obtain ⟨x2, hx2⟩ : ∃ x, f1.fr[f.pivots.length + d]? = some x := ⟨_, List.getElem?_eq_getElem (by omega)⟩
        obtain ⟨g1, hc1, hR1⟩ := hL1.at_ _ x1 r1 hx1 hr1
        obtain ⟨g2, hc2, hR2⟩ := hL1.at_ _ x2 r2 hx2 hr2
        have e1 : ((f.pivots.length + (d + 1) : Nat) : Int) - 1 = ((f.pivots.length + d : Nat) : Int) := by omega
        ((repeat refine Y00 ?_); (refine Y0d tab_ok Y06 0 fun KR hKR => ?_); simp only [List.replicate_succ, List.replicate_zero, List.append_nil, List.nil_append, List.cons_append, List.length_cons, List.length_nil, Nat.reduceAdd])
        ((refine wdb (F := _∧_∧_) ⟨e1, hc1, hc2⟩ ?_))
        ((refine Y0k ?_); simp only [List.reverse_cons, List.reverse_nil, List.nil_append, List.cons_append]; (refine hKR _ _ (by first | rfl | kernel_rfl) ?_); (try clear hKR KR); (refine qq1 ?_))
        have k1 := Yjo f1.fr _ hx1
        have k2 := Yjo f1.fr _ hx2
        ((repeat refine Y00 ?_); (refine Y0d tab_ok Y06 0 fun KR hKR => ?_); simp only [List.replicate_succ, List.replicate_zero, List.append_nil, List.nil_append, List.cons_append, List.length_cons, List.length_nil, Nat.reduceAdd])
        ((refine wdb (F := _∧_∧_) ⟨e1, k1, k2⟩ ?_))
        ((refine Y0k ?_); simp only [List.reverse_cons, List.reverse_nil, List.nil_append, List.cons_append]; (refine hKR _ _ (by first | rfl | kernel_rfl) ?_); (try clear hKR KR); (refine qq1 ?_))
        refine wqa ?_
        refine wqb e1 ?_
        rw [swp_get cells1 hc1 hc2, Ysx f1.fr hx1 hx2]
        refine ⟨(d, { f1 with rows := Lin.swp f1.rows (f.pivots.length + d + 1) (f.pivots.length + d), fr := Lin.swp f1.fr (f.pivots.length + d + 1) (f.pivots.length + d), turned := !f1.turned }, Lin.swp cells1 (f.pivots.length + d + 1) (f.pivots.length + d), t1 + 1 + 1), ⟨by omega, hu, hp1, hd1, by simp only [Y1l]; exact hn1, hL1.swp (by omega) (by omega)⟩, by show d < d + 1; omega, ?_⟩
        (try simp only [LB.hp_mk, hp1, hd1]); (simp (disch := omega) only [StLe, tmLe, Y0b, hpLe, bl, bb, bt, zDs, zD, Y01, simprocAttr, Y1l, Nat.add_assoc])
      ·rintro ⟨f1, cells1, t1⟩ ⟨hu, hp1, hd1, hn1, hL1⟩
       simp only at hu hp1 hd1 hn1 hL1 ⊢
       rw [← hu] at q5
       obtain ⟨⟨d0, dlo, dhi⟩, nums, exa⟩ := q5
       rw [hp1] at exa
       simp only [LB.hp_mk, hp1]
       have h1r := hL1.lr
       have h1c := hL1.lc
       obtain ⟨rk, hrk⟩ : ∃ r, f1.rows[f.pivots.length]? = some r := ⟨_, List.getElem?_eq_getElem (by omega)⟩
       obtain ⟨xk, hxk⟩ : ∃ x, f1.fr[f.pivots.length]? = some x := ⟨_, List.getElem?_eq_getElem (by omega)⟩
       obtain ⟨gk, hck, hRk⟩ := hL1.at_ _ xk rk hxk hrk
       have hrow : row f1.rows f.pivots.length = rk := by simp [row, hrk]
       rw [hrow] at exa
       obtain ⟨nk, nk2⟩ := nums rk (List.mem_of_getElem? hrk)
       obtain ⟨p, hp⟩ : ∃ p, rk[c]? = some p := ⟨_, List.getElem?_eq_getElem (by omega)⟩
       have hpa : Lin.at_ rk c = p := by simp [Lin.at_, hp]
       rw [hpa] at exa
       ((refine wqb (F := _∧_∧_) ⟨hck, hRk, hp⟩ ?_))
       refine wqa ?_
       refine Y0i (fun x : Hp × Nat => ⟨(8, int c) :: (9, int f.pivots.length) :: (12, int p) :: LB.tm n t c, LB.hp t ⟨c, { f1 with rows := (piv c f1).rows }, x.1, cells1, ga, gp, gf, 0⟩, x.2⟩) (fun x => x.1.length = m.length ∧ Lay (piv c f1).rows f1.fr cells1 x.1) ?_ ?_
       ·refine Y02 ?_
        refine Y05 (fun x : Nat × Hp × Nat => ⟨(8, int c) :: (9, int f.pivots.length) :: (12, int p) :: (128, .own 1 2 ga 0 f1.rows.length) :: (129, int f1.rows.length) :: (130, int x.1) :: LB.tm n t c, LB.hp t ⟨c, { f1 with rows := mixd f1 f.pivots.length c x.1 }, x.2.1, cells1, ga, gp, gf, 0⟩, x.2.2⟩) (fun x => f1.rows.length - x.1) (fun x => x.1 ≤ f1.rows.length ∧ x.2.1.length = m.length ∧ Lay (mixd f1 f.pivots.length c x.1) f1.fr cells1 x.2.1) (0, R, t1) ⟨Nat.zero_le _, hR, by rw [Yg0]; exact hL1⟩ (by simp only [LB.hp_mk, Yg0, hp1]; (simp (disch := omega) only [StLe, tmLe, Y0b, hpLe, bl, bb, bt, zDs, zD, Y01, simprocAttr])) ?_
        rintro ⟨y, R1, t2⟩ ⟨hy, hR1, hL2⟩
        simp only at hy hR1 hL2
        have hml : (mixd f1 f.pivots.length c y).length = f1.rows.length := by simp [mixd]
        simp only [LB.hp_mk, hp1, hml]
        by_cases hyN : y < f1.rows.length
        ·obtain ⟨r, hr⟩ : ∃ r, f1.rows[y]? = some r := ⟨_, List.getElem?_eq_getElem hyN⟩
         obtain ⟨x, hx⟩ : ∃ x, f1.fr[y]? = some x := ⟨_, List.getElem?_eq_getElem (by omega)⟩
         have hmy : (mixd f1 f.pivots.length c y)[y]? = some r := by rw [Y41, hr]; simp
         obtain ⟨g, hcy, hRy⟩ := hL2.at_ _ x r hx hmy
         have hxl : x < R1.length := (List.getElem?_eq_some_iff.1 hRy).1
         obtain ⟨nr, nr2⟩ := nums r (List.mem_of_getElem? hr)
         ((refine wqb (F := _∧_) ⟨@Int.ofNat_lt, hyN⟩ ?_))
         refine wia ?_
         refine wsa ?_
         repeat refine Y00 ?_
         refine Y02 ?_
         ((refine wqb (F := _∧_∧_) ⟨@Int.ofNat_lt, hyN, hcy⟩ ?_))
         by_cases hyk : y = f.pivots.length
         ·have e1 : ((y : Int) == (f.pivots.length : Int)) = true := by simp [hyk]
          refine wqb e1 ?_
          refine wia ?_
          refine wxa ?_
          refine wqa ?_
          refine ⟨(y + 1, R1, t2), ⟨hyN, hR1, by subst hyk; rw [Ypa]; exact hL2⟩, by show f1.rows.length - (y + 1) < f1.rows.length - y; omega, ?_⟩
          simp only [LB.hp_mk, hp1, show (mixd f1 f.pivots.length c (y + 1)).length = f1.rows.length by simp [mixd]]; exact ele
         ·have e1 : ((y : Int) == (f.pivots.length : Int)) = false := by simpa using fun h => hyk (by omega)
          refine wqb e1 ?_
          refine wia ?_
          refine wsa ?_
          obtain ⟨b, hb⟩ : ∃ b, r[c]? = some b := ⟨_, List.getElem?_eq_getElem (by omega)⟩
          have hba : Lin.at_ r c = b := by simp [Lin.at_, hb]
          ((refine wqb (F := _∧_) ⟨hRy, hb⟩ ?_))
          refine wqb hRy ?_
          have hset0 : R1.set x (some ⟨3, g, r.map int⟩) = R1 := by
           obtain ⟨a1, a2⟩ := List.getElem?_eq_some_iff.1 hRy
           rw [← a2]; exact List.set_getElem_self _
          have hmk : (mixd f1 f.pivots.length c y)[f.pivots.length]? = some rk := by rw [Y41, hrk]; simp
          obtain ⟨gk2, hck2, hRk2⟩ := hL2.at_ _ xk rk hxk hmk
          rw [hck] at hck2
          have hgk : gk2 = gk := by injection hck2 with h; injection h with _ _ h; exact h.symm
          subst hgk
          have hxne : x ≠ xk := fun e => by
           subst e
           obtain ⟨a1, a2⟩ := List.getElem?_eq_some_iff.1 hx
           obtain ⟨b1, b2⟩ := List.getElem?_eq_some_iff.1 hxk
           have hpw := List.pairwise_iff_getElem.1 hL1.nd
           rcases Nat.lt_or_gt_of_ne hyk with hlt' | hlt'
           ·exact hpw y _ a1 b1 hlt' (a2.trans b2.symm)
           ·exact hpw _ y b1 a1 hlt' (b2.trans a2.symm)
          have hrowy : row f1.rows y = r := by simp [row, hr]
          let q := Y2x p b f1.den rk r
          have hql : q.length = w := by simp only [q, Y2x, List.length_zipWith, nr, nk, Nat.min_self]
          let cur : Nat → List Int := fun j => q.take j ++ r.drop j
          have hcl : ∀ j, j ≤ w → (cur j).length = w := fun j hj => by simp only [cur, List.length_append, List.length_take, List.length_drop, hql, nr]; omega
          refine Y02 ?_
          refine Y05 (fun z : Nat × Nat => ⟨(8, int c) :: (9, int f.pivots.length) :: (12, int p) :: (14, .own 1 (x + 5) g 0 r.length) :: (15, int b) :: (143, int r.length) :: (144, int z.1) :: (128, .own 1 2 ga 0 f1.rows.length) :: (129, int f1.rows.length) :: (130, int y) :: LB.tm n t c, LB.hp t ⟨c, { f1 with rows := mixd f1 f.pivots.length c y }, R1.set x (some ⟨3, g, (cur z.1).map int⟩), cells1, ga, gp, gf, 0⟩, z.2⟩) (fun z => w - z.1) (fun z => z.1 ≤ w) (0, t2) (Nat.zero_le _) (by simp only [LB.hp_mk, hp1, hml, cur, List.take_zero, List.drop_zero, List.nil_append, hset0]; (simp (disch := omega) only [StLe, tmLe, Y0b, hpLe, bl, bb, bt, zDs, zD, Y01, simprocAttr])) ?_
          rintro ⟨j, t3⟩ hj
          simp only at hj
          simp only [LB.hp_mk, hp1, hml, nr]
          by_cases hjw : j < w
          ·((refine wqb (F := _∧_) ⟨@Int.ofNat_lt, hjw⟩ ?_))
           refine wia ?_
           refine wsa ?_
           repeat refine Y00 ?_
           refine Y02 ?_
           refine wqa ?_
           obtain ⟨a, ha⟩ : ∃ a, r[j]? = some a := ⟨_, List.getElem?_eq_getElem (by omega)⟩
           obtain ⟨d, hd⟩ : ∃ d, rk[j]? = some d := ⟨_, List.getElem?_eq_getElem (by omega)⟩
           have haa : Lin.at_ r j = a := by simp [Lin.at_, ha]
           have hda : Lin.at_ rk j = d := by simp [Lin.at_, hd]
           have hcj : (cur j)[j]? = some a := by
            simp only [cur]
            rw [List.getElem?_append_right (by simp; omega), List.length_take, hql, Nat.min_eq_left (by omega), Nat.sub_self, List.getElem?_drop]; exact ha
           have hRs : (R1.set x (some ⟨3, g, (cur j).map int⟩))[x]? = some (some ⟨3, g, (cur j).map int⟩) := by rw [List.getElem?_set_self hxl]
           have hRks : (R1.set x (some ⟨3, g, (cur j).map int⟩))[xk]? = some (some ⟨3, gk2, rk.map int⟩) := by rw [List.getElem?_set_ne hxne]; exact hRk2
           obtain ⟨qj, hq1, hq2, hq3⟩ := exa y j hyN hyk (by omega)
           rw [hrowy, hba, haa, hda] at hq1
           have hqj : q[j]? = some qj := by
            have h1 : (Y2x p b f1.den rk r)[j]? = some ((a * p - b * d) / f1.den) := by
             unfold Y2x
             rw [List.getElem?_zipWith, ha, hd]
            show (Y2x p b f1.den rk r)[j]? = _
            rw [h1, hq1, Int.mul_ediv_cancel _ d0]
           have hcl2 := hcl j hj
           ((repeat refine Y00 ?_); (refine Y0d tab_ok Y06 0 fun KR hKR => ?_); simp only [List.replicate_succ, List.replicate_zero, List.append_nil, List.nil_append, List.cons_append, List.length_cons, List.length_nil, Nat.reduceAdd])
           ((refine wdb (F := _∧_∧_∧_∧_) ⟨hRs, hRks, hcj, hd, hck⟩ ?_))
           ((first | refine Y14 fun KK hKK => ?_ | refine Y15 rfl fun KK hKK => ?_); simp (disch := omega) only [bb, bt, zDs, zD, Y01, simprocAttr, Y2a, Y0t, Y3y, Y0m, ufa, uf]; refine PGive.ret (step a p b d f1.den (nr2 a (List.mem_of_getElem? ha)) (nk2 p (List.mem_of_getElem? hp)) (nr2 b (List.mem_of_getElem? hb)) (nk2 d (List.mem_of_getElem? hd)) ⟨dlo, dhi⟩ d0 qj hq1 ⟨hq2, hq3⟩) ?_; simp (disch := omega) only [bb, bt, zDs, zD, Y01, simprocAttr, Y1d]; refine hKK _ _ _ ?_; clear hKK KK)
           ((refine wdb (F := _∧_∧_) ⟨hRs, hcl2, hjw⟩ ?_))
           have hcs : ((cur j).map int).set j (int qj) = (cur (j + 1)).map int := by
            rw [← List.map_set]
            congr 1
            simp only [cur]
            rw [List.take_add_one, hqj, show r.drop j = a :: r.drop (j + 1) by obtain ⟨a1, a2⟩ := List.getElem?_eq_some_iff.1 ha; rw [List.drop_eq_getElem_cons a1, a2]]
            rw [List.set_append_right _ _ (by simp; omega), List.length_take, hql, Nat.min_eq_left (by omega), Nat.sub_self]
            simp
           ((refine Y0k ?_); simp only [List.reverse_cons, List.reverse_nil, List.nil_append, List.cons_append]; (refine hKR _ _ (by exact Y9o (Yr0 5) (by kernel_rfl)) ?_); (try clear hKR KR); (refine qq1 ?_))
           rw [List.set_set, hcs]
           refine wqa ?_
           refine ⟨(j + 1, t3 + 1), (by show j + 1 ≤ w; omega), by show w - (j + 1) < w - j; omega, ?_⟩
           simp only [LB.hp_mk, hp1, hml, nr]; exact ele
          ·have hjw' : j = w := by omega
           subst hjw'
           have hcw : cur j = q := by simp only [cur]; rw [List.take_of_length_le (by omega), List.drop_eq_nil_of_le (by omega), List.append_nil]
           rw [hcw]
           refine wqb @Int.lt_irrefl ?_
           refine wia ?_
           refine wxa ?_
           refine wqa ?_
           refine ⟨(y + 1, R1.set x (some ⟨3, g, q.map int⟩), t3), ⟨hyN, by simp [hR1], ?_⟩, by show f1.rows.length - (y + 1) < f1.rows.length - y; omega, ?_⟩
           ·rw [Yp9 f1 f.pivots.length c y hyk hr, hrow, hpa, hba]
            exact hL2.set hx hmy hRy (by rw [hql, nr])
           ·simp only [LB.hp_mk, hp1, show (mixd f1 f.pivots.length c (y + 1)).length = f1.rows.length by simp [mixd]]; exact ele
        ·have hyN' : y = f1.rows.length := by omega
         subst hyN'
         refine wqb @Int.lt_irrefl ?_
         refine wia ?_
         refine wxa ?_
         have hme := Yt0 f1 c
         rw [hp1] at hme
         refine ⟨(R1, t2), ⟨hR1, by rw [← hme]; exact hL2⟩, ?_⟩
         simp only [LB.hp_mk, hp1, show (piv c f1).rows.length = f1.rows.length by simp [piv]]; exact ele
       ·rintro ⟨R1, t2⟩ ⟨hR1, hL2⟩
        simp only at hR1 hL2
        simp only [LB.hp_mk, hp1]
        refine wqa ?_
        refine wqa ?_
        refine wqa ?_
        refine ⟨⟨c + 1, piv c f1, R1, cells1, ga, t2 + 1, gf, t2 + 1⟩, ⟨hlt, ?_, hR1, ?_⟩, by show n - (c + 1) < n - c; omega, ?_⟩
        ·simp only [elim, ← hf', col, hfd, ← hu]
        ·exact hL2
        ·rw [LB.st_mk, LB.hp_mk]
         simp only [piv, hp1, hrow, hpa, natD, List.map_append, List.length_append]
         exact ele
   ·((refine wqb (F := _∧_) ⟨@Int.ofNat_lt, hlt⟩ ?_))
    refine wia ?_
    refine wxa ?_
    have hcn : c = n := by omega
    subst hcn
    refine ⟨⟨c, f, R, cells, ga, gp, gf, tt⟩, ⟨hf', hL⟩, ?_⟩
    rw [LB.st_mk, LB.hp_mk]; exact ele
  ·rintro ⟨c, f, R, cells, ga, gp, gf, tt⟩ ⟨hf', hL⟩
   simp only at hf' hL
   rw [LB.st_mk, LB.hp_mk]
   have h1 := hL.lr
   have h2 := hL.lc
   refine wqa ?_
   ((repeat refine Y00 ?_); (refine wta ?_); simp (disch := omega) only [retQ, resD, oneD, bb, bt, zDs, zD, Y01, simprocAttr, Tryz.results107])
   have hnat : ∀ (H : Hp) (l : List Nat), (natD l).map (rsv H 2) = natD l := fun H l => by
    induction l with
    | nil => rfl
    | cons x l ih => simp only [natD, List.map_cons] at ih ⊢; rw [ih]; rfl
   show rs (rsv _ 2) _ _ = _
   simp only [rs, rsL, List.getElem?_cons_zero, List.getElem?_cons_succ, List.length_map, List.drop_zero, Nat.zero_add, Nat.mul_one, h1, h2, Nat.le_refl, and_self, if_true]
   rw [List.take_of_length_le (by omega), List.take_of_length_le (by simp), List.take_of_length_le (by simp), hL.read _ _ _ _ _ 0, hnat, hnat]
   subst hf'
   rfl
end Go.Proofs.YtpbpafmgkdihlaaGreatDoor.T
