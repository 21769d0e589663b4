import Derived.Test.YtpbpafmgkdihlaaGreatDoorQTB
import Derived.Test.YtpbpafmgkdihlaaGreatDoorQWJK
import Derived.Test.YtpbpafmgkdihlaaGreatDoorQWH
import Derived.Test.YtpbpafmgkdihlaaGreatDoorQMinJ
set_option linter.all false
namespace Go.Proofs.YtpbpafmgkdihlaaGreatDoor.T
open Go Go.RowKit Lin
theorem Y58 {n d : Int} (hn : -1152921504606846976 ≤ n ∧ n ≤ 1152921504606846976) (hd : -1152921504606846976 ≤ d ∧ d ≤ 1152921504606846976) (hd0 : d ≠ 0) : (Y1b n d).2 = 0 := by
 unfold Y1b Y2l
 rw [if_neg hd0]
 have l1 := Nat.div_le_self n.natAbs (Nat.gcd n.natAbs d.natAbs)
 have l2 := Nat.div_le_self d.natAbs (Nat.gcd n.natAbs d.natAbs)
 rw [if_neg (by omega)]
theorem Yiz (R : D → D) (m : Nat) (H2 : Hp) (l : List Int) : zzL R m H2 (l.map int) = l.map int := by
 induction l with
 | nil => simp [zzL]
 | cons x l ih => simp only [List.map_cons, zzL, zz, ih]
theorem Yvp (R : D → D) (m : Nat) (H2 : Hp) (l : List (List Int)) : zzL R m H2 (l.map ints) = l.map ints := by
 induction l with
 | nil => simp [zzL]
 | cons x l ih => simp only [List.map_cons, zzL, zz, Yiz, ih]
theorem Yut (m : Nat) (H2 : Hp) (k : Nat) (l : List (List Int)) : zv m H2 k (mat l) = mat l := by cases k <;> simp only [zv, zz, Yvp]
theorem Yrs (m : Nat) (H2 : Hp) (k : Nat) (l : List Int) : zv m H2 k (ints l) = ints l := by cases k <;> simp only [zv, zz, Yiz]
theorem Y48 {m : List (List Int)} {right : List Int} (hv : Y1c m = true) (hr : right.length = m.length) (hw : Y0u right 67108864 = true) : Small (Y10 m right) (wid m + 1) (wid m) := by
 obtain ⟨h1, h2, h3⟩ := Y0v.1 hv
 have hb := Y8r hw
 have mem : ∀ r ∈ Y10 m right, ∃ s ∈ m, ∃ v ∈ right, r = s ++ [v] := fun r hr' => by
  obtain ⟨i, hi⟩ := List.mem_iff_getElem?.1 hr'
  have hil : i < m.length := by have := (List.getElem?_eq_some_iff.1 hi).1; simpa [Y10] using this
  have hir : i < right.length := by omega
  simp only [Y10, List.getElem?_mapIdx, List.getElem?_eq_getElem hil, Option.map_some, List.getElem?_eq_getElem hir, Option.toList_some, Option.some.injEq] at hi
  exact ⟨m[i], List.getElem_mem hil, right[i], List.getElem_mem hir, hi.symm⟩
 refine ⟨by simp [Y10]; omega, fun r hr' => ?_, by omega, fun r hr' j hj => ?_, fun r hr' j => ?_⟩
 ·obtain ⟨s, hs, v, _, rfl⟩ := mem r hr'
  simp [(h3 s hs).1]
 ·obtain ⟨s, hs, v, _, rfl⟩ := mem r hr'
  have : Lin.at_ (s ++ [v]) j = Lin.at_ s j := by
   unfold Lin.at_
   rw [List.getElem?_append_left (by rw [(h3 s hs).1]; exact hj)]
  rw [this]
  exact Y82 (by decide) (h3 s hs).2 j
 ·obtain ⟨s, hs, v, hv', rfl⟩ := mem r hr'
  refine Y82 (by decide) (fun x hx => ?_) j
  rcases List.mem_append.1 hx with h | h
  ·have := (h3 s hs).2 x h; omega
  ·simp only [List.mem_singleton] at h; subst h; exact hb x hv'
def solF (f : Frm) (n : Nat) : List (Int × Int) × Int :=
 if (f.rows.drop f.pivots.length).any (fun r => Lin.at_ r n != 0) then ([], 22) else if f.pivots.length < n then ([], 21) else ((List.range n).map fun k => (Y1b (Lin.at_ (Lin.row f.rows k) n) f.den).1, 0)
def Y1m (m : List (List Int)) (right : List Int) : List (Int × Int) × Int :=
 if Y1c m = true then (if right.length = m.length then (if Y0u right 67108864 = true then solF (elim (Y10 m right) (wid m)) (wid m) else ([], 2)) else ([], 3)) else ([], 1)
abbrev fse (x : List (Int × Int) × Int) : D := .tup [frs x.1, int x.2]
structure SB where
 k : Nat
 R : Hp
 cells : List D
 ga : Nat
 t : Nat
def SB.st (m : List (List Int)) (right : List Int) (n : Nat) (x : SB) : St := ⟨[(0, mat m), (1, ints right), (6, int n), (7, .own 1 0 x.ga 0 x.k), (35, mat m), (36, int m.length), (37, int x.k)], some ⟨59, x.ga, x.cells⟩ :: x.R, x.t⟩
theorem SB.st_mk (m : List (List Int)) (right : List Int) (n k : Nat) (R : Hp) (cells : List D) (ga t : Nat) : SB.st m right n ⟨k, R, cells, ga, t⟩ = ⟨[(0, mat m), (1, ints right), (6, int n), (7, .own 1 0 ga 0 k), (35, mat m), (36, int m.length), (37, int k)], some ⟨59, ga, cells⟩ :: R, t⟩ := rfl
structure SolR (X : List (Int × Int) × Int) (d : D) (H' : Hp) : Prop where
 val : rsv H' 3 d = fse X
 own : X.2 = 0 → ∃ b g, d = .tup [.own 2 b g 0 X.1.length, int 0] ∧ H'[b]? = some (some ⟨33, g, frC X.1⟩)
set_option maxHeartbeats 2000000 in
theorem Yns (m : List (List Int)) (right : List Int) (hm : m.length ≤ 1000000) (hl : ∀ r ∈ m, r.length ≤ 1000000) (hrl : right.length ≤ 1000000) (t : Nat) : ACall Tryz.prog 76 [mat m, ints right] [] t (fun d H' _ => SolR (Y1m m right) d H') := by
 refine ACall.enter tab_ok Tryz.func76 rfl rfl Tryz.ntmps76 (by simp) ?_
 simp only [Y04]
 unfold Y1m
 refine wqa ?_
 repeat refine Y00 ?_
 refine Y02 ?_
 ((repeat refine Y00 ?_); (refine Y03 tab_ok fun KR hKR => ?_)); ((refine wra ?_))
 ((refine wka1 (Yyf m hm hl) ?_))
 ((refine wra ?_)); ((refine wea ?_); (try clear hKR KR))
 cases hv : Y1c m
 ·refine wib hv ?_
  refine wqa ?_
  ((repeat refine Y00 ?_); (refine wta ?_); simp (disch := omega) only [retQ, resD, oneD, bb, bt, zDs, zD, Y01, simprocAttr, Tryz.results76])
  exact ⟨rfl, fun h => by simp at h⟩
 refine wib hv ?_
 obtain ⟨h1, h2, h3⟩ := Y0v.1 hv
 by_cases hr : right.length = m.length
 rotate_left 1
 ·have e1 : ((right.length : Int) != (m.length : Int)) = true := by simpa using fun h => hr (by omega)
  refine wqb e1 ?_
  refine wia ?_
  refine wqa ?_
  ((repeat refine Y00 ?_); (refine wta ?_); simp (disch := omega) only [retQ, resD, oneD, bb, bt, zDs, zD, Y01, simprocAttr, Tryz.results76, hr])
  exact ⟨by first | rfl | (simp only [hr]; rfl), fun h => by simp [hr] at h⟩
 have e1 : ((right.length : Int) != (m.length : Int)) = false := by simp [hr]
 refine wqb e1 ?_
 refine wia ?_
 ((repeat refine Y00 ?_); (refine Y03 tab_ok fun KR hKR => ?_)); ((refine wra ?_))
 ((refine wka1 (Yuw right 67108864 (by omega) hrl) ?_))
 ((refine wra ?_)); ((refine wea ?_); (try clear hKR KR))
 cases hw : Y0u right 67108864
 ·refine wib hw ?_
  refine wqa ?_
  ((repeat refine Y00 ?_); (refine wta ?_); simp (disch := omega) only [retQ, resD, oneD, bb, bt, zDs, zD, Y01, simprocAttr, Tryz.results76, hr])
  exact ⟨by first | rfl | (simp only [hr]; rfl), fun h => by simp [hr] at h⟩
 refine wib hw ?_
 refine wsa ?_
 rw [if_pos rfl, if_pos hr, if_pos rfl]
 obtain ⟨r0, m', hm0⟩ : ∃ r0 m', m = r0 :: m' := by
  cases m with
  | nil => simp at h1
  | cons a b => exact ⟨a, b, rfl⟩
 have hwd : wid m = r0.length := by rw [hm0]; rfl
 have hat0 : m[0]? = some r0 := by rw [hm0]; rfl
 have hpos : 0 < m.length := by omega
 ((refine wqb (F := _∧_∧_) ⟨hat0, hpos, (hwd).symm⟩ ?_))
 refine wqa ?_
 refine AW.begin 7 1 59 rfl (by omega) ?_
 (simp (disch := omega) only [bb, bt, zDs, zD, Y01, simprocAttr])
 refine wqa ?_
 have hsm := Y48 hv hr hw
 have hn12 : wid m ≤ 12 := h2.2
 repeat refine Y00 ?_
 refine Y0i (fun x : List D × Hp × Nat × Nat => ⟨[(0, mat m), (6, int (wid m)), (7, .own 1 0 x.2.2.1 0 m.length)], some ⟨59, x.2.2.1, x.1⟩ :: x.2.1, x.2.2.2⟩) (fun x => LayO 1 (Y10 m right) (List.range m.length) x.1 x.2.1) ?_ ?_
 ·refine Y02 ?_
  refine Y05 (SB.st m right (wid m)) (fun x => m.length - x.k) (fun x => x.k ≤ m.length ∧ x.R.length = x.k ∧ LayO 1 ((Y10 m right).take x.k) (List.range x.k) x.cells x.R) ⟨0, [], [], t + 1, t + 1⟩ ⟨Nat.zero_le _, rfl, .nil _ _⟩ (by (simp (disch := omega) only [StLe, tmLe, Y0b, hpLe, bl, bb, bt, zDs, zD, Y01, simprocAttr, SB.st_mk])) ?_
  rintro ⟨k, R, cells, ga, tt⟩ ⟨hk, hR, hL⟩
  simp only at hk hR hL
  rw [SB.st_mk]
  by_cases hlt : k < m.length
  ·obtain ⟨r, hr1⟩ : ∃ r, m[k]? = some r := ⟨_, List.getElem?_eq_getElem hlt⟩
   obtain ⟨v, hv1⟩ : ∃ v, right[k]? = some v := ⟨_, List.getElem?_eq_getElem (by omega)⟩
   have hrl2 := (h3 r (List.mem_of_getElem? hr1)).1
   have hlc : cells.length = k := by simpa using hL.lc
   have hkr : k < right.length := by omega
   have hget : ∀ B : Blk, (R ++ [some B])[R.length]? = some (some B) := fun B => by rw [List.getElem?_append_right (by simp)]; simp
   have hset : ∀ B B' : Option Blk, (R ++ [B]).set R.length B' = R ++ [B'] := fun B B' => by rw [List.set_append_right _ _ (by simp)]; simp
   ((refine wqb (F := _∧_) ⟨@Int.ofNat_lt, hlt⟩ ?_))
   refine wia ?_
   refine wsa ?_
   repeat refine Y00 ?_
   refine Y02 ?_
   ((refine wqb (F := _∧_) ⟨hlt, hr1⟩ ?_))
   ((repeat refine Y00 ?_); (refine Ymu tab_ok Y06 1 fun KR hKR => ?_); simp only [List.replicate_succ, List.replicate_zero, List.append_nil, List.nil_append, List.cons_append, List.length_cons, List.length_nil, Nat.reduceAdd])
   ((refine wdb (F := _∧_) ⟨hlt, hr1⟩ ?_))
   ((first | refine Y14 fun KK hKK => ?_ | refine Y15 rfl fun KK hKK => ?_); simp (disch := omega) only [bb, bt, zDs, zD, Y01, simprocAttr, Y2a, Y0t, Y3y, Y0m, ufa, uf]; refine PGive.fresh (R.length + 1) (Y7z r (by omega)) ?_ ?_; (focus (first | omega | (simp (disch := omega) only [List.length_cons, List.length_nil, List.length_append]; done) | (simp (disch := omega) only [List.length_cons, List.length_nil, List.length_append]; omega))); simp (disch := omega) only [bb, bt, zDs, zD, Y01, simprocAttr, Y1d]; refine hKK _ _ _ ?_; clear hKK KK)
   ((refine wdb (F := _∧_∧_∧_∧_) ⟨hkr, hv1, hget, hset, hlc⟩ ?_))
   ((refine Y0k ?_); simp only [List.reverse_cons, List.reverse_nil, List.nil_append, List.cons_append]; (refine hKR _ _ (by exact Y9o (Yr0 1) (by kernel_rfl)) ?_); (try clear hKR KR); (refine qq1 ?_))
   refine wqa ?_
   refine ⟨⟨k + 1, R ++ [some ⟨3, tt + 1 + 8, (r ++ [v]).map int⟩], cells ++ [D.own 1 (k + 1) (tt + 1 + 8) 0 (r ++ [v]).length], tt + 1 + 10, tt + 1 + 12⟩, ⟨hlt, by simp [hR], ?_⟩, by show m.length - (k + 1) < m.length - k; omega, ?_⟩
   ·have hct : (Y10 m right).take (k + 1) = (Y10 m right).take k ++ [r ++ [v]] := by rw [Ym8 m right k hr1, hv1]; rfl
    rw [hct]
    exact hL.push hR
   ·rw [SB.st_mk]
    (simp (disch := omega) only [StLe, tmLe, Y0b, hpLe, bl, bb, bt, zDs, zD, Y01, simprocAttr, List.map_append, hR])
  ·have hke : k = m.length := by omega
   subst hke
   refine wqb @Int.lt_irrefl ?_
   refine wia ?_
   refine wxa ?_
   refine ⟨(cells, R, ga, tt), ?_, ele⟩
   rw [List.take_of_length_le (by simp [Y10])] at hL
   exact hL
 ·rintro ⟨cells, R, ga, tt⟩ hL
  simp only at hL ⊢
  have hlc : cells.length = m.length := by simpa using hL.lc
  refine AW.tail 2 [] (some ⟨59, ga, cells⟩ :: R) rfl ?_
  have hval := hL.value (m := 0) (H2 := some ⟨59, ga, cells⟩ :: R) (by omega) (fun x hx => by simp) 0
  have hz : zT ([] : Hp).length (some ⟨59, ga, cells⟩ :: R) 2 [(0, mat m), (6, int (wid m)), (7, .own 1 0 ga 0 m.length)] = [(0, mat m), (6, int (wid m)), (7, mat (Y10 m right))] := by
   simp only [zT, List.map_cons, List.map_nil, Yut, zv_v, List.length_nil]
   simp only [zv, zz, Nat.lt_irrefl, if_false, Nat.sub_self, List.getElem?_cons_zero, Nat.zero_add, Nat.mul_one, hlc, Nat.le_refl, and_self, if_true, List.drop_zero]
   rw [List.take_of_length_le (by omega)]
   congr 3
   exact congrArg (fun l => ((7 : Nat), D.sl 1 l false)) hval
  rw [hz]
  show AW _ _ _ _ ⟨_, [], tt⟩
  have hc := Yzw (Y10 m right) hsm (by omega)
  have hinv := Y42 (Y3p (Y10 m right) (wid m + 1)) hsm.lens (wid m) (by omega)
  rw [← Y5a] at hinv
  generalize elim (Y10 m right) (wid m) = f at *
  have hcl : (Y10 m right).length = m.length := by simp [Y10]
  have hfr := hinv.nr
  have hfk := hinv.k_le
  rw [hcl] at hfr hfk
  have hfl := hinv.lens
  have hden := hinv.den_small hsm (Nat.le_refl _)
  ((repeat refine Y00 ?_); (refine Y03 tab_ok fun KR hKR => ?_)); ((refine wra ?_))
  refine wka1 hc ?_
  ((repeat ((first | refine Y19 rfl fun KK hKK => ?_ | refine Y1a rfl rfl fun KK hKK => ?_ | refine Y08 rfl fun KK hKK => ?_); simp (disch := omega) only [bb, bt, zDs, zD, Y01, simprocAttr, Ytr]; refine hKK _ ?_; clear hKK KK))); ((refine wea ?_); (try clear hKR KR))
  have hkr : f.pivots.length ≤ f.rows.length := by omega
  ((repeat refine Y00 ?_); (refine Y03 tab_ok fun KR hKR => ?_); (repeat ((first | refine Y19 rfl fun KK hKK => ?_ | refine Y1a rfl rfl fun KK hKK => ?_ | refine Y08 rfl fun KK hKK => ?_); simp (disch := omega) only [bb, bt, zDs, zD, Y01, simprocAttr, List.length_map, hkr, ← List.map_drop]; refine hKK _ ?_; clear hKK KK)); (refine Y0o ?_); (refine hKR _ ?_); (try clear hKR KR); (refine qq1 ?_))
  generalize hLd : f.rows.drop f.pivots.length = L at *
  have hLb : L.length ≤ 6 := by rw [← hLd]; simp; omega
  have hLl : ∀ r ∈ L, r.length = wid m + 1 := fun r hr => hfl r (by rw [← hLd] at hr; exact List.mem_of_mem_drop hr)
  unfold solF
  rw [hLd]
  repeat refine Y00 ?_
  refine Y0i (fun x : Nat => ⟨[(6, int (wid m)), (10, .ptr 0 (tt + 1) 0)], [some ⟨166, tt + 1, [mat f.rows, int f.den, .sl 1 (natD f.pivots) false, .sl 1 (natD f.fr) false, bool f.turned]⟩], x⟩) (fun _ => (L.any fun r => Lin.at_ r (wid m) != 0) = false) ?_ ?_
  ·refine Y02 ?_
   refine Y05 (fun x : Nat × Nat => ⟨[(6, int (wid m)), (10, .ptr 0 (tt + 1) 0), (62, mat L), (63, int L.length), (64, int x.1)], [some ⟨166, tt + 1, [mat f.rows, int f.den, .sl 1 (natD f.pivots) false, .sl 1 (natD f.fr) false, bool f.turned]⟩], x.2⟩) (fun x => L.length - x.1) (fun x => x.1 ≤ L.length ∧ (L.any fun r => Lin.at_ r (wid m) != 0) = ((L.drop x.1).any fun r => Lin.at_ r (wid m) != 0)) (0, tt + 1) ⟨Nat.zero_le _, rfl⟩ ele ?_
   rintro ⟨y, t2⟩ ⟨hy, ha⟩
   simp only at hy ha
   by_cases hlt : y < L.length
   ·obtain ⟨r, hr2⟩ : ∃ r, L[y]? = some r := ⟨_, List.getElem?_eq_getElem hlt⟩
    have hrn := hLl r (List.mem_of_getElem? hr2)
    obtain ⟨v, hv2⟩ : ∃ v, r[wid m]? = some v := ⟨_, List.getElem?_eq_getElem (by omega)⟩
    have hat : Lin.at_ r (wid m) = v := by simp [Lin.at_, hv2]
    have hdr : L.drop y = r :: L.drop (y + 1) := by
     obtain ⟨a1, a2⟩ := List.getElem?_eq_some_iff.1 hr2
     rw [List.drop_eq_getElem_cons a1, a2]
    rw [hdr, List.any_cons, hat] at ha
    ((refine wqb (F := _∧_) ⟨@Int.ofNat_lt, hlt⟩ ?_))
    refine wia ?_
    refine wsa ?_
    repeat refine Y00 ?_
    refine Y02 ?_
    ((refine wqb (F := _∧_) ⟨hlt, hr2⟩ ?_))
    cases hvz : (v != 0)
    ·((refine wqb (F := _∧_∧_) ⟨hrn, hv2, hvz⟩ ?_))
     refine wia ?_
     refine wsa ?_
     refine wqa ?_
     refine ⟨(y + 1, t2), ⟨hlt, by rw [ha, hvz, Bool.false_or]⟩, by show L.length - (y + 1) < L.length - y; omega, ?_⟩
     exact ele
    ·((refine wqb (F := _∧_∧_) ⟨hrn, hv2, hvz⟩ ?_))
     refine wia ?_
     refine wqa ?_
     ((repeat refine Y00 ?_); (refine wta ?_); simp (disch := omega) only [retQ, resD, oneD, bb, bt, zDs, zD, Y01, simprocAttr, Tryz.results76])
     rw [ha, hvz]
     exact ⟨rfl, fun h => by simp at h⟩
   ·((refine wqb (F := _∧_) ⟨@Int.ofNat_lt, hlt⟩ ?_))
    refine wia ?_
    refine wxa ?_
    exact ⟨t2, by rw [ha, List.drop_eq_nil_of_le (by omega)]; rfl, ele⟩
  ·rintro t2 hany
   rw [hany]
   simp only [Bool.false_eq_true, if_false]
   by_cases hlt : f.pivots.length < wid m
   ·have hlt' : (f.pivots.length : Int) < wid m := by omega
    refine wqb hlt' ?_
    refine wia ?_
    refine wqa ?_
    ((repeat refine Y00 ?_); (refine wta ?_); simp (disch := omega) only [retQ, resD, oneD, bb, bt, zDs, zD, Y01, simprocAttr, Tryz.results76, hlt])
    exact ⟨by first | rfl | (rw [if_pos hlt]; rfl), fun h => by simp [hlt] at h⟩
   ·have hlt' : ¬ (f.pivots.length : Int) < wid m := by omega
    rw [if_neg hlt]
    refine wqb hlt' ?_
    refine wia ?_
    refine wsa ?_
    refine wqa ?_
    refine AW.begin 13 2 33 rfl (by omega) ?_
    (simp (disch := omega) only [bb, bt, zDs, zD, Y01, simprocAttr])
    refine wqa ?_
    have hin2 := hinv.small2 hsm (Nat.le_refl _)
    have hdn2 := hinv.den_small2 hsm (Nat.le_refl _)
    have hd0 := hinv.den0
    let sols : Nat → List (Int × Int) := fun k => (List.range k).map fun k => (Y1b (Lin.at_ (Lin.row f.rows k) (wid m)) f.den).1
    have hsl : ∀ k, (sols k).length = k := fun k => by simp [sols]
    repeat refine Y00 ?_
    refine Y0i (fun x : Nat × Nat => ⟨[(13, .own 2 1 x.1 0 (wid m))], [none, some ⟨33, x.1, frC (sols (wid m))⟩], x.2⟩) (fun _ => True) ?_ ?_
    ·refine Y02 ?_
     refine Y05 (fun x : Nat × Nat × Nat => ⟨[(6, int (wid m)), (10, .ptr 0 (tt + 1) 0), (13, .own 2 1 x.2.1 0 x.1), (79, int (wid m)), (80, int x.1)], [some ⟨166, tt + 1, [mat f.rows, int f.den, .sl 1 (natD f.pivots) false, .sl 1 (natD f.fr) false, bool f.turned]⟩, some ⟨33, x.2.1, frC (sols x.1)⟩], x.2.2⟩) (fun x => wid m - x.1) (fun x => x.1 ≤ wid m) (0, t2 + 1, t2 + 1) (Nat.zero_le _) (by simp only [sols, List.range_zero, List.map_nil, frC, List.flatMap_nil]; (simp (disch := omega) only [StLe, tmLe, Y0b, hpLe, bl, bb, bt, zDs, zD, Y01, simprocAttr])) ?_
     rintro ⟨k, g, t3⟩ hk
     simp only at hk
     by_cases hkn : k < wid m
     ·obtain ⟨rk, hrk⟩ : ∃ r, f.rows[k]? = some r := ⟨_, List.getElem?_eq_getElem (by omega)⟩
      have hrl3 := hfl rk (List.mem_of_getElem? hrk)
      obtain ⟨v, hv3⟩ : ∃ v, rk[wid m]? = some v := ⟨_, List.getElem?_eq_getElem (by omega)⟩
      have hrow : Lin.row f.rows k = rk := by simp [Lin.row, hrk]
      have hat : Lin.at_ rk (wid m) = v := by simp [Lin.at_, hv3]
      have hb := hin2 k (wid m) (by omega) (by omega)
      rw [hrow, hat] at hb
      have hok := Y58 hb hdn2 hd0
      have hmk := make v f.den (by omega) (by omega)
      have hkr2 : k < f.rows.length := by omega
      have hs1 : frC (sols (k + 1)) = frC (sols k) ++ [int (Y1b v f.den).1.1, int (Y1b v f.den).1.2] := by
       simp only [sols, List.range_succ, List.map_append, List.map_cons, List.map_nil, hrow, hat, frC, List.flatMap_append, List.flatMap_cons, List.flatMap_nil, List.append_nil]
      have hfl2 := Y1s (sols k)
      rw [hsl k] at hfl2
      rw [show Y1b v f.den = ((Y1b v f.den).1, 0) from Prod.ext rfl hok] at hmk
      generalize (Y1b v f.den).1 = p at *
      ((refine wqb (F := _∧_) ⟨@Int.ofNat_lt, hkn⟩ ?_))
      refine wia ?_
      refine wsa ?_
      repeat refine Y00 ?_
      refine Y02 ?_
      refine wqa ?_
      ((repeat refine Y00 ?_); (refine Y0d tab_ok Y06 1 fun KR hKR => ?_); simp only [List.replicate_succ, List.replicate_zero, List.append_nil, List.nil_append, List.cons_append, List.length_cons, List.length_nil, Nat.reduceAdd])
      ((refine wdb (F := _∧_∧_∧_) ⟨hkr2, hrk, hrl3, hv3⟩ ?_))
      ((first | refine Y14 fun KK hKK => ?_ | refine Y15 rfl fun KK hKK => ?_); simp (disch := omega) only [bb, bt, zDs, zD, Y01, simprocAttr, Y2a, Y0t, Y3y, Y0m, ufa, uf]; refine PGive.ret (hmk) ?_; simp (disch := omega) only [bb, bt, zDs, zD, Y01, simprocAttr, Y1d]; refine hKK _ _ _ ?_; clear hKK KK)
      refine wda ?_
      ((refine Y0k ?_); simp only [List.reverse_cons, List.reverse_nil, List.nil_append, List.cons_append]; (refine hKR _ _ (by first | rfl | kernel_rfl) ?_); (try clear hKR KR); (refine qq1 ?_))
      have e0 : ((0 : Int) != 0) = false := rfl
      refine wqb e0 ?_
      refine wia ?_
      refine wsa ?_
      refine wqb hfl2 ?_
      refine wqa ?_
      refine ⟨(k + 1, t3 + 1 + 1, t3 + 1 + 1), hkn, by show wid m - (k + 1) < wid m - k; omega, ?_⟩
      simp only [hs1]
      exact ele
     ·have hkn' : k = wid m := by omega
      subst hkn'
      refine wqb @Int.lt_irrefl ?_
      refine wia ?_
      refine wxa ?_
      exact ⟨(g, t3), trivial, ele⟩
    ·rintro ⟨g, t3⟩ -
     have hfl2 := Y1s (sols (wid m))
     rw [hsl] at hfl2
     refine wqa ?_
     ((repeat refine Y00 ?_); (refine wta ?_); simp (disch := omega) only [retQ, resD, oneD, bb, bt, zDs, zD, Y01, simprocAttr, Tryz.results76])
     refine ⟨?_, fun _ => ⟨1, g, by rw [show ((List.range (wid m)).map fun k => (Y1b (Lin.at_ (Lin.row f.rows k) (wid m)) f.den).1).length = wid m from hsl _], rfl⟩⟩
     show rs (rsv _ 2) _ _ = _
     simp only [rs, rsL, List.getElem?_cons_zero, List.getElem?_cons_succ, List.drop_zero, Nat.zero_add, hfl2, Nat.le_refl, and_self, if_true]
     rw [List.take_of_length_le (by omega)]
     have hmap : (frC (sols (wid m))).map (rsv [none, some ⟨33, g, frC (sols (wid m))⟩] 2) = frC (sols (wid m)) := by
      generalize sols (wid m) = l
      generalize [none, some (⟨33, g, frC l⟩ : Blk)] = HH
      induction l with
      | nil => rfl
      | cons p l ih =>
       simp only [frC, List.flatMap_cons, List.map_append] at ih ⊢
       rw [ih]; rfl
     rw [hmap]
theorem Yyz (m : List (List Int)) (right : List Int) (hm : m.length ≤ 1000000) (hl : ∀ r ∈ m, r.length ≤ 1000000) (hrl : right.length ≤ 1000000) : PRet Tryz.prog 76 [mat m, ints right] (fse (Y1m m right)) :=
 PRet.intro 3 fun t => (Yns m right hm hl hrl t).mono fun _ _ _ h => h.val
end Go.Proofs.YtpbpafmgkdihlaaGreatDoor.T
