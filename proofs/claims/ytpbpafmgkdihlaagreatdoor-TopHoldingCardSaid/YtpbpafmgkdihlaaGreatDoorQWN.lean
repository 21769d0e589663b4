import Derived.Test.YtpbpafmgkdihlaaGreatDoorQTB
import Derived.Test.YtpbpafmgkdihlaaGreatDoorQWM
import Derived.Test.YtpbpafmgkdihlaaGreatDoorQWL
set_option linter.all false
namespace Go.Proofs.YtpbpafmgkdihlaaGreatDoor.T
open Go Go.RowKit Lin
theorem Yp3 (l : List Nat) : natD l = (l.map fun x : Nat => (x : Int)).map int := by rw [List.map_map]; rfl
theorem Ygi (l : List Nat) (c : Nat) : (l.map fun x : Nat => (x : Int)).contains (c : Int) = l.contains c := by
 induction l with
 | nil => rfl
 | cons x l ih =>
  rw [List.map_cons, List.contains_cons, List.contains_cons, ih]
  congr 1
  by_cases h : c = x
  ·subst h; simp
  ·rw [beq_eq_false_iff_ne.2 h, beq_eq_false_iff_ne.2 (by omega)]
theorem Yfn (a b : Int) (n : Nat) : Y31 a b n = frC (List.replicate n (a, b)) := by
 induction n with
 | zero => rfl
 | succ n ih =>
  rw [Y4y, ih, List.replicate_succ']
  simp [Y31, frC]
theorem Ye2 : ∀ (l : List (Int × Int)) (i : Nat) (a b : Int), i < l.length → (frC l).take (i * 2) ++ [int a, int b] ++ (frC l).drop (i * 2 + 2) = frC (l.set i (a, b))
 | [], i, a, b, h => by simp at h
 | p :: l, 0, a, b, _ => by simp [frC]
 | p :: l, i + 1, a, b, h => by
  have := Ye2 l i a b (by simpa using h)
  have e : (i + 1) * 2 = i * 2 + 1 + 1 := by omega
  rw [e, List.set_cons_succ]
  simp only [frC, List.flatMap_cons, List.cons_append, List.nil_append, List.take_succ_cons] at this ⊢
  rw [show i * 2 + 1 + 1 + 2 = (i * 2 + 2) + 1 + 1 by omega, List.drop_succ_cons, List.drop_succ_cons, this]
theorem Yvq (R : D → D) (m : Nat) (H2 : Hp) (l : List (Int × Int)) : zzL R m H2 (frC l) = frC l := by
 induction l with
 | nil => simp [frC, zzL]
 | cons p l ih =>
  simp only [frC, List.flatMap_cons, List.cons_append, List.nil_append, zzL, zz] at ih ⊢
  rw [ih]
theorem Yy7 (m : Nat) (H2 : Hp) (k : Nat) (l : List (Int × Int)) : zv m H2 k (frs l) = frs l := by cases k <;> simp only [zv, zz, Yvq]
theorem Ywe (R : D → D) (H : Hp) (l : List (Int × Int)) : rsL R H (frC l) = frC l := by
 induction l with
 | nil => simp [frC, rsL]
 | cons p l ih =>
  simp only [frC, List.flatMap_cons, List.cons_append, List.nil_append, rsL, rs] at ih ⊢
  rw [ih]
theorem Yz2 (R : D → D) (H : Hp) (l : List (Int × Int)) : rs R H (frs l) = frs l := by simp only [rs, Ywe]
def nvec (f : Frm) (n c : Nat) : Nat → List (Int × Int)
 | 0 => (List.replicate n (0, 1)).set c (1, 1)
 | k + 1 => (nvec f n c k).set ((f.pivots[k]?).getD 0) (Y1b (-(Lin.at_ (Lin.row f.rows k) c)) f.den).1
theorem Y9f (f : Frm) (n c : Nat) : ∀ k, (nvec f n c k).length = n
 | 0 => by simp [nvec]
 | k + 1 => by simp only [nvec, List.length_set]; exact Y9f f n c k
def Y2r (f : Frm) (n : Nat) : Nat → List (List (Int × Int))
 | 0 => []
 | c + 1 => if f.pivots.contains c then Y2r f n c else Y2r f n c ++ [nvec f n c f.pivots.length]
theorem Yae (f : Frm) (n : Nat) : ∀ c, (Y2r f n c).length ≤ c
 | 0 => by simp [Y2r]
 | c + 1 => by
  have := Yae f n c
  simp only [Y2r]
  split
  ·omega
  ·rw [List.length_append]; simp only [List.length_cons, List.length_nil]; omega
def Ydm (m : List (List Int)) : List (List (Int × Int)) × Int := if Y1c m = true then (Y2r (elim m (wid m)) (wid m) (wid m), 0) else ([], 1)
abbrev frss (l : List (List (Int × Int))) : D := .sl 1 (l.map frs) false
abbrev Ylz (f : Frm) (g : Nat) : Option Blk := some ⟨166, g, [mat f.rows, int f.den, ints (f.pivots.map fun x : Nat => (x : Int)), ints (f.fr.map fun x : Nat => (x : Int)), bool f.turned]⟩
structure NB where
 c : Nat
 g : Nat
 t : Nat
def NB.st (f : Frm) (n g0 : Nat) (x : NB) : St := ⟨[(4, int n), (5, .ptr 0 g0 0), (6, .own 1 1 x.g 0 (Y2r f n x.c).length), (23, int n), (24, int x.c)], [Ylz f g0, some ⟨51, x.g, (Y2r f n x.c).map frs⟩], x.t⟩
theorem NB.st_mk (f : Frm) (n g0 c g t : Nat) : NB.st f n g0 ⟨c, g, t⟩ = ⟨[(4, int n), (5, .ptr 0 g0 0), (6, .own 1 1 g 0 (Y2r f n c).length), (23, int n), (24, int c)], [Ylz f g0, some ⟨51, g, (Y2r f n c).map frs⟩], t⟩ := rfl
set_option maxHeartbeats 2000000 in
theorem null (m : List (List Int)) (hm : m.length ≤ 1000000) (hl : ∀ r ∈ m, r.length ≤ 1000000) : PRet Tryz.prog 135 [mat m] (.tup [frss (Ydm m).1, int (Ydm m).2]) := by
 refine pri 3 Tryz.func135 Tryz.ntmps135 fun t => ?_
 simp only [Y04]
 unfold Ydm
 refine wqa ?_
 ((repeat refine Y00 ?_); (refine Y03 tab_ok fun KR hKR => ?_)); ((refine wra ?_))
 ((refine wka1 (Yyf m hm hl) ?_))
 ((refine wra ?_)); ((refine wea ?_); (try clear hKR KR))
 cases hv : Y1c m
 ·refine wib hv ?_
  refine wqa ?_
  refine exq Tryz.results135 ?_
  rfl
 refine wib hv ?_
 refine wsa ?_
 rw [if_pos rfl]
 obtain ⟨h1, h2, h3⟩ := Y0v.1 hv
 obtain ⟨r0, m', hm0⟩ : ∃ r0 m', m = r0 :: m' := by
  cases m with
  | nil => simp at h1
  | cons a b => exact ⟨a, b, rfl⟩
 have hwd : wid m = r0.length := by rw [hm0]; rfl
 have hat0 : m[0]? = some r0 := by rw [hm0]; rfl
 have hpos : 0 < m.length := by omega
 have hsm := Y6o hv
 have hn12 : wid m ≤ 12 := h2.2
 ((refine wqb (F := _∧_∧_) ⟨hat0, hpos, (hwd).symm⟩ ?_))
 have hc := Yzw m hsm (by omega)
 have hinv := Y42 (Y3p m (wid m)) hsm.lens (wid m) (Nat.le_refl _)
 rw [← Y5a] at hinv
 have hin2 := hinv.small2 hsm (Nat.le_refl _)
 have hden := hinv.den_small2 hsm (Nat.le_refl _)
 have hd0 := hinv.den0
 generalize elim m (wid m) = f at *
 have hfr := hinv.nr
 have hfk := hinv.k_le
 have hfl := hinv.lens
 ((repeat refine Y00 ?_); (refine Y03 tab_ok fun KR hKR => ?_)); ((refine wra ?_))
 refine wka1 hc ?_
 ((repeat ((first | refine Y19 rfl fun KK hKK => ?_ | refine Y1a rfl rfl fun KK hKK => ?_ | refine Y08 rfl fun KK hKK => ?_); simp (disch := omega) only [bb, bt, zDs, zD, Y01, simprocAttr, Ytr, Yp3]; refine hKK _ ?_; clear hKK KK))); ((refine wea ?_); (try clear hKR KR))
 refine wqa ?_
 refine AW.begin 6 1 51 rfl (by omega) ?_
 (simp (disch := omega) only [bb, bt, zDs, zD, Y01, simprocAttr])
 refine wqa ?_
 repeat refine Y00 ?_
 refine Y0i (NB.st f (wid m) (t + 1)) (fun x => x.c = wid m) ?_ ?_
 ·refine Y02 ?_
  refine Y05 (NB.st f (wid m) (t + 1)) (fun x => wid m - x.c) (fun x => x.c ≤ wid m) ⟨0, t + 1 + 1, t + 1 + 1⟩ (Nat.zero_le _) (by rw [NB.st_mk]; (simp (disch := omega) only [StLe, tmLe, Y0b, hpLe, bl, bb, bt, zDs, zD, Y01, simprocAttr, Y2r])) ?_
  rintro ⟨c, g, tt⟩ hcn
  simp only at hcn
  rw [NB.st_mk]
  by_cases hlt : c < wid m
  ·((refine wqb (F := _∧_) ⟨@Int.ofNat_lt, hlt⟩ ?_))
   refine wia ?_
   refine wsa ?_
   repeat refine Y00 ?_
   refine Y02 ?_
   refine wqa ?_
   have hct := Ygj (f.pivots.map fun x : Nat => (x : Int)) c (by simp; omega)
   rw [Ygi] at hct
   ((repeat refine Y00 ?_); (refine Y03 tab_ok fun KR hKR => ?_)); ((refine wra ?_))
   refine wka1 hct ?_
   ((refine wra ?_)); ((refine wea ?_); (try clear hKR KR))
   cases hcc : f.pivots.contains c
   ·refine wib hcc ?_
    refine wsa ?_
    have hrep := Yjh 0 1 (wid m) h2.1 (by omega)
    rw [Yfn] at hrep
    ((repeat refine Y00 ?_); (refine Y03 tab_ok fun KR hKR => ?_)); ((refine wra ?_))
    ((first | refine Y0f fun KK hKK => ?_ | refine Y08 rfl fun KK hKK => ?_); simp (disch := omega) only [bb, bt, zDs, zD, Y01, simprocAttr, goC, Y0e, Y0m, and_self]; refine ACall.of_fresh (hrep) (by first | (simp only [List.map_cons, List.map_nil, List.append_nil, List.nil_append, List.cons_append, ufa, uf]; done) | rfl) ?_; simp (disch := omega) only [bb, bt, zDs, zD, Y01, simprocAttr, Y0n]; refine hKK _ ?_; clear hKK KK)
    ((refine wra ?_)); ((refine wea ?_); (try clear hKR KR))
    have hl0 := Y1s (List.replicate (wid m) ((0 : Int), (1 : Int)))
    simp only [List.length_replicate] at hl0
    have hle0 : c * 2 + 2 ≤ wid m * 2 := by omega
    have hset0 := Ye2 (List.replicate (wid m) ((0 : Int), (1 : Int))) c 1 1 (by simpa using hlt)
    simp only [List.append_assoc, List.cons_append, List.nil_append] at hset0
    ((refine wqb (F := _∧_∧_∧_) ⟨hl0, hlt, hle0, hset0⟩ ?_))
    refine wqa ?_
    repeat refine Y00 ?_
    have hnl := Yae f (wid m) c
    refine Y0i (fun x : Hp × Nat => ⟨[(4, int (wid m)), (5, .ptr 0 (t + 1) 0), (6, .own 1 1 g 0 (Y2r f (wid m) c).length), (7, int c), (8, .own 2 2 (tt + 1) 0 (wid m)), (23, int (wid m)), (24, int c)], Ylz f (t + 1) :: some ⟨51, g, (Y2r f (wid m) c).map frs⟩ :: some ⟨33, tt + 1, frC (nvec f (wid m) c f.pivots.length)⟩ :: x.1, x.2⟩) (fun _ => True) ?_ ?_
    ·refine Y02 ?_
     refine Y05 (fun x : Nat × Hp × Nat => ⟨[(4, int (wid m)), (5, .ptr 0 (t + 1) 0), (6, .own 1 1 g 0 (Y2r f (wid m) c).length), (7, int c), (8, .own 2 2 (tt + 1) 0 (wid m)), (23, int (wid m)), (24, int c), (40, ints (f.pivots.map fun x : Nat => (x : Int))), (41, int f.pivots.length), (42, int x.1)], Ylz f (t + 1) :: some ⟨51, g, (Y2r f (wid m) c).map frs⟩ :: some ⟨33, tt + 1, frC (nvec f (wid m) c x.1)⟩ :: x.2.1, x.2.2⟩) (fun x => f.pivots.length - x.1) (fun x => x.1 ≤ f.pivots.length) (0, [], tt + 1) (Nat.zero_le _) (by (simp (disch := omega) only [StLe, tmLe, Y0b, hpLe, bl, bb, bt, zDs, zD, Y01, simprocAttr, nvec])) ?_
     rintro ⟨k, R, t3⟩ hk
     simp only at hk
     by_cases hkn : k < f.pivots.length
     ·obtain ⟨rk, hrk⟩ : ∃ r, f.rows[k]? = some r := ⟨_, List.getElem?_eq_getElem (by omega)⟩
      obtain ⟨pk, hpk⟩ : ∃ r, f.pivots[k]? = some r := ⟨_, List.getElem?_eq_getElem hkn⟩
      have hplt : pk < wid m := hinv.lt pk (List.mem_of_getElem? hpk)
      have hrl3 := hfl rk (List.mem_of_getElem? hrk)
      obtain ⟨v, hv3⟩ : ∃ v, rk[c]? = some v := ⟨_, List.getElem?_eq_getElem (by omega)⟩
      have hrow : Lin.row f.rows k = rk := by simp [Lin.row, hrk]
      have hat : Lin.at_ rk c = v := by simp [Lin.at_, hv3]
      have hb := hin2 k c (by omega) hlt
      rw [hrow, hat] at hb
      have hb' : -1152921504606846976 ≤ -v ∧ -v ≤ 1152921504606846976 := by omega
      have hok := Y58 hb' hden hd0
      have hmk := make (-v) f.den (by omega) (by omega)
      have hkr2 : k < f.rows.length := by omega
      have hcw : c < rk.length := by omega
      have hnv : nvec f (wid m) c (k + 1) = (nvec f (wid m) c k).set pk (Y1b (-v) f.den).1 := by
       simp only [nvec, hpk, hrow, hat, Option.getD_some]
      have hvl := Y9f f (wid m) c k
      have hfl2 := Y1s (nvec f (wid m) c k)
      rw [hvl] at hfl2
      have hset1 := Ye2 (nvec f (wid m) c k) pk (Y1b (-v) f.den).1.1 (Y1b (-v) f.den).1.2 (by omega)
      have hset1 := hset1.trans (congrArg frC hnv.symm)
      rw [show Y1b (-v) f.den = ((Y1b (-v) f.den).1, 0) from Prod.ext rfl hok] at hmk
      simp only [List.append_assoc, List.cons_append, List.nil_append] at hset1
      clear hnv
      generalize (Y1b (-v) f.den).1 = p at *
      have hle1 : pk * 2 + 2 ≤ wid m * 2 := by omega
      have hget : ∀ B : Blk, (R ++ [some B])[R.length]? = some (some B) := fun B => by rw [List.getElem?_append_right (by simp)]; simp
      have hset : ∀ B B' : Option Blk, (R ++ [B]).set R.length B' = R ++ [B'] := fun B B' => by rw [List.set_append_right _ _ (by simp)]; simp
      ((refine wqb (F := _∧_) ⟨@Int.ofNat_lt, hkn⟩ ?_))
      refine wia ?_
      refine wsa ?_
      repeat refine Y00 ?_
      refine Y02 ?_
      ((refine wqb (F := _∧_) ⟨hkn, hpk⟩ ?_))
      ((repeat refine Y00 ?_); (refine Y0d tab_ok Y06 1 fun KR hKR => ?_); simp only [List.replicate_succ, List.replicate_zero, List.append_nil, List.nil_append, List.cons_append, List.length_cons, List.length_nil, Nat.reduceAdd])
      ((refine wdb (F := _∧_∧_∧_) ⟨hkr2, hrk, hcw, hv3⟩ ?_))
      ((first | refine Y14 fun KK hKK => ?_ | refine Y15 rfl fun KK hKK => ?_); simp (disch := omega) only [bb, bt, zDs, zD, Y01, simprocAttr, Y2a, Y0t, Y3y, Y0m, ufa, uf]; refine PGive.ret (hmk) ?_; simp (disch := omega) only [bb, bt, zDs, zD, Y01, simprocAttr, Y1d]; refine hKK _ _ _ ?_; clear hKK KK)
      ((refine wdb (F := _∧_) ⟨hget, hset⟩ ?_))
      ((refine Y0k ?_); simp only [List.reverse_cons, List.reverse_nil, List.nil_append, List.cons_append]; (refine hKR _ _ (by first | rfl | kernel_rfl) ?_); (try clear hKR KR); (refine qq1 ?_))
      have e0 : ((0 : Int) != 0) = false := rfl
      refine wqb e0 ?_
      refine wia ?_
      refine wsa ?_
      ((refine wqb (F := _∧_∧_∧_∧_∧_) ⟨hget, hset, hfl2, hplt, hle1, hset1⟩ ?_))
      refine wqa ?_
      refine ⟨(k + 1, R ++ [some ⟨33, t3 + 1, [int p.1, int p.2]⟩], t3 + 1), hkn, by show f.pivots.length - (k + 1) < f.pivots.length - k; omega, ?_⟩
      exact ele
     ·have hkn' : k = f.pivots.length := by omega
      subst hkn'
      refine wqb @Int.lt_irrefl ?_
      refine wia ?_
      refine wxa ?_
      exact ⟨(R, t3), trivial, ele⟩
    ·rintro ⟨R, t3⟩ -
     refine AW.tail 1 [Ylz f (t + 1), some ⟨51, g, (Y2r f (wid m) c).map frs⟩] (some ⟨33, tt + 1, frC (nvec f (wid m) c f.pivots.length)⟩ :: R) rfl ?_
     simp only [zT, zH, List.map_cons, List.map_nil, Option.map_some, Yut, Yrs, zv_v, List.length_nil, List.length_cons, List.map_map]
     have hmm : (zv 2 (some ⟨33, tt + 1, frC (nvec f (wid m) c f.pivots.length)⟩ :: R) 1 ∘ frs) = frs := funext fun l => Yy7 _ _ _ _
     rw [hmm]
     have hvl := Y9f f (wid m) c f.pivots.length
     have hfl2 := Y1s (nvec f (wid m) c f.pivots.length)
     rw [hvl] at hfl2
     have hz : zv 2 (some ⟨33, tt + 1, frC (nvec f (wid m) c f.pivots.length)⟩ :: R) 1 (.own 2 2 (tt + 1) 0 (wid m)) = frs (nvec f (wid m) c f.pivots.length) := by
      simp only [zv, zz]
      simp only [Nat.lt_irrefl, if_false, Nat.sub_self, List.getElem?_cons_zero, Nat.zero_add, hfl2, Nat.le_refl, and_self, if_true, List.drop_zero]
      rw [List.take_of_length_le (by omega)]
      simp
     have hz2 : zv 2 (some ⟨33, tt + 1, frC (nvec f (wid m) c f.pivots.length)⟩ :: R) 1 (.own 1 1 g 0 (Y2r f (wid m) c).length) = .own 1 1 g 0 (Y2r f (wid m) c).length := by simp [zv, zz]
     have hz3 : zv 2 (some ⟨33, tt + 1, frC (nvec f (wid m) c f.pivots.length)⟩ :: R) 1 (.ptr 0 (t + 1) 0) = .ptr 0 (t + 1) 0 := by simp [zv, zz]
     rw [hz, hz2, hz3]
     have hnu : Y2r f (wid m) (c + 1) = Y2r f (wid m) c ++ [nvec f (wid m) c f.pivots.length] := by simp only [Y2r, hcc]; rfl
     refine wqa ?_
     refine wqa ?_
     refine ⟨⟨c + 1, t3 + 1, t3 + 1⟩, hlt, by show wid m - (c + 1) < wid m - c; omega, ?_⟩
     rw [NB.st_mk]
     simp only [hnu, List.map_append, List.length_append, List.map_cons, List.map_nil, List.length_cons, List.length_nil]
     exact ele
   ·refine wib hcc ?_
    refine wxa ?_
    refine wqa ?_
    refine ⟨⟨c + 1, g, tt⟩, hlt, by show wid m - (c + 1) < wid m - c; omega, ?_⟩
    rw [NB.st_mk]
    have e : Y2r f (wid m) (c + 1) = Y2r f (wid m) c := by simp only [Y2r, hcc, if_true]
    rw [e]
    exact ele
  ·have hke : c = wid m := by omega
   subst hke
   refine wqb @Int.lt_irrefl ?_
   refine wia ?_
   refine wxa ?_
   refine ⟨⟨wid m, g, tt⟩, rfl, ?_⟩
   rw [NB.st_mk]
   exact ele
 ·rintro ⟨c, g, tt⟩ hc
  simp only at hc
  subst hc
  rw [NB.st_mk]
  refine wqa ?_
  ((repeat refine Y00 ?_); (refine wta ?_); simp (disch := omega) only [retQ, resD, oneD, bb, bt, zDs, zD, Y01, simprocAttr, Tryz.results135])
  have hmap : ((Y2r f (wid m) (wid m)).map frs).map (rsv [Ylz f (t + 1), some ⟨51, g, (Y2r f (wid m) (wid m)).map frs⟩] 2) = (Y2r f (wid m) (wid m)).map frs := by
   rw [List.map_map]
   exact List.map_congr_left fun l _ => Yz2 _ _ l
  show rs (rsv _ 2) _ _ = _
  simp only [rs, rsL, List.getElem?_cons_zero, List.getElem?_cons_succ, List.drop_zero, Nat.zero_add, List.length_map, Nat.mul_one, Nat.le_refl, and_self, if_true]
  rw [List.take_of_length_le (by simp), hmap]
end Go.Proofs.YtpbpafmgkdihlaaGreatDoor.T
