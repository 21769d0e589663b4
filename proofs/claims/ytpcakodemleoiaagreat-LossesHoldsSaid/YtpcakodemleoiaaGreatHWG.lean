import Derived.Test.YtpcakodemleoiaaGreatHTB
import Derived.Test.YtpcakodemleoiaaGreatHWF
import Derived.Test.YtpcakodemleoiaaGreatHMinJ
set_option linter.all false
namespace Go.Proofs.YtpcakodemleoiaaGreat.T
open Go Go.RowKit Lin
abbrev natE (l : List Nat) : List D := l.map fun x : Nat => int (x : Int)
theorem copyP_nil (m : List (List Int)) : copyP m [] = m := by
 apply List.ext_getElem?
 intro i
 simp [copyP]
abbrev zForm : List D := [.sl 1 [] true, .sl 1 [] true, int 0, bool false]
def FormD (f : Frm) : D := .agg [mat f.rows, .sl 1 (natE f.pivots) false, int f.den, bool f.turned]
structure RB where
 c : Nat
 f : Frm
 R : Hp
 cells : List D
 ga : Nat
 gp : Nat
 t : Nat
def RB.hp (t g : Nat) (x : RB) : Hp := some ⟨155, t + 1, zForm⟩ :: some ⟨155, g, [.own 1 3 x.ga 0 x.f.rows.length, .own 1 2 x.gp 0 x.f.pivots.length, int x.f.den, bool x.f.turned]⟩ :: some ⟨3, x.gp, natE x.f.pivots⟩ :: some ⟨126, x.ga, x.cells⟩ :: x.R
theorem RB.hp_mk (t g c : Nat) (f : Frm) (R : Hp) (cells : List D) (ga gp tt : Nat) : RB.hp t g ⟨c, f, R, cells, ga, gp, tt⟩ = some ⟨155, t + 1, zForm⟩ :: some ⟨155, g, [.own 1 3 ga 0 f.rows.length, .own 1 2 gp 0 f.pivots.length, int f.den, bool f.turned]⟩ :: some ⟨3, gp, natE f.pivots⟩ :: some ⟨126, ga, cells⟩ :: R := rfl
abbrev RB.tm (m : List (List Int)) (n t g : Nat) (k c : Nat) : TM := [(0, mat m), (1, int n), (4, .ptr 0 (t + 1) 0), (5, .ptr 1 g 0), (6, int k), (7, int c)]
def RB.st (m : List (List Int)) (n t g : Nat) (x : RB) : St := ⟨RB.tm m n t g x.f.pivots.length x.c, RB.hp t g x, x.t⟩
theorem RB.st_mk (m : List (List Int)) (n t g c : Nat) (f : Frm) (R : Hp) (cells : List D) (ga gp tt : Nat) : RB.st m n t g ⟨c, f, R, cells, ga, gp, tt⟩ = ⟨RB.tm m n t g f.pivots.length c, RB.hp t g ⟨c, f, R, cells, ga, gp, tt⟩, tt⟩ := rfl
set_option maxHeartbeats 2000000 in
theorem refEliminate (m : List (List Int)) (w n : Nat) (hm : m.length ≤ 6) (hw : ∀ r ∈ m, r.length = w) (hw0 : 1 ≤ w) (hw' : w ≤ 1000) (hn : n ≤ w) (hf : FitBy mvR m w n) : PRet Tryz.prog 132 [mat m, int n] (FormD (Y18 mvR m n)) := by
 refine PRet.intro 3 fun t => ACall.enter tab_ok Tryz.func132 rfl rfl Tryz.ntmps132 (by simp) ?_
 simp only [Y06]
 ((refine wqa ?_))
 ((repeat refine Y01 ?_))
 refine AW.reserve 2 ?_
 (simp (disch := omega) only [bb, bt, zDs, zD, Y00, simprocAttr])
 ((repeat refine Y01 ?_); (refine Y05 tab_ok fun KR hKR => ?_)); (((first | refine Y0r rfl fun KK hKK => ?_ | refine Y0s rfl rfl fun KK hKK => ?_ | refine Y0c rfl fun KK hKK => ?_); simp (disch := omega) only [bb, bt, zDs, zD, Y00, simprocAttr]; refine hKK _ ?_; clear hKK KK))
 (first | refine Y0v fun KK hKK => ?_ | refine Y0c rfl fun KK hKK => ?_)
 (simp (disch := omega) only [bb, bt, zDs, zD, Y00, simprocAttr, goC, Y0u, argsD])
 refine copy_call (m := m) (right := []) (by omega) (fun r hr => ⟨fun e => by have := hw r hr; rw [e] at this; simp at this; omega, by rw [hw r hr]; omega⟩) (by simp) rfl fun ga cells R t1 hL hR ht1 => ?_
 simp only [copyP_nil] at hL
 (simp (disch := omega) only [bb, bt, zDs, zD, Y00, simprocAttr, Y1e])
 refine hKK _ ?_; clear hKK KK
 (((first | refine Y0r rfl fun KK hKK => ?_ | refine Y0s rfl rfl fun KK hKK => ?_ | refine Y0c rfl fun KK hKK => ?_); simp (disch := omega) only [bb, bt, zDs, zD, Y00, simprocAttr]; refine hKK _ ?_; clear hKK KK))
 refine Yem 1 rfl rfl (by decide) fun KK hKK => ?_
 (simp (disch := omega) only [bb, bt, zDs, zD, Y00, simprocAttr])
 refine hKK _ ?_; clear hKK KK
 ((refine wra ?_)); ((refine wea ?_); (try clear hKR KR))
 refine AW.begin_cell_at 1 1 1 2 3 rfl rfl (by omega) rfl ?_
 (simp (disch := omega) only [bb, bt, zDs, zD, Y00, simprocAttr])
 ((refine wqa ?_))
 ((refine wqa ?_))
 refine Y0j (RB.st m n t (t1 + 1)) (fun x => x.f = Y18 mvR m n ∧ LayO 4 x.f.rows x.f.fr x.cells x.R) ?_ ?_
 ·refine Y04 ?_
  refine Y07 (RB.st m n t (t1 + 1)) (fun x => n - x.c) (fun x => x.c ≤ n ∧ x.f = Y18 mvR m x.c ∧ x.R.length = m.length ∧ LayO 4 x.f.rows x.f.fr x.cells x.R) ⟨0, Lin.start m, R, cells, ga, t1 + 1 + 1, t1 + 1 + 1⟩ ⟨Nat.zero_le _, rfl, hR, hL⟩ (by rw [RB.st_mk, RB.hp_mk]; (simp (disch := omega) only [StLe, tmLe, Y03, hpLe, bl, bb, bt, zDs, zD, Y00, simprocAttr, Lin.start, List.length_range])) ?_
  rintro ⟨c, f, R, cells, ga, gp, tt⟩ ⟨hc, hf', hR, hL⟩
  simp only at hc hf' hR hL
  rw [RB.st_mk, RB.hp_mk]
  by_cases hlt : c < n
  ·obtain ⟨q1, q2, q3, q4, q5⟩ := hf c hlt
   rw [← hf'] at q1 q2 q3 q4 q5
   by_cases hfull : f.pivots.length < m.length
   ·((refine wqb (F := _∧_∧_) ⟨@Int.ofNat_lt, hlt, hfull⟩ ?_))
    ((refine wia ?_))
    ((refine wsa ?_))
    ((repeat refine Y01 ?_))
    refine Y04 ?_
    ((refine wqa ?_))
    ((repeat refine Y01 ?_))
    refine Y0j (fun i : Nat => ⟨(8, int i) :: RB.tm m n t (t1 + 1) f.pivots.length c, RB.hp t (t1 + 1) ⟨c, f, R, cells, ga, gp, tt⟩, tt⟩) (fun i => (i < m.length ∧ find c (f.rows.drop f.pivots.length) f.pivots.length = some i) ∨ (i = m.length ∧ find c (f.rows.drop f.pivots.length) f.pivots.length = none)) ?_ ?_
    ·refine Y04 ?_
     refine Y07 (fun i : Nat => ⟨(8, int i) :: RB.tm m n t (t1 + 1) f.pivots.length c, RB.hp t (t1 + 1) ⟨c, f, R, cells, ga, gp, tt⟩, tt⟩) (fun i => m.length - i) (fun i => f.pivots.length ≤ i ∧ i ≤ m.length ∧ find c (f.rows.drop i) i = find c (f.rows.drop f.pivots.length) f.pivots.length) f.pivots.length ⟨Nat.le_refl _, by omega, rfl⟩ (by rw [RB.hp_mk]; (simp (disch := omega) only [StLe, tmLe, Y03, hpLe, bl, bb, bt, zDs, zD, Y00, simprocAttr])) ?_
     rintro i ⟨hi, hi', ha⟩
     rw [RB.hp_mk]
     by_cases hiN : i < m.length
     ·obtain ⟨r, hr⟩ : ∃ r, f.rows[i]? = some r := ⟨_, List.getElem?_eq_getElem (by omega)⟩
      obtain ⟨x0, hx0⟩ : ∃ x, f.fr[i]? = some x := ⟨_, List.getElem?_eq_getElem (by omega)⟩
      obtain ⟨g, hci, hRx⟩ := hL.at_ i x0 r hx0 hr
      have hrw : r.length = w := q1 r (List.mem_of_getElem? hr)
      obtain ⟨v, hv⟩ : ∃ v, r[c]? = some v := ⟨_, List.getElem?_eq_getElem (by omega)⟩
      have hat : Lin.at_ r c = v := by simp [Lin.at_, hv]
      have hdr : f.rows.drop i = r :: f.rows.drop (i + 1) := by
       obtain ⟨h1, h2⟩ := List.getElem?_eq_some_iff.1 hr
       rw [List.drop_eq_getElem_cons h1, h2]
      rw [hdr] at ha
      simp only [find, hat] at ha
      by_cases hv0 : v = 0
      ·have hvz : (v == 0) = true := by simp [hv0]
       ((refine wqb (F := _∧_∧_∧_∧_∧_) ⟨@Int.ofNat_lt, hiN, hci, hRx, hv, hvz⟩ ?_))
       ((refine wia ?_))
       ((refine wsa ?_))
       ((repeat refine Y01 ?_))
       refine Y04 ?_
       ((refine wqa ?_))
       refine ⟨i + 1, ⟨by omega, by omega, ?_⟩, by omega, ?_⟩
       ·rw [if_neg (by simp [hv0])] at ha; exact ha
       ·(try rw [RB.hp_mk]); (simp (disch := omega) only [StLe, tmLe, Y03, hpLe, bl, bb, bt, zDs, zD, Y00, simprocAttr])
      ·have hvz : (v == 0) = false := by simpa using hv0
       ((refine wqb (F := _∧_∧_∧_∧_∧_) ⟨@Int.ofNat_lt, hiN, hci, hRx, hv, hvz⟩ ?_))
       ((refine wia ?_))
       ((refine wxa ?_))
       rw [if_pos hv0] at ha
       exact ⟨i, .inl ⟨hiN, ha.symm⟩, by (try rw [RB.hp_mk]); (simp (disch := omega) only [StLe, tmLe, Y03, hpLe, bl, bb, bt, zDs, zD, Y00, simprocAttr])⟩
     ·have hie : i = m.length := by omega
      subst hie
      ((refine wqb @Int.lt_irrefl ?_))
      ((refine wia ?_))
      ((refine wxa ?_))
      rw [List.drop_eq_nil_of_le (by omega)] at ha
      exact ⟨m.length, .inr ⟨rfl, ha.symm⟩, by (try rw [RB.hp_mk]); (simp (disch := omega) only [StLe, tmLe, Y03, hpLe, bl, bb, bt, zDs, zD, Y00, simprocAttr])⟩
    ·rintro i (⟨hiN, hfd⟩ | ⟨rfl, hfd⟩)
     ·rw [hfd] at q5
      simp only at q5 ⊢
      rw [RB.hp_mk]
      obtain ⟨hf1, hf2, -⟩ := Y2v hfd
      have e0 : ((i : Int) == (m.length : Int)) = false := by simpa using fun h => by omega
      ((refine wqb e0 ?_))
      ((refine wia ?_))
      ((refine wsa ?_))
      ((refine wqa ?_))
      have h0r := hL.lr
      have h0c := hL.lc
      ((repeat refine Y01 ?_))
      refine Y0j (fun x : Frm × List D × Nat => ⟨RB.tm m n t (t1 + 1) f.pivots.length c, RB.hp t (t1 + 1) ⟨c, x.1, R, x.2.1, ga, gp, 0⟩, x.2.2⟩) (fun x => x.1 = mvR f.pivots.length (i - f.pivots.length) f ∧ x.1.pivots = f.pivots ∧ x.1.den = f.den ∧ x.1.rows.length = f.rows.length ∧ LayO 4 x.1.rows x.1.fr x.2.1 R) ?_ ?_
      ·by_cases hik : i = f.pivots.length
       ·have e1 : ((i : Int) != (f.pivots.length : Int)) = false := by simp [hik]
        ((refine wib e1 ?_))
        ((refine wsa ?_))
        refine ⟨(f, cells, tt), ⟨by simp only [mvR, hik, Nat.sub_self, if_true], rfl, rfl, rfl, hL⟩, ?_⟩
        (try simp only [RB.hp_mk]); (simp (disch := omega) only [StLe, tmLe, Y03, hpLe, bl, bb, bt, zDs, zD, Y00, simprocAttr])
       ·have e1 : ((i : Int) != (f.pivots.length : Int)) = true := by simpa using fun h => hik (by omega)
        ((refine wib e1 ?_))
        obtain ⟨r1, hr1⟩ : ∃ r, f.rows[i]? = some r := ⟨_, List.getElem?_eq_getElem (by omega)⟩
        obtain ⟨r2, hr2⟩ : ∃ r, f.rows[f.pivots.length]? = some r := ⟨_, List.getElem?_eq_getElem (by omega)⟩
        obtain ⟨x1, hx1⟩ : ∃ x, f.fr[i]? = some x := ⟨_, List.getElem?_eq_getElem (by omega)⟩
        obtain ⟨x2, hx2⟩ : ∃ x, f.fr[f.pivots.length]? = some x := ⟨_, List.getElem?_eq_getElem (by omega)⟩
        obtain ⟨g1, hc1, hR1⟩ := hL.at_ _ x1 r1 hx1 hr1
        obtain ⟨g2, hc2, hR2⟩ := hL.at_ _ x2 r2 hx2 hr2
        ((repeat refine Y01 ?_); (refine Y0a tab_ok Y08 0 fun KR hKR => ?_); simp only [List.replicate_succ, List.replicate_zero, List.append_nil, List.nil_append, List.cons_append, List.length_cons, List.length_nil, Nat.reduceAdd])
        ((refine wdb (F := _∧_) ⟨hc1, hc2⟩ ?_))
        ((refine Y0n ?_); simp only [List.reverse_cons, List.reverse_nil, List.nil_append, List.cons_append]; (refine hKR _ _ (by exact Y3o (clamp 4) (by kernel_rfl)) ?_); (try clear hKR KR); (repeat (with_reducible first | refine q1 ?_ | refine q2 ?_ | refine q3 ?_ | refine q4 ?_ | refine q5 ?_ | refine q6 ?_ | (refine q7 ?_ ?_; (focus (with_unfolding_all rfl))))))
        ((refine wqa ?_))
        have hsw : (cells.set i (D.own 1 (x2 + 4) g2 0 r2.length)).set f.pivots.length (D.own 1 (x1 + 4) g1 0 r1.length) = Lin.swp cells f.pivots.length i := by
         rw [← Lin.swp_comm cells i f.pivots.length (by omega) (by omega)]
         unfold Lin.swp; rw [hc1, hc2]
        rw [hsw]
        have hmv : mvR f.pivots.length (i - f.pivots.length) f = swpF f f.pivots.length i := by
         unfold mvR
         rw [if_neg (by omega), show f.pivots.length + (i - f.pivots.length) = i by omega]
        refine ⟨(swpF f f.pivots.length i, Lin.swp cells f.pivots.length i, tt + 1), ⟨hmv.symm, rfl, rfl, by simp only [swpF, Y13], hL.swp (Ne.symm hik) (by omega) (by omega)⟩, ?_⟩
        (try simp only [RB.hp_mk]); (simp (disch := omega) only [StLe, tmLe, Y03, hpLe, bl, bb, bt, zDs, zD, Y00, simprocAttr, swpF, Y13])
      ·rintro ⟨f1, cells1, t2⟩ ⟨hu, hp1, hd1, hn1, hL1⟩
       simp only at hu hp1 hd1 hn1 hL1 ⊢
       rw [← hu] at q5
       obtain ⟨⟨d0, dlo, dhi⟩, nums, exa⟩ := q5
       rw [hp1] at exa
       simp only [RB.hp_mk, hp1]
       have h1r := hL1.lr
       have h1c := hL1.lc
       obtain ⟨rk, hrk⟩ : ∃ r, f1.rows[f.pivots.length]? = some r := ⟨_, List.getElem?_eq_getElem (by omega)⟩
       obtain ⟨xk, hxk⟩ : ∃ x, f1.fr[f.pivots.length]? = some x := ⟨_, List.getElem?_eq_getElem (by omega)⟩
       obtain ⟨gk, hck, hRk⟩ := hL1.at_ _ xk rk hxk hrk
       have hrow : row f1.rows f.pivots.length = rk := by simp [row, hrk]
       rw [hrow] at exa
       obtain ⟨nk, nk2⟩ := nums rk (List.mem_of_getElem? hrk)
       obtain ⟨p, hp⟩ : ∃ p, rk[c]? = some p := ⟨_, List.getElem?_eq_getElem (by omega)⟩
       have hpa : Lin.at_ rk c = p := by simp [Lin.at_, hp]
       rw [hpa] at exa
       ((refine wqb (F := _∧_∧_) ⟨hck, hRk, hp⟩ ?_))
       ((refine wqa ?_))
       ((repeat refine Y01 ?_))
       refine Y0j (fun x : Hp × Nat => ⟨(9, int p) :: RB.tm m n t (t1 + 1) f.pivots.length c, RB.hp t (t1 + 1) ⟨c, { f1 with rows := (piv c f1).rows }, x.1, cells1, ga, gp, 0⟩, x.2⟩) (fun x => x.1.length = m.length ∧ LayO 4 (piv c f1).rows f1.fr cells1 x.1) ?_ ?_
       ·refine Y04 ?_
        refine Y07 (fun x : Nat × Hp × Nat => ⟨(9, int p) :: (10, int x.1) :: RB.tm m n t (t1 + 1) f.pivots.length c, RB.hp t (t1 + 1) ⟨c, { f1 with rows := mixd f1 f.pivots.length c x.1 }, x.2.1, cells1, ga, gp, 0⟩, x.2.2⟩) (fun x => f1.rows.length - x.1) (fun x => x.1 ≤ f1.rows.length ∧ x.2.1.length = m.length ∧ LayO 4 (mixd f1 f.pivots.length c x.1) f1.fr cells1 x.2.1) (0, R, t2) ⟨Nat.zero_le _, hR, by rw [Y5o]; exact hL1⟩ (by simp only [RB.hp_mk, Y5o, hp1]; (simp (disch := omega) only [StLe, tmLe, Y03, hpLe, bl, bb, bt, zDs, zD, Y00, simprocAttr])) ?_
        rintro ⟨y, R1, t3⟩ ⟨hy, hR1, hL2⟩
        simp only at hy hR1 hL2
        have hml : (mixd f1 f.pivots.length c y).length = f1.rows.length := by simp [mixd]
        simp only [RB.hp_mk, hp1, hml]
        by_cases hyN : y < f1.rows.length
        ·obtain ⟨r, hr⟩ : ∃ r, f1.rows[y]? = some r := ⟨_, List.getElem?_eq_getElem hyN⟩
         obtain ⟨x, hx⟩ : ∃ x, f1.fr[y]? = some x := ⟨_, List.getElem?_eq_getElem (by omega)⟩
         have hmy : (mixd f1 f.pivots.length c y)[y]? = some r := by rw [Y27, hr]; simp
         obtain ⟨g, hcy, hRy⟩ := hL2.at_ _ x r hx hmy
         have hxl : x < R1.length := (List.getElem?_eq_some_iff.1 hRy).1
         obtain ⟨nr, nr2⟩ := nums r (List.mem_of_getElem? hr)
         have hyM : y < m.length := by omega
         ((refine wqb (F := _∧_) ⟨@Int.ofNat_lt, hyM⟩ ?_))
         ((refine wia ?_))
         ((refine wsa ?_))
         ((repeat refine Y01 ?_))
         refine Y04 ?_
         by_cases hyk : y = f.pivots.length
         ·have e1 : ((y : Int) == (f.pivots.length : Int)) = true := by simp [hyk]
          ((refine wqb e1 ?_))
          ((refine wia ?_))
          ((refine wxa ?_))
          ((refine wqa ?_))
          refine ⟨(y + 1, R1, t3), ⟨hyN, hR1, by subst hyk; rw [Yby]; exact hL2⟩, by show f1.rows.length - (y + 1) < f1.rows.length - y; omega, ?_⟩
          simp only [RB.hp_mk, hp1, show (mixd f1 f.pivots.length c (y + 1)).length = f1.rows.length by simp [mixd]]; (simp (disch := omega) only [StLe, tmLe, Y03, hpLe, bl, bb, bt, zDs, zD, Y00, simprocAttr])
         ·have e1 : ((y : Int) == (f.pivots.length : Int)) = false := by simpa using fun h => hyk (by omega)
          ((refine wqb e1 ?_))
          ((refine wia ?_))
          ((refine wsa ?_))
          obtain ⟨b, hb⟩ : ∃ b, r[c]? = some b := ⟨_, List.getElem?_eq_getElem (by omega)⟩
          have hba : Lin.at_ r c = b := by simp [Lin.at_, hb]
          ((refine wqb (F := _∧_∧_) ⟨hcy, hRy, hb⟩ ?_))
          ((refine wqa ?_))
          have hset0 : R1.set x (some ⟨3, g, r.map int⟩) = R1 := by
           obtain ⟨a1, a2⟩ := List.getElem?_eq_some_iff.1 hRy
           rw [← a2]; exact List.set_getElem_self _
          have hmk : (mixd f1 f.pivots.length c y)[f.pivots.length]? = some rk := by rw [Y27, hrk]; simp
          obtain ⟨gk2, hck2, hRk2⟩ := hL2.at_ _ xk rk hxk hmk
          rw [hck] at hck2
          have hgk : gk2 = gk := by injection hck2 with h; injection h with _ _ h; exact h.symm
          subst hgk
          have hxne : x ≠ xk := fun e => by
           subst e
           obtain ⟨a1, a2⟩ := List.getElem?_eq_some_iff.1 hx
           obtain ⟨b1, b2⟩ := List.getElem?_eq_some_iff.1 hxk
           have hpw := List.pairwise_iff_getElem.1 hL1.nd
           rcases Nat.lt_or_gt_of_ne hyk with hlt' | hlt'
           ·exact hpw y _ a1 b1 hlt' (a2.trans b2.symm)
           ·exact hpw _ y b1 a1 hlt' (b2.trans a2.symm)
          have hrowy : row f1.rows y = r := by simp [row, hr]
          let q := Y1g p b f1.den rk r
          have hql : q.length = w := by simp only [q, Y1g, List.length_zipWith, nr, nk, Nat.min_self]
          let cur : Nat → List Int := fun j => q.take j ++ r.drop j
          have hcl : ∀ j, j ≤ w → (cur j).length = w := fun j hj => by simp only [cur, List.length_append, List.length_take, List.length_drop, hql, nr]; omega
          refine Y04 ?_
          refine Y07 (fun z : Nat × Nat => ⟨(9, int p) :: (10, int y) :: (11, int b) :: (12, int z.1) :: RB.tm m n t (t1 + 1) f.pivots.length c, RB.hp t (t1 + 1) ⟨c, { f1 with rows := mixd f1 f.pivots.length c y }, R1.set x (some ⟨3, g, (cur z.1).map int⟩), cells1, ga, gp, 0⟩, z.2⟩) (fun z => w - z.1) (fun z => z.1 ≤ w) (0, t3) (Nat.zero_le _) (by simp only [RB.hp_mk, hp1, hml, cur, List.take_zero, List.drop_zero, List.nil_append, hset0]; (simp (disch := omega) only [StLe, tmLe, Y03, hpLe, bl, bb, bt, zDs, zD, Y00, simprocAttr])) ?_
          rintro ⟨j, t4⟩ hj
          simp only at hj
          simp only [RB.hp_mk, hp1, hml]
          have hRs : (R1.set x (some ⟨3, g, (cur j).map int⟩))[x]? = some (some ⟨3, g, (cur j).map int⟩) := by rw [List.getElem?_set_self hxl]
          have hcl2 := hcl j hj
          by_cases hjw : j < w
          ·((refine wqb (F := _∧_∧_∧_∧_) ⟨@Int.ofNat_lt, hjw, hcy, hRs, nr⟩ ?_))
           ((refine wia ?_))
           ((refine wsa ?_))
           ((repeat refine Y01 ?_))
           refine Y04 ?_
           obtain ⟨a, ha⟩ : ∃ a, r[j]? = some a := ⟨_, List.getElem?_eq_getElem (by omega)⟩
           obtain ⟨d, hd⟩ : ∃ d, rk[j]? = some d := ⟨_, List.getElem?_eq_getElem (by omega)⟩
           have haa : Lin.at_ r j = a := by simp [Lin.at_, ha]
           have hda : Lin.at_ rk j = d := by simp [Lin.at_, hd]
           have hcj : (cur j)[j]? = some a := by
            simp only [cur]
            rw [List.getElem?_append_right (by simp; omega), List.length_take, hql, Nat.min_eq_left (by omega), Nat.sub_self, List.getElem?_drop]; exact ha
           have hRks : (R1.set x (some ⟨3, g, (cur j).map int⟩))[xk]? = some (some ⟨3, gk2, rk.map int⟩) := by rw [List.getElem?_set_ne hxne]; exact hRk2
           obtain ⟨qj, hq1, hq2, hq3⟩ := exa y j hyN hyk (by omega)
           rw [hrowy, hba, haa, hda] at hq1
           have hqj : q[j]? = some qj := by
            have h1 : (Y1g p b f1.den rk r)[j]? = some ((a * p - b * d) / f1.den) := by
             unfold Y1g
             rw [List.getElem?_zipWith, ha, hd]
            show (Y1g p b f1.den rk r)[j]? = _
            rw [h1, hq1, Int.mul_ediv_cancel _ d0]
           ((repeat refine Y01 ?_); (refine Y0a tab_ok Y08 0 fun KR hKR => ?_); simp only [List.replicate_succ, List.replicate_zero, List.append_nil, List.nil_append, List.cons_append, List.length_cons, List.length_nil, Nat.reduceAdd])
           ((refine wdb (F := _∧_∧_∧_∧_∧_∧_) ⟨hRs, hRks, hcj, hd, hck, hcy, nr⟩ ?_))
           ((first | refine Y19 fun KK hKK => ?_ | refine Y1a rfl fun KK hKK => ?_); simp (disch := omega) only [bb, bt, zDs, zD, Y00, simprocAttr, goCDS, Y0e, argsZ, argsD, ufa, uf]; refine PGive.ret (cross a b d p f1.den (nr2 a (List.mem_of_getElem? ha)) (nr2 b (List.mem_of_getElem? hb)) (nk2 d (List.mem_of_getElem? hd)) (nk2 p (List.mem_of_getElem? hp)) ⟨dlo, dhi⟩ d0 qj hq1 ⟨hq2, hq3⟩) ?_; simp (disch := omega) only [bb, bt, zDs, zD, Y00, simprocAttr, Y0x]; refine hKK _ _ _ ?_; clear hKK KK)
           ((refine wdb (F := _∧_∧_) ⟨hRs, hcl2, hjw⟩ ?_))
           have hcs : ((cur j).map int).set j (int qj) = (cur (j + 1)).map int := by
            rw [← List.map_set]
            congr 1
            simp only [cur]
            rw [List.take_add_one, hqj, show r.drop j = a :: r.drop (j + 1) by obtain ⟨a1, a2⟩ := List.getElem?_eq_some_iff.1 ha; rw [List.drop_eq_getElem_cons a1, a2]]
            rw [List.set_append_right _ _ (by simp; omega), List.length_take, hql, Nat.min_eq_left (by omega), Nat.sub_self]
            simp
           ((refine Y0n ?_); simp only [List.reverse_cons, List.reverse_nil, List.nil_append, List.cons_append]; (refine hKR _ _ (by exact Y3o (clamp 4) (by kernel_rfl)) ?_); (try clear hKR KR); (repeat (with_reducible first | refine q1 ?_ | refine q2 ?_ | refine q3 ?_ | refine q4 ?_ | refine q5 ?_ | refine q6 ?_ | (refine q7 ?_ ?_; (focus (with_unfolding_all rfl))))))
           rw [List.set_set, hcs]
           ((refine wqa ?_))
           refine ⟨(j + 1, t4 + 1), (by show j + 1 ≤ w; omega), by show w - (j + 1) < w - j; omega, ?_⟩
           simp only [RB.hp_mk, hp1, hml]; (simp (disch := omega) only [StLe, tmLe, Y03, hpLe, bl, bb, bt, zDs, zD, Y00, simprocAttr])
          ·have hjw' : j = w := by omega
           subst hjw'
           have hcw : cur j = q := by simp only [cur]; rw [List.take_of_length_le (by omega), List.drop_eq_nil_of_le (by omega), List.append_nil]
           ((refine wqb (F := _∧_∧_∧_) ⟨@Int.lt_irrefl, hcy, hRs, nr⟩ ?_))
           ((refine wia ?_))
           ((refine wxa ?_))
           rw [hcw]
           ((refine wqa ?_))
           refine ⟨(y + 1, R1.set x (some ⟨3, g, q.map int⟩), t4), ⟨hyN, by simp [hR1], ?_⟩, by show f1.rows.length - (y + 1) < f1.rows.length - y; omega, ?_⟩
           ·rw [Ybx f1 f.pivots.length c y hyk hr, hrow, hpa, hba]
            exact hL2.set hx hmy hRy (by rw [hql, nr])
           ·simp only [RB.hp_mk, hp1, show (mixd f1 f.pivots.length c (y + 1)).length = f1.rows.length by simp [mixd]]; (simp (disch := omega) only [StLe, tmLe, Y03, hpLe, bl, bb, bt, zDs, zD, Y00, simprocAttr])
        ·have hyN' : y = m.length := by omega
         subst hyN'
         ((refine wqb @Int.lt_irrefl ?_))
         ((refine wia ?_))
         ((refine wxa ?_))
         have hme := Yds f1 c
         rw [hp1, show f1.rows.length = m.length by omega] at hme
         refine ⟨(R1, t3), ⟨hR1, by rw [← hme]; exact hL2⟩, ?_⟩
         simp only [RB.hp_mk, hp1, show (piv c f1).rows.length = f1.rows.length by simp [piv], hme]; (simp (disch := omega) only [StLe, tmLe, Y03, hpLe, bl, bb, bt, zDs, zD, Y00, simprocAttr])
       ·rintro ⟨R1, t3⟩ ⟨hR1, hL2⟩
        simp only at hR1 hL2
        simp only [RB.hp_mk, hp1]
        ((refine wqa ?_))
        ((refine wqa ?_))
        ((refine wqa ?_))
        ((refine wqa ?_))
        refine ⟨⟨c + 1, piv c f1, R1, cells1, ga, t3 + 1, t3 + 1⟩, ⟨hlt, ?_, hR1, ?_⟩, by show n - (c + 1) < n - c; omega, ?_⟩
        ·simp only [Y18, ← hf', colBy, hfd, ← hu]
        ·exact hL2
        ·rw [RB.st_mk, RB.hp_mk]
         simp only [piv, hp1, hrow, hpa, List.map_append, List.length_append]
         (simp (disch := omega) only [StLe, tmLe, Y03, hpLe, bl, bb, bt, zDs, zD, Y00, simprocAttr])
     ·rw [RB.hp_mk]
      have e0 : ((m.length : Int) == (m.length : Int)) = true := by simp
      ((refine wqb e0 ?_))
      ((refine wia ?_))
      ((refine wxa ?_))
      ((refine wqa ?_))
      refine ⟨⟨c + 1, f, R, cells, ga, gp, tt⟩, ⟨hlt, ?_, hR, hL⟩, by show n - (c + 1) < n - c; omega, ?_⟩
      ·simp only [Y18, ← hf', colBy, hfd]
      ·rw [RB.st_mk, RB.hp_mk]; (simp (disch := omega) only [StLe, tmLe, Y03, hpLe, bl, bb, bt, zDs, zD, Y00, simprocAttr])
   ·((refine wqb (F := _∧_∧_) ⟨@Int.ofNat_lt, hlt, hfull⟩ ?_))
    ((refine wia ?_))
    ((refine wxa ?_))
    refine ⟨⟨c, f, R, cells, ga, gp, tt⟩, ⟨?_, hL⟩, ?_⟩
    ·rw [hf', show n = c + (n - c) by omega]
     exact (Y8g (by rw [← hf']; omega) _).symm
    ·rw [RB.st_mk, RB.hp_mk]; (simp (disch := omega) only [StLe, tmLe, Y03, hpLe, bl, bb, bt, zDs, zD, Y00, simprocAttr])
  ·((refine wqb (F := _∧_) ⟨@Int.ofNat_lt, hlt⟩ ?_))
   ((refine wia ?_))
   ((refine wxa ?_))
   have hcn : c = n := by omega
   subst hcn
   refine ⟨⟨c, f, R, cells, ga, gp, tt⟩, ⟨hf', hL⟩, ?_⟩
   rw [RB.st_mk, RB.hp_mk]; (simp (disch := omega) only [StLe, tmLe, Y03, hpLe, bl, bb, bt, zDs, zD, Y00, simprocAttr])
 ·rintro ⟨c, f, R, cells, ga, gp, tt⟩ ⟨hf', hL⟩
  simp only at hf' hL
  rw [RB.st_mk, RB.hp_mk]
  have h1 := hL.lr
  have h2 := hL.lc
  ((refine wqa ?_))
  ((repeat refine Y01 ?_); (refine wta ?_); simp (disch := omega) only [retQ, resD, oneD, bb, bt, zDs, zD, Y00, simprocAttr, Tryz.results132])
  have hnat : ∀ (H : Hp) (l : List Nat), (natE l).map (rsv H 2) = natE l := fun H l => by
   induction l with
   | nil => rfl
   | cons x l ih => simp only [natE, List.map_cons] at ih ⊢; rw [ih]; rfl
  have hread : ∀ (b0 b1 b2 b3 : Option Blk), cells.map (rsv (b0 :: b1 :: b2 :: b3 :: R) 2) = f.rows.map ints := fun b0 b1 b2 b3 => by
   apply List.ext_getElem?
   intro i
   by_cases hi : i < f.fr.length
   ·obtain ⟨x, hx⟩ : ∃ x, f.fr[i]? = some x := ⟨_, List.getElem?_eq_getElem hi⟩
    obtain ⟨r, hr⟩ : ∃ r, f.rows[i]? = some r := ⟨_, List.getElem?_eq_getElem (by omega)⟩
    obtain ⟨g, k1, k2⟩ := hL.at_ i x r hx hr
    rw [List.getElem?_map, List.getElem?_map, k1, hr]
    simp only [Option.map_some, rsv, rs]
    have e : (b0 :: b1 :: b2 :: b3 :: R)[x + 4]? = R[x]? := by simp
    rw [e, k2]
    simp only [List.length_map, Nat.zero_add, Nat.mul_one, Nat.le_refl, and_self, if_true, List.drop_zero]
    rw [List.take_of_length_le (by simp), List.map_map]
    congr 1
   ·rw [List.getElem?_eq_none (by simp; omega), List.getElem?_eq_none (by simp; omega)]
  show rs (rsv _ 2) _ _ = _
  simp only [rs, rsL, List.getElem?_cons_zero, List.getElem?_cons_succ, List.length_map, List.drop_zero, Nat.zero_add, Nat.mul_one, h1, h2, Nat.le_refl, and_self, if_true]
  rw [List.take_of_length_le (by omega), List.take_of_length_le (by simp), hread, hnat]
  subst hf'
  rfl
end Go.Proofs.YtpcakodemleoiaaGreat.T

