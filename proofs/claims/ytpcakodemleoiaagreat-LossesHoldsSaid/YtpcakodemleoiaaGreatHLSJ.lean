import Derived.Test.YtpcakodemleoiaaGreatHTB
import Derived.Test.YtpcakodemleoiaaGreatHLSA
import Derived.Test.YtpcakodemleoiaaGreatHWOP
import Derived.Test.YtpcakodemleoiaaGreatHWRS
set_option linter.all false
section
namespace Go.Proofs.YtpcakodemleoiaaGreat.T
open Go Go.RowKit Lin
end Go.Proofs.YtpcakodemleoiaaGreat.T
end
section
namespace Go.Proofs.YtpcakodemleoiaaGreat.T
open Go Go.RowKit Lin
theorem natE_ints (l : List Nat) : natE l = (l.map fun x : Nat => (x : Int)).map int := by rw [List.map_map]; rfl
abbrev refB (f : Frm) (g : Nat) : Option Blk := some ⟨155, g, [mat f.rows, ints (f.pivots.map fun x : Nat => (x : Int)), int f.den, bool f.turned]⟩
end Go.Proofs.YtpcakodemleoiaaGreat.T
end
section
namespace Go.Proofs.YtpcakodemleoiaaGreat.T
open Go Go.RowKit Lin
structure Nx (l : List Nat) (c nx : Nat) : Prop where
 le : nx ≤ l.length
 lt : ∀ j p, l[j]? = some p → (j < nx ↔ p < c)
theorem Nx.zero (l : List Nat) : Nx l 0 0 := ⟨Nat.zero_le _, fun j p _ => by omega⟩
theorem Nx.hit {l : List Nat} {c nx : Nat} (hs : l.Pairwise (· < ·)) (h : Nx l c nx) (hp : l[nx]? = some c) : l.contains c = true ∧ Nx l (c + 1) (nx + 1) := by
 have hl := (List.getElem?_eq_some_iff.1 hp).1
 refine ⟨List.contains_iff_mem.2 (List.mem_of_getElem? hp), hl, fun j p hj => ?_⟩
 have h1 := h.lt j p hj
 rcases Nat.lt_trichotomy j nx with hlt | rfl | hgt
 ·have := h1.1 hlt; omega
 ·rw [hp] at hj; cases hj; omega
 ·obtain ⟨a1, a2⟩ := List.getElem?_eq_some_iff.1 hp
  obtain ⟨b1, b2⟩ := List.getElem?_eq_some_iff.1 hj
  have := List.pairwise_iff_getElem.1 hs nx j a1 b1 hgt
  omega
theorem Nx.miss {l : List Nat} {c nx : Nat} (hs : l.Pairwise (· < ·)) (h : Nx l c nx) (hp : ∀ p, l[nx]? = some p → p ≠ c) : l.contains c = false ∧ Nx l (c + 1) nx := by
 have key : ∀ j p, l[j]? = some p → nx ≤ j → c < p := fun j p hj hle => by
  have h1 := h.lt j p hj
  obtain ⟨b1, b2⟩ := List.getElem?_eq_some_iff.1 hj
  have hn : nx < l.length := by omega
  have hq : l[nx]? = some l[nx] := List.getElem?_eq_getElem hn
  have h2 := hp _ hq
  have h3 := h.lt nx _ hq
  rcases Nat.lt_or_eq_of_le hle with hlt | rfl
  ·have := List.pairwise_iff_getElem.1 hs nx j hn b1 hlt
   omega
  ·rw [hj] at hq; cases hq; omega
 refine ⟨?_, h.le, fun j p hj => ?_⟩
 ·rw [← Bool.not_eq_true, List.contains_iff_mem]
  intro hm
  obtain ⟨j, hj⟩ := List.mem_iff_getElem?.1 hm
  by_cases hlt : j < nx
  ·have := (h.lt j c hj).1 hlt; omega
  ·have := key j c hj (by omega); omega
 ·have h1 := h.lt j p hj
  by_cases hlt : j < nx
  ·have := h1.1 hlt; omega
  ·have := key j p hj (by omega); omega
def fillF (n k : Nat) : List (Int × Int) := List.replicate k (0, 1) ++ List.replicate (n - k) (0, 0)
theorem Y5v {n k : Nat} (h : k ≤ n) : (fillF n k).length = n := by simp [fillF]; omega
theorem fillF_set {n k : Nat} (h : k < n) : (fillF n k).set k (0, 1) = fillF n (k + 1) := by
 unfold fillF
 rw [List.set_append_right _ _ (by simp)]
 obtain ⟨j, hj⟩ : ∃ j, n - k = j + 1 := ⟨n - k - 1, by omega⟩
 rw [hj, show n - (k + 1) = j by omega, List.replicate_succ' (n := k), List.replicate_succ (n := j)]
 simp
theorem fillF_end (n : Nat) : fillF n n = List.replicate n (0, 1) := by simp [fillF]
theorem fillF_zero (n : Nat) : fillF n 0 = List.replicate n (0, 0) := by simp [fillF]
structure NR where
 c : Nat
 nx : Nat
 g : Nat
 t : Nat
def NR.st (f : Frm) (n g0 : Nat) (x : NR) : St := ⟨[(3, int n), (4, .ptr 0 g0 0), (5, .own 1 1 x.g 0 (nulls f n x.c).length), (6, int x.nx), (7, int x.c)], [refB f g0, some ⟨28, x.g, (nulls f n x.c).map frs⟩], x.t⟩
theorem NR.st_mk (f : Frm) (n g0 c nx g t : Nat) : NR.st f n g0 ⟨c, nx, g, t⟩ = ⟨[(3, int n), (4, .ptr 0 g0 0), (5, .own 1 1 g 0 (nulls f n c).length), (6, int nx), (7, int c)], [refB f g0, some ⟨28, g, (nulls f n c).map frs⟩], t⟩ := rfl
set_option maxHeartbeats 2000000 in
theorem refNull (m : List (List Int)) (hv : Y12 m = true) : PRet Tryz.prog 117 [mat m] (frss (nulls (Y18 mvR m (wid m)) (wid m) (wid m))) := by
 refine PRet.intro 3 fun t => ACall.enter tab_ok Tryz.func117 rfl rfl Tryz.ntmps117 (by simp) ?_
 simp only [Y06]
 obtain ⟨h1, h2, h3⟩ := Y0y.1 hv
 obtain ⟨r0, m', hm0⟩ : ∃ r0 m', m = r0 :: m' := by
  cases m with
  | nil => simp at h1
  | cons a b => exact ⟨a, b, rfl⟩
 have hwd : wid m = r0.length := by rw [hm0]; rfl
 have hat0 : m[0]? = some r0 := by rw [hm0]; rfl
 have hpos : 0 < m.length := by omega
 have hsm := Y2t hv
 have hc := refElimC m hsm (by omega) (by omega)
 have hinv := Y1i (Y5n m (wid m)) hsm.lens (wid m) (Nat.le_refl _)
 have hin2 := hinv.small2 hsm (Nat.le_refl _)
 have hdn2 := hinv.den_small2 hsm (Nat.le_refl _)
 have hfr := hinv.nr
 have hfk := hinv.k_le
 have hfl := hinv.lens
 have hnd := hinv.nd
 generalize Y18 mvR m (wid m) = f at *
 have hn12 : wid m ≤ 12 := h2.2
 ((refine wqa ?_))
 ((refine wqb (F := _∧_∧_) ⟨hat0, hpos, (hwd).symm⟩ ?_))
 ((repeat refine Y01 ?_); (refine Y05 tab_ok fun KR hKR => ?_)); ((refine wra ?_))
 ((refine wka1 hc ?_))
 ((repeat ((first | refine Y0r rfl fun KK hKK => ?_ | refine Y0s rfl rfl fun KK hKK => ?_ | refine Y0c rfl fun KK hKK => ?_); simp (disch := omega) only [bb, bt, zDs, zD, Y00, simprocAttr, FormD, natE_ints]; refine hKK _ ?_; clear hKK KK))); ((refine wea ?_); (try clear hKR KR))
 ((refine wqa ?_))
 refine AW.begin 5 1 28 rfl (by omega) ?_
 (simp (disch := omega) only [bb, bt, zDs, zD, Y00, simprocAttr])
 ((refine wqa ?_))
 ((refine wqa ?_))
 ((repeat refine Y01 ?_))
 refine Y0j (NR.st f (wid m) (t + 1)) (fun x => x.c = wid m) ?_ ?_
 ·refine Y04 ?_
  refine Y07 (NR.st f (wid m) (t + 1)) (fun x => wid m - x.c) (fun x => x.c ≤ wid m ∧ Nx f.pivots x.c x.nx) ⟨0, 0, t + 1 + 1, t + 1 + 1⟩ ⟨Nat.zero_le _, Nx.zero _⟩ (by rw [NR.st_mk]; (simp (disch := omega) only [StLe, tmLe, Y03, hpLe, bl, bb, bt, zDs, zD, Y00, simprocAttr, nulls])) ?_
  rintro ⟨c, nx, g, tt⟩ ⟨hcn, hnx⟩
  simp only at hcn hnx
  rw [NR.st_mk]
  by_cases hlt : c < wid m
  ·((refine ggb0 (F := _∧_) ⟨@Int.ofNat_lt, hlt⟩ ?_))
   ((repeat refine Y01 ?_))
   refine Y04 ?_
   by_cases hhit : f.pivots[nx]? = some c
   ·obtain ⟨hcc, hnx'⟩ := hnx.hit hnd hhit
    have hnl := (List.getElem?_eq_some_iff.1 hhit).1
    have hb := hnx'.le
    ((refine ggb0 (F := _∧_∧_) ⟨@Int.ofNat_lt, hnl, hhit⟩ ?_))
    refine ⟨⟨c + 1, nx + 1, g, tt⟩, ⟨hlt, hnx'⟩, by show wid m - (c + 1) < wid m - c; omega, ?_⟩
    rw [NR.st_mk]
    have e : nulls f (wid m) (c + 1) = nulls f (wid m) c := by simp only [nulls, hcc, if_true]
    rw [e]
    (simp (disch := omega) only [StLe, tmLe, Y03, hpLe, bl, bb, bt, zDs, zD, Y00, simprocAttr])
   ·obtain ⟨hcc, hnx'⟩ := hnx.miss hnd (fun p hp e => hhit (by rw [hp, e]))
    have hle := hnx.le
    refine Yer (fun _ : Unit => ⟨[(3, int (wid m)), (4, .ptr 0 (t + 1) 0), (5, .own 1 1 g 0 (nulls f (wid m) c).length), (6, int nx), (7, int c)], [refB f (t + 1), some ⟨28, g, (nulls f (wid m) c).map frs⟩], tt⟩) (fun _ => True) ?_ ?_
    ·by_cases hnl : nx < f.pivots.length
     ·obtain ⟨p, hp⟩ : ∃ p, f.pivots[nx]? = some p := ⟨_, List.getElem?_eq_getElem hnl⟩
      have hpc : ((p : Int) == (c : Int)) = false := by
       have : p ≠ c := fun e => hhit (by rw [hp, e])
       simp; omega
      ((refine ggb0 (F := _∧_∧_∧_) ⟨@Int.ofNat_lt, hnl, hp, hpc⟩ ?_))
      exact ⟨(), trivial, by (simp (disch := omega) only [StLe, tmLe, Y03, hpLe, bl, bb, bt, zDs, zD, Y00, simprocAttr])⟩
     ·((refine ggb0 (F := _∧_) ⟨@Int.ofNat_lt, hnl⟩ ?_))
      exact ⟨(), trivial, by (simp (disch := omega) only [StLe, tmLe, Y03, hpLe, bl, bb, bt, zDs, zD, Y00, simprocAttr])⟩
    rintro _ -
    have hn1 : ((wid m : Nat) : Int) ≤ 12 := by omega
    ((refine gga0 ?_))
    have hfz : (List.replicate (wid m) [int 0, int 0]).flatten = frC (fillF (wid m) 0) := by
     rw [fillF_zero]; exact Y7p 0 0 (wid m)
    rw [hfz]
    ((repeat refine Y01 ?_))
    refine Y0j (fun x : Nat => ⟨[(3, int (wid m)), (4, .ptr 0 (t + 1) 0), (5, .own 1 1 g 0 (nulls f (wid m) c).length), (6, int nx), (7, int c), (8, .own 2 2 (tt + 1) 0 (wid m))], [refB f (t + 1), some ⟨28, g, (nulls f (wid m) c).map frs⟩, some ⟨33, tt + 1, frC (fillF (wid m) (wid m))⟩], x⟩) (fun _ => True) ?_ ?_
    ·refine Y04 ?_
     refine Y07 (fun x : Nat × Nat => ⟨[(3, int (wid m)), (4, .ptr 0 (t + 1) 0), (5, .own 1 1 g 0 (nulls f (wid m) c).length), (6, int nx), (7, int c), (8, .own 2 2 (tt + 1) 0 (wid m)), (9, int x.1)], [refB f (t + 1), some ⟨28, g, (nulls f (wid m) c).map frs⟩, some ⟨33, tt + 1, frC (fillF (wid m) x.1)⟩], x.2⟩) (fun x => wid m - x.1) (fun x => x.1 ≤ wid m) (0, tt + 1) (Nat.zero_le _) (by (simp (disch := omega) only [StLe, tmLe, Y03, hpLe, bl, bb, bt, zDs, zD, Y00, simprocAttr])) ?_
     rintro ⟨k, t3⟩ hk
     simp only at hk
     by_cases hkn : k < wid m
     ·have hl0 := Y0o (fillF (wid m) k)
      rw [Y5v hk] at hl0
      have hle0 : k * 2 + 2 ≤ wid m * 2 := by omega
      have hset0 := Y50 (fillF (wid m) k) k 0 1 (by rw [Y5v hk]; exact hkn)
      rw [fillF_set hkn] at hset0
      simp only [List.append_assoc, List.cons_append, List.nil_append] at hset0
      ((refine ggb0 (F := _∧_) ⟨@Int.ofNat_lt, hkn⟩ ?_))
      ((repeat refine Y01 ?_))
      refine Y04 ?_
      ((refine ggb1 (F := _∧_∧_∧_) ⟨hl0, hkn, hle0, hset0⟩ (refOf 0) ?_))
      refine ⟨(k + 1, t3), hkn, by show wid m - (k + 1) < wid m - k; omega, ?_⟩
      (simp (disch := omega) only [StLe, tmLe, Y03, hpLe, bl, bb, bt, zDs, zD, Y00, simprocAttr])
     ·have hkn' : k = wid m := by omega
      subst hkn'
      ((refine ggb0 @Int.lt_irrefl ?_))
      exact ⟨t3, trivial, by (simp (disch := omega) only [StLe, tmLe, Y03, hpLe, bl, bb, bt, zDs, zD, Y00, simprocAttr])⟩
    rintro t3 -
    have hl0 := Y0o (fillF (wid m) (wid m))
    rw [Y5v (Nat.le_refl _)] at hl0
    have hle0 : c * 2 + 2 ≤ wid m * 2 := by omega
    have hset0 := Y50 (fillF (wid m) (wid m)) c 1 1 (by rw [Y5v (Nat.le_refl _)]; exact hlt)
    rw [fillF_end] at hset0 hl0 ⊢
    rw [show (List.replicate (wid m) ((0 : Int), (1 : Int))).set c (1, 1) = nvec f (wid m) c 0 from rfl] at hset0
    simp only [List.append_assoc, List.cons_append, List.nil_append] at hset0
    ((refine ggb1 (F := _∧_∧_∧_) ⟨hl0, hlt, hle0, hset0⟩ (refOf 1) ?_))
    have hnl := Y5l f (wid m) c
    ((repeat refine Y01 ?_))
    refine Y0j (fun x : Hp × Nat => ⟨[(3, int (wid m)), (4, .ptr 0 (t + 1) 0), (5, .own 1 1 g 0 (nulls f (wid m) c).length), (6, int nx), (7, int c), (8, .own 2 2 (tt + 1) 0 (wid m))], refB f (t + 1) :: some ⟨28, g, (nulls f (wid m) c).map frs⟩ :: some ⟨33, tt + 1, frC (nvec f (wid m) c f.pivots.length)⟩ :: x.1, x.2⟩) (fun _ => True) ?_ ?_
    ·refine Y04 ?_
     refine Y07 (fun x : Nat × Hp × Nat => ⟨[(3, int (wid m)), (4, .ptr 0 (t + 1) 0), (5, .own 1 1 g 0 (nulls f (wid m) c).length), (6, int nx), (7, int c), (8, .own 2 2 (tt + 1) 0 (wid m)), (10, int x.1)], refB f (t + 1) :: some ⟨28, g, (nulls f (wid m) c).map frs⟩ :: some ⟨33, tt + 1, frC (nvec f (wid m) c x.1)⟩ :: x.2.1, x.2.2⟩) (fun x => f.pivots.length - x.1) (fun x => x.1 ≤ f.pivots.length) (0, [], t3) (Nat.zero_le _) (by (simp (disch := omega) only [StLe, tmLe, Y03, hpLe, bl, bb, bt, zDs, zD, Y00, simprocAttr])) ?_
     rintro ⟨k, R, t4⟩ hk
     simp only at hk
     by_cases hkn : k < f.pivots.length
     ·have hkr2 : k < f.rows.length := by omega
      obtain ⟨rk, hrk⟩ : ∃ r, f.rows[k]? = some r := ⟨_, List.getElem?_eq_getElem hkr2⟩
      obtain ⟨pk, hpk⟩ : ∃ r, f.pivots[k]? = some r := ⟨_, List.getElem?_eq_getElem hkn⟩
      have hplt : pk < wid m := hinv.lt pk (List.mem_of_getElem? hpk)
      have hrl3 := hfl rk (List.mem_of_getElem? hrk)
      have hcw : c < rk.length := by omega
      obtain ⟨v, hv3⟩ : ∃ v, rk[c]? = some v := ⟨_, List.getElem?_eq_getElem hcw⟩
      have hrow : Lin.row f.rows k = rk := by simp [Lin.row, hrk]
      have hat : Lin.at_ rk c = v := by simp [Lin.at_, hv3]
      have hb := hin2 k c hkn hlt
      rw [hrow, hat] at hb
      have hmk := refMake (-v) f.den (by omega) (by omega)
      have hnv : nvec f (wid m) c (k + 1) = (nvec f (wid m) c k).set pk (makeP (-v) f.den).1 := by
       simp only [nvec, hpk, hrow, hat, Option.getD_some]
      have hvl := Y4h f (wid m) c k
      have hfl2 := Y0o (nvec f (wid m) c k)
      rw [hvl] at hfl2
      have hset1 := Y50 (nvec f (wid m) c k) pk (makeP (-v) f.den).1.1 (makeP (-v) f.den).1.2 (by omega)
      have hset1 := hset1.trans (congrArg frC hnv.symm)
      simp only [List.append_assoc, List.cons_append, List.nil_append] at hset1
      clear hnv
      generalize makeP (-v) f.den = p at *
      have hle1 : pk * 2 + 2 ≤ wid m * 2 := by omega
      have hget : ∀ B : Blk, (R ++ [some B])[R.length]? = some (some B) := fun B => by rw [List.getElem?_append_right (by simp)]; simp
      have hset : ∀ B B' : Option Blk, (R ++ [B]).set R.length B' = R ++ [B'] := fun B B' => by rw [List.set_append_right _ _ (by simp)]; simp
      ((refine ggb0 (F := _∧_) ⟨@Int.ofNat_lt, hkn⟩ ?_))
      ((repeat refine Y01 ?_))
      refine Y04 ?_
      ((repeat refine Y01 ?_)); ((repeat refine Y01 ?_); (refine Y0a tab_ok Y08 1 fun KR hKR => ?_); simp only [List.replicate_succ, List.replicate_zero, List.append_nil, List.nil_append, List.cons_append, List.length_cons, List.length_nil, Nat.reduceAdd])
      ((refine wdb (F := _∧_∧_∧_) ⟨hkr2, hrk, hcw, hv3⟩ ?_))
      ((first | refine Y19 fun KK hKK => ?_ | refine Y1a rfl fun KK hKK => ?_); simp (disch := omega) only [bb, bt, zDs, zD, Y00, simprocAttr, goCDS, Y0e, argsZ, argsD, ufa, uf]; refine PGive.ret (hmk) ?_; simp (disch := omega) only [bb, bt, zDs, zD, Y00, simprocAttr, Y0x]; refine hKK _ _ _ ?_; clear hKK KK)
      ((refine wdb (F := _∧_) ⟨hget, hset⟩ ?_))
      ((refine Y0n ?_); simp only [List.reverse_cons, List.reverse_nil, List.nil_append, List.cons_append]; (refine hKR _ _ (by exact Y3o (clamp 3) (by kernel_rfl)) ?_); (try clear hKR KR); (repeat (with_reducible first | refine q1 ?_ | refine q2 ?_ | refine q3 ?_ | refine q4 ?_ | refine q5 ?_ | refine q6 ?_ | (refine q7 ?_ ?_; (focus (with_unfolding_all rfl))))))
      ((repeat refine Y01 ?_)); ((repeat refine Y01 ?_); (refine Y0a tab_ok Y08 0 fun KR hKR => ?_); simp only [List.replicate_succ, List.replicate_zero, List.append_nil, List.nil_append, List.cons_append, List.length_cons, List.length_nil, Nat.reduceAdd])
      ((refine wdb (F := _∧_∧_∧_∧_∧_∧_∧_) ⟨hkn, hpk, hget, hset, hfl2, hplt, hle1, hset1⟩ ?_))
      ((refine Y0n ?_); simp only [List.reverse_cons, List.reverse_nil, List.nil_append, List.cons_append]; (refine hKR _ _ (by exact Y3o (clamp 3) (by kernel_rfl)) ?_); (try clear hKR KR); (repeat (with_reducible first | refine q1 ?_ | refine q2 ?_ | refine q3 ?_ | refine q4 ?_ | refine q5 ?_ | refine q6 ?_ | (refine q7 ?_ ?_; (focus (with_unfolding_all rfl))))))
      ((refine gga0 ?_))
      refine ⟨(k + 1, R ++ [some ⟨33, t4 + 1, [int p.1.1, int p.1.2]⟩], t4 + 1 + 1), hkn, by show f.pivots.length - (k + 1) < f.pivots.length - k; omega, ?_⟩
      (simp (disch := omega) only [StLe, tmLe, Y03, hpLe, bl, bb, bt, zDs, zD, Y00, simprocAttr])
     ·have hkn' : k = f.pivots.length := by omega
      subst hkn'
      ((refine ggb0 @Int.lt_irrefl ?_))
      exact ⟨(R, t4), trivial, by (simp (disch := omega) only [StLe, tmLe, Y03, hpLe, bl, bb, bt, zDs, zD, Y00, simprocAttr])⟩
    ·rintro ⟨R, t4⟩ -
     refine AW.tail 1 [refB f (t + 1), some ⟨28, g, (nulls f (wid m) c).map frs⟩] (some ⟨33, tt + 1, frC (nvec f (wid m) c f.pivots.length)⟩ :: R) rfl ?_
     simp only [zT, zH, List.map_cons, List.map_nil, Option.map_some, Ygh, Yd0, zv_v, List.length_nil, List.length_cons, List.map_map]
     have hmm : (zv 2 (some ⟨33, tt + 1, frC (nvec f (wid m) c f.pivots.length)⟩ :: R) 1 ∘ frs) = frs := funext fun l => Ygi _ _ _ _
     rw [hmm]
     have hvl := Y4h f (wid m) c f.pivots.length
     have hfl2 := Y0o (nvec f (wid m) c f.pivots.length)
     rw [hvl] at hfl2
     have hz : zv 2 (some ⟨33, tt + 1, frC (nvec f (wid m) c f.pivots.length)⟩ :: R) 1 (.own 2 2 (tt + 1) 0 (wid m)) = frs (nvec f (wid m) c f.pivots.length) := by
      simp only [zv, zz]
      simp only [Nat.lt_irrefl, if_false, Nat.sub_self, List.getElem?_cons_zero, Nat.zero_add, hfl2, Nat.le_refl, and_self, if_true, List.drop_zero]
      rw [List.take_of_length_le (by omega)]
      simp
     have hz2 : zv 2 (some ⟨33, tt + 1, frC (nvec f (wid m) c f.pivots.length)⟩ :: R) 1 (.own 1 1 g 0 (nulls f (wid m) c).length) = .own 1 1 g 0 (nulls f (wid m) c).length := by simp [zv, zz]
     have hz3 : zv 2 (some ⟨33, tt + 1, frC (nvec f (wid m) c f.pivots.length)⟩ :: R) 1 (.ptr 0 (t + 1) 0) = .ptr 0 (t + 1) 0 := by simp [zv, zz]
     rw [hz, hz2, hz3]
     have hnu : nulls f (wid m) (c + 1) = nulls f (wid m) c ++ [nvec f (wid m) c f.pivots.length] := by simp only [nulls, hcc]; rfl
     ((refine gga0 ?_))
     refine ⟨⟨c + 1, nx, t4 + 1, t4 + 1⟩, ⟨hlt, hnx'⟩, by show wid m - (c + 1) < wid m - c; omega, ?_⟩
     rw [NR.st_mk]
     simp only [hnu, List.map_append, List.length_append, List.map_cons, List.map_nil, List.length_cons, List.length_nil]
     (simp (disch := omega) only [StLe, tmLe, Y03, hpLe, bl, bb, bt, zDs, zD, Y00, simprocAttr])
  ·have hke : c = wid m := by omega
   subst hke
   ((refine ggb0 @Int.lt_irrefl ?_))
   refine ⟨⟨wid m, nx, g, tt⟩, rfl, ?_⟩
   rw [NR.st_mk]
   (simp (disch := omega) only [StLe, tmLe, Y03, hpLe, bl, bb, bt, zDs, zD, Y00, simprocAttr])
 ·rintro ⟨c, nx, g, tt⟩ hc
  simp only at hc
  subst hc
  rw [NR.st_mk]
  ((refine gga0 ?_))
  ((repeat refine Y01 ?_); (refine wta ?_); simp (disch := omega) only [retQ, resD, oneD, bb, bt, zDs, zD, Y00, simprocAttr, Tryz.results117])
  have hmap : ((nulls f (wid m) (wid m)).map frs).map (rsv [refB f (t + 1), some ⟨28, g, (nulls f (wid m) (wid m)).map frs⟩] 2) = (nulls f (wid m) (wid m)).map frs := by
   rw [List.map_map]
   exact List.map_congr_left fun l _ => Ygq _ _ l
  show rs (rsv _ 2) _ _ = _
  simp only [rs, rsL, List.getElem?_cons_zero, List.getElem?_cons_succ, List.drop_zero, Nat.zero_add, List.length_map, Nat.mul_one, Nat.le_refl, and_self, if_true]
  rw [List.take_of_length_le (by simp), hmap]
end Go.Proofs.YtpcakodemleoiaaGreat.T
end

