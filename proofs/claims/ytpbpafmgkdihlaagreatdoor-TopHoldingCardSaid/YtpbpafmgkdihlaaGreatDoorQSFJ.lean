import Derived.Test.YtpbpafmgkdihlaaGreatDoorQSDE
set_option linter.all false
namespace Go.Proofs.YtpbpafmgkdihlaaGreatDoor.T
open Go Go.RowKit Lin
theorem Y5z {α : Type} (f : α → ByteArray) (l : List α) (a : ByteArray) : (l.map f).contains a = l.any fun x => decide (f x = a) := by
 rw [Bool.eq_iff_iff, List.contains_iff_mem, List.any_eq_true, List.mem_map]
 simp
theorem Yk2 {α : Type} (p : α → Bool) {l : List α} {k : Nat} {x : α} (h : l[k]? = some x) (hp : p x = true) : (idx p l 0 != (k : Int)) = (l.take k).any p := by
 have h1 := Yg3 p l 0 k x h hp
 rw [Nat.zero_add] at h1
 cases ha : (l.take k).any p
 ·rw [(h1.1 ha)]; simp
 ·have : ¬ idx p l 0 = (k : Int) := fun e => by rw [h1.2 e] at ha; cases ha
  simpa using this
theorem Ytw {bs : List Bk} {k : Nat} {b : Bk} (h : bs[k]? = some b) : (Y1k bs b.nm != (k : Int)) = (Y0l (bs.take k)).contains b.nm := by
 unfold Y1k Y0l
 rw [Y5z]
 exact Yk2 _ h (by simp)
theorem Ytu {rs : List Rp} {k : Nat} {r : Rp} (h : rs[k]? = some r) : (Ytv rs r.nm != (k : Int)) = (Y18 (rs.take k)).contains r.nm := by
 unfold Ytv Y18
 rw [Y5z]
 exact Yk2 _ h (by simp)
theorem Ye5 (bs : List Bk) (nm : ByteArray) : decide (0 ≤ Y1k bs nm) = (Y0l bs).contains nm := by
 unfold Y1k Y0l
 rw [Y5z, Yao]
set_option maxHeartbeats 4000000 in
theorem Ysi (s : Sy) (r : Rp) (hl : s.bs.length ≤ 1000000) (hr : r.hs.length ≤ 1000000) : PRet Tryz.prog 31 [syD s, .agg (rp1 r)] (bool (Y1g s.bs r)) := by
 refine pri 1 Tryz.func31 Tryz.ntmps31 fun t => ?_
 simp only [Y04]
 have hla := Y3i r.hs
 have ha2 := Y4v r.hs
 by_cases a1 : (r.hs.length : Int) < 2
 ·have ho : Y1g s.bs r = false := by
   have : ¬ (2 ≤ r.hs.length ∧ r.hs.length ≤ 10) := by omega
   simp only [Y1g, this, decide_false, Bool.false_and]
  ((refine ggb0 (F := _∧_) ⟨ha2, a1⟩ ?_))
  exact exx (F := _ ∧ _) ⟨Tryz.results31, ho⟩
 by_cases a2 : 10 < (r.hs.length : Int)
 ·have ho : Y1g s.bs r = false := by
   have : ¬ (2 ≤ r.hs.length ∧ r.hs.length ≤ 10) := by omega
   simp only [Y1g, this, decide_false, Bool.false_and]
  ((refine ggb0 (F := _∧_∧_) ⟨ha2, a1, a2⟩ ?_))
  exact exx (F := _ ∧ _) ⟨Tryz.results31, ho⟩
 have hsz : 2 ≤ r.hs.length ∧ r.hs.length ≤ 10 := by omega
 ((refine ggb0 (F := _∧_∧_) ⟨ha2, a1, a2⟩ ?_))
 repeat refine Y00 ?_
 refine Y02 ?_
 refine Y05 (fun x : Nat × Nat => ⟨[(2, .ptr 0 (t + 1) 0), (3, .ptr 1 (t + 1 + 1) 0), (5, int x.1)], [some ⟨25, t + 1, [bks s.bs, rps s.rs]⟩, some ⟨30, t + 1 + 1, rp1 r⟩], x.2⟩) (fun x => r.hs.length - x.1) (fun x => x.1 ≤ r.hs.length ∧ ∀ j h, j < x.1 → r.hs[j]? = some h → Y0q s.bs h (endH r.hs.length j) = true) (0, t + 1 + 1) ⟨Nat.zero_le _, fun j h hj => absurd hj (Nat.not_lt_zero _)⟩ ele ?_
 rintro ⟨k, tt⟩ ⟨hk, hin⟩
 simp only at hk hin
 by_cases hlt : k < r.hs.length
 ·obtain ⟨h, hh⟩ : ∃ h, r.hs[k]? = some h := ⟨_, List.getElem?_eq_getElem hlt⟩
  have hra := Y4m r.hs k h hh
  have hH := Yt9 s h (endH r.hs.length k) hl
  ((refine ggb0 (F := _∧_∧_) ⟨@Int.ofNat_lt, hlt, ha2⟩ ?_))
  repeat refine Y00 ?_
  refine Y02 ?_
  have e0 : ((k : Int) == 0) = (k == 0) := by rw [Bool.eq_iff_iff]; simp
  have e1 : ((k : Int) == (r.hs.length : Int) - 1) = (k + 1 == r.hs.length) := by rw [Bool.eq_iff_iff, beq_iff_eq, beq_iff_eq]; omega
  have hend : endH r.hs.length k = (k == 0 || k + 1 == r.hs.length) := rfl
  cases hok : Y0q s.bs h (endH r.hs.length k)
  ·have ho : Y1g s.bs r = false := by simp only [Y1g, Yab hh hok, Bool.and_false, Bool.false_and]
   rw [hok] at hH
   cases h0 : (k == 0) <;> cases h1 : (k + 1 == r.hs.length) <;>
   ·rw [hend, h0, h1] at hH
    simp only [Bool.or_self, Bool.or_true, Bool.true_or] at hH
    ((repeat refine Y00 ?_); (refine Y6h (F := _∧_∧_∧_∧_∧_∧_) ⟨ha2, hlt, hra, e0, e1, h0, h1⟩ hH ?_))
    refine gga0 ?_
    exact exx (F := _ ∧ _) ⟨Tryz.results31, ho⟩
  ·rw [hok] at hH
   cases h0 : (k == 0) <;> cases h1 : (k + 1 == r.hs.length) <;>
   ·rw [hend, h0, h1] at hH
    simp only [Bool.or_self, Bool.or_true, Bool.true_or] at hH
    ((repeat refine Y00 ?_); (refine Y6h (F := _∧_∧_∧_∧_∧_∧_) ⟨ha2, hlt, hra, e0, e1, h0, h1⟩ hH ?_))
    refine gga0 ?_
    refine ⟨(k + 1, tt + 1), ⟨hlt, fun j x hj hx => ?_⟩, by show r.hs.length - (k + 1) < r.hs.length - k; omega, ?_⟩
    ·by_cases e : j = k
     ·subst e; rw [hh] at hx; cases hx; exact hok
     ·exact hin j x (by omega) hx
    exact ele
 ·have hke : k = r.hs.length := by omega
  subst hke
  have hall : Y21 s.bs r.hs = true := Yac fun j x hx => hin j x (List.getElem?_eq_some_iff.1 hx).1 hx
  obtain ⟨m, hm⟩ : ∃ m, r.hs.length = m + 1 := ⟨r.hs.length - 1, by omega⟩
  obtain ⟨h, hh⟩ : ∃ h, r.hs[m]? = some h := ⟨_, List.getElem?_eq_getElem (by omega)⟩
  have hlast : r.hs.getLast? = some h := by rw [List.getLast?_eq_getElem?, show r.hs.length - 1 = m by omega]; exact hh
  have ho : Y1g s.bs r = (!r.hl || decide (h.b = ⟨#[]⟩)) := by
   simp only [Y1g, hall, hsz, hlast, and_self, decide_true, Bool.true_and]
  have em : (r.hs.length : Int) - 1 = (m : Int) := by omega
  have hnm := Ydv r.hs m h hh
  have hmlt : m < r.hs.length := by omega
  cases hhl : r.hl
  ·rw [hhl] at ho
   ((refine ggb0 (F := _∧_∧_) ⟨@Int.lt_irrefl, hhl, ha2⟩ ?_))
   ((repeat refine Y00 ?_); (refine wta ?_); simp (disch := omega) only [retQ, resD, oneD, rsv, rs, rsL, Y0a, List.map_map, bb, bt, zDs, zD, Y01, simprocAttr, Tryz.results31, ho, Bool.true_or])
  ·rw [hhl] at ho
   ((refine ggb0 (F := _∧_∧_∧_∧_∧_) ⟨@Int.lt_irrefl, hhl, em, hmlt, hnm, ha2⟩ ?_))
   ((repeat refine Y00 ?_); (refine wta ?_); simp (disch := omega) only [retQ, resD, oneD, rsv, rs, rsL, Y0a, List.map_map, bb, bt, zDs, zD, Y01, simprocAttr, Tryz.results31, ho, Bool.false_or])
set_option maxHeartbeats 4000000 in
theorem Yna (s : Sy) (hf : Fits s) : PRet Tryz.prog 6 [syD s] (bool (Y0g s)) := by
 refine pri 1 Tryz.func6 Tryz.ntmps6 fun t => ?_
 simp only [Y04]
 obtain ⟨nb, nr, sb, sr⟩ := hf
 have hlb := Y1z s.bs
 have hlr := Y28 s.rs
 have hdb := Y2p s.bs
 have hdr := Y1q s.rs
 by_cases a1 : (s.bs.length : Int) < 1
 ·have ho : Y0g s = false := Y3d (by simp [Y4f]; omega)
  ((refine ggb0 (F := _∧_∧_) ⟨hdb, hdr, a1⟩ ?_))
  exact exx (F := _ ∧ _) ⟨Tryz.results6, ho⟩
 by_cases a2 : 6 < (s.bs.length : Int)
 ·have ho : Y0g s = false := Y3d (by simp [Y4f]; omega)
  ((refine ggb0 (F := _∧_∧_∧_) ⟨hdb, hdr, a1, a2⟩ ?_))
  exact exx (F := _ ∧ _) ⟨Tryz.results6, ho⟩
 by_cases a3 : (s.rs.length : Int) < 1
 ·have ho : Y0g s = false := Y3d (by simp [Y4f]; omega)
  ((refine ggb0 (F := _∧_∧_∧_∧_) ⟨hdb, hdr, a1, a2, a3⟩ ?_))
  exact exx (F := _ ∧ _) ⟨Tryz.results6, ho⟩
 by_cases a4 : 6 < (s.rs.length : Int)
 ·have ho : Y0g s = false := Y3d (by simp [Y4f]; omega)
  ((refine ggb0 (F := _∧_∧_∧_∧_∧_) ⟨hdb, hdr, a1, a2, a3, a4⟩ ?_))
  exact exx (F := _ ∧ _) ⟨Tryz.results6, ho⟩
 have hsz : Y4f s = true := by simp [Y4f]; omega
 ((refine ggb0 (F := _∧_∧_∧_∧_∧_) ⟨hdb, hdr, a1, a2, a3, a4⟩ ?_))
 clear a1 a2 a3 a4
 repeat refine Y00 ?_
 refine Y0i (fun x : Nat => ⟨[(1, .ptr 0 (t + 1) 0)], [some ⟨25, t + 1, [bks s.bs, rps s.rs]⟩], x⟩) (fun _ => ∀ j, j < s.bs.length → okB s.bs j = true) ?_ ?_
 ·refine Y02 ?_
  refine Y05 (fun x : Nat × Nat => ⟨[(1, .ptr 0 (t + 1) 0), (3, int x.1)], [some ⟨25, t + 1, [bks s.bs, rps s.rs]⟩], x.2⟩) (fun x => s.bs.length - x.1) (fun x => x.1 ≤ s.bs.length ∧ ∀ j, j < x.1 → okB s.bs j = true) (0, t + 1) ⟨Nat.zero_le _, fun j hj => absurd hj (Nat.not_lt_zero _)⟩ ele ?_
  rintro ⟨k, tt⟩ ⟨hk, hin⟩
  simp only at hk hin
  by_cases hlt : k < s.bs.length
  ·obtain ⟨b, hb⟩ : ∃ y, s.bs[k]? = some y := ⟨_, List.getElem?_eq_getElem hlt⟩
   have hra := Y4r s.bs k b hb
   have hat := Yfw hb
   have hN := Yc9 b.nm (sb b (List.mem_of_getElem? hb))
   have hF := Y5q s b.nm nb
   have hne := Ytw hb
   ((refine ggb0 (F := _∧_∧_) ⟨@Int.ofNat_lt, hlt, hdb⟩ ?_))
   repeat refine Y00 ?_
   refine Y02 ?_
   cases hnm : isNm b.nm
   ·have ho : Y0g s = false := Y63 hlt (by rw [hat, hnm, Bool.false_and, Bool.false_and])
    rw [hnm] at hN
    ((refine ggb1 (F := _∧_∧_) ⟨hdb, hlt, hra⟩ hN ?_))
    exact exx (F := _ ∧ _) ⟨Tryz.results6, ho⟩
   rw [hnm] at hN
   cases hc : (Y0l (s.bs.take k)).contains b.nm
   rotate_left 1
   ·have ho : Y0g s = false := Y63 hlt (by rw [hat, hnm, hc]; rfl)
    rw [hc] at hne
    ((refine ggb2 (F := _∧_∧_∧_) ⟨hdb, hlt, hra, hne⟩ hN hF ?_))
    exact exx (F := _ ∧ _) ⟨Tryz.results6, ho⟩
   rw [hc] at hne
   by_cases w1 : b.w < 0
   ·have ho : Y0g s = false := Y63 hlt (by rw [hat, hnm, hc]; simp; omega)
    ((refine ggb2 (F := _∧_∧_∧_∧_) ⟨hdb, hlt, hra, hne, w1⟩ hN hF ?_))
    exact exx (F := _ ∧ _) ⟨Tryz.results6, ho⟩
   by_cases w2 : 16777216 < b.w
   ·have ho : Y0g s = false := Y63 hlt (by rw [hat, hnm, hc]; simp; omega)
    ((refine ggb2 (F := _∧_∧_∧_∧_∧_) ⟨hdb, hlt, hra, hne, w1, w2⟩ hN hF ?_))
    exact exx (F := _ ∧ _) ⟨Tryz.results6, ho⟩
   ((refine ggb2 (F := _∧_∧_∧_∧_∧_) ⟨hdb, hlt, hra, hne, w1, w2⟩ hN hF ?_))
   refine ⟨(k + 1, tt + 1), ⟨hlt, fun j hj => ?_⟩, by show s.bs.length - (k + 1) < s.bs.length - k; omega, ?_⟩
   ·by_cases e : j = k
    ·subst e; rw [hat, hnm, hc]; simp; omega
    ·exact hin j (by omega)
   exact ele
  ·have hke : k = s.bs.length := by omega
   subst hke
   ((refine ggb0 (F := _∧_) ⟨@Int.lt_irrefl, hdb⟩ ?_))
   exact ⟨tt, hin, ele⟩
 rintro t2 hbs
 refine ggb0 hdr ?_
 repeat refine Y00 ?_
 refine Y0i (fun x : Nat => ⟨[(5, int (Y3v s.rs))], [], x⟩) (fun _ => ∀ j, j < s.rs.length → okR s j = true) ?_ ?_
 ·refine Y02 ?_
  refine Y05 (fun x : Nat × Nat => ⟨[(1, .ptr 0 (t + 1) 0), (5, int (Y3v (s.rs.take x.1))), (6, int x.1)], [some ⟨25, t + 1, [bks s.bs, rps s.rs]⟩], x.2⟩) (fun x => s.rs.length - x.1) (fun x => x.1 ≤ s.rs.length ∧ ∀ j, j < x.1 → okR s j = true) (0, t2) ⟨Nat.zero_le _, fun j hj => absurd hj (Nat.not_lt_zero _)⟩ (by (simp (disch := omega) only [StLe, tmLe, Y0b, hpLe, bl, bb, bt, zDs, zD, Y01, simprocAttr, Y3v, List.filter_nil])) ?_
  rintro ⟨k, tt⟩ ⟨hk, hin⟩
  simp only at hk hin
  by_cases hlt : k < s.rs.length
  ·obtain ⟨r, hr⟩ : ∃ y, s.rs[k]? = some y := ⟨_, List.getElem?_eq_getElem hlt⟩
   have hra := Y2z s.rs k r hr
   have hat := Yft hr
   have hsh := Ycb hr
   have hhl := Yjt (s.rs.take k)
   rw [List.length_take] at hhl
   obtain ⟨sr1, sr2⟩ := sr r (List.mem_of_getElem? hr)
   have hrp := Ysi s r nb sr2
   have hN := Yc9 r.nm sr1
   have hF := Yhe s r.nm nr
   have hB := Y5q s r.nm nb
   have hne := Ytu hr
   have hge := Ye5 s.bs r.nm
   have hcon : (Y0l s.bs ++ Y18 (s.rs.take k)).contains r.nm = ((Y0l s.bs).contains r.nm || (Y18 (s.rs.take k)).contains r.nm) := List.contains_append
   ((refine ggb0 (F := _∧_∧_) ⟨@Int.ofNat_lt, hlt, hdr⟩ ?_))
   repeat refine Y00 ?_
   refine Y02 ?_
   cases hnm : isNm r.nm
   ·have ho : Y0g s = false := Y62 hlt (by rw [hat, hnm, Bool.false_and, Bool.false_and])
    rw [hnm] at hN
    ((refine ggb1 (F := _∧_∧_) ⟨hdr, hlt, hra⟩ hN ?_))
    exact exx (F := _ ∧ _) ⟨Tryz.results6, ho⟩
   rw [hnm] at hN
   cases hc : (Y18 (s.rs.take k)).contains r.nm
   rotate_left 1
   ·have ho : Y0g s = false := Y62 hlt (by rw [hat, hnm, hcon, hc, Bool.or_true]; rfl)
    rw [hc] at hne
    ((refine ggb2 (F := _∧_∧_∧_) ⟨hdr, hlt, hra, hne⟩ hN hF ?_))
    exact exx (F := _ ∧ _) ⟨Tryz.results6, ho⟩
   rw [hc] at hne
   cases hd : (Y0l s.bs).contains r.nm
   rotate_left 1
   ·have ho : Y0g s = false := Y62 hlt (by rw [hat, hnm, hcon, hd, Bool.true_or]; rfl)
    rw [hd] at hge
    ((refine ggb3 (F := _∧_∧_∧_∧_) ⟨hdr, hlt, hra, hne, hge⟩ hN hF hB ?_))
    exact exx (F := _ ∧ _) ⟨Tryz.results6, ho⟩
   rw [hd] at hge
   cases hw : Y1g s.bs r
   ·have ho : Y0g s = false := Y62 hlt (by rw [hat, hw, Bool.and_false])
    rw [hw] at hrp
    ((refine ggb4 (F := _∧_∧_∧_∧_) ⟨hdr, hlt, hra, hne, hge⟩ hN hF hB hrp ?_))
    exact exx (F := _ ∧ _) ⟨Tryz.results6, ho⟩
   rw [hw] at hrp
   have hok : okR s k = true := by rw [hat, hnm, hcon, hc, hd, hw]; rfl
   ((refine ggb4 (F := _∧_∧_∧_∧_) ⟨hdr, hlt, hra, hne, hge⟩ hN hF hB hrp ?_))
   cases hh : r.hl
   ·rw [hh] at hsh
    simp only [Bool.false_eq_true, if_false, Nat.add_zero] at hsh
    refine gga0 ?_
    refine ⟨(k + 1, tt + 1), ⟨hlt, fun j hj => ?_⟩, by show s.rs.length - (k + 1) < s.rs.length - k; omega, ?_⟩
    ·by_cases e : j = k
     ·subst e; exact hok
     ·exact hin j (by omega)
    simp only [hsh]
    exact ele
   ·rw [hh] at hsh
    simp only [if_true] at hsh
    refine gga0 ?_
    refine ⟨(k + 1, tt + 1), ⟨hlt, fun j hj => ?_⟩, by show s.rs.length - (k + 1) < s.rs.length - k; omega, ?_⟩
    ·by_cases e : j = k
     ·subst e; exact hok
     ·exact hin j (by omega)
    simp only [hsh]
    exact ele
  ·have hke : k = s.rs.length := by omega
   subst hke
   rw [List.take_length]
   ((refine ggb0 (F := _∧_) ⟨@Int.lt_irrefl, hdr⟩ ?_))
   exact ⟨tt, hin, ele⟩
 rintro t3 hrs
 have ho := Ybm hsz hbs hrs
 have he : decide ((Y3v s.rs : Int) ≤ 1) = decide (Y3v s.rs ≤ 1) := by rw [decide_eq_decide]; omega
 refine ggb0 he ?_
 exact exx (F := _ ∧ _) ⟨Tryz.results6, ho⟩
end Go.Proofs.YtpbpafmgkdihlaaGreatDoor.T
