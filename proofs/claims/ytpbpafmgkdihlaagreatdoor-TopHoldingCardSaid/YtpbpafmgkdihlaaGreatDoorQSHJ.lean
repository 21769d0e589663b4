import Derived.Test.YtpbpafmgkdihlaaGreatDoorQSG
import Derived.Test.YtpbpafmgkdihlaaGreatDoorQWE
set_option linter.all false
namespace Go.Proofs.YtpbpafmgkdihlaaGreatDoor.T
open Go Go.RowKit Lin
theorem Yru {s : Sy} {k : Nat} {b : Bk} (h : s.bs[k]? = some b) : (wtsS s).take (k + 1) = (wtsS s).take k ++ [b.w] := by
 rw [List.take_add_one]; simp [wtsS, h]
set_option maxHeartbeats 1000000 in
theorem Y8s (s : Sy) (hf : Fits s) : PRet Tryz.prog 75 [syD s] (.tup (if Y0g s = true then [ints (wtsS s), int 0] else [ints [], int 1])) := by
 refine pri 1 Tryz.func75 Tryz.ntmps75 fun t => ?_
 simp only [Y04]
 have hla := Y1z s.bs
 have ha2 := Y2p s.bs
 have hwl : (wtsS s).length = s.bs.length := by simp [wtsS]
 have hnb := hf.nb
 have hV := Y43 s hf
 cases hv : Y0g s
 ·rw [hv] at hV
  refine gga1 hV ?_
  ((repeat refine Y00 ?_); (refine wta ?_); simp (disch := omega) only [retQ, resD, oneD, rsv, rs, rsL, Y0a, List.map_map, bb, bt, zDs, zD, Y01, simprocAttr, Tryz.results75, Bool.false_eq_true, if_false])
  rfl
 rw [hv] at hV
 simp only [if_true]
 refine wqa ?_
 ((repeat refine Y00 ?_); (refine Y03 tab_ok fun KR hKR => ?_)); ((refine wra ?_)); ((refine wka1 hV ?_)); ((refine wra ?_)); ((refine wea ?_); (try clear hKR KR))
 refine wia ?_
 refine wsa ?_
 refine wqa ?_
 refine wqb ha2 ?_
 repeat refine Y00 ?_
 refine AW.begin 4 1 3 rfl (by decide) ?_
 simp only [Y1r, List.length_cons, List.length_nil, Nat.reduceEqDiff, ↓reduceIte, List.cons_append, List.nil_append]
 refine Y0i (fun x : Nat × Nat => ⟨[(4, .own 1 1 x.1 0 s.bs.length)], [none, some ⟨3, x.1, (wtsS s).map int⟩], x.2⟩) (fun _ => True) ?_ ?_
 ·refine Y02 ?_
  refine Y05 (fun x : Nat × Nat × Nat => ⟨[(1, .ptr 0 (t + 1) 0), (4, .own 1 1 x.2.1 0 x.1), (11, bks s.bs), (12, int s.bs.length), (13, int x.1)], [some ⟨25, t + 1, [bks s.bs, rps s.rs]⟩, some ⟨3, x.2.1, ((wtsS s).take x.1).map int⟩], x.2.2⟩) (fun x => s.bs.length - x.1) (fun x => x.1 ≤ s.bs.length) (0, t + 1 + 1, t + 1 + 1) (Nat.zero_le _) ele ?_
  rintro ⟨k, g, tt⟩ hk
  simp only at hk
  by_cases hlt : k < s.bs.length
  ·obtain ⟨b, hb⟩ : ∃ y, s.bs[k]? = some y := ⟨_, List.getElem?_eq_getElem hlt⟩
   have hra := Y4r s.bs k b hb
   have hst := Yru hb
   have hcl : ((wtsS s).take k).length = k := by rw [List.length_take]; omega
   ((refine ggb0 (F := _∧_∧_) ⟨@Int.ofNat_lt, hlt, ha2⟩ ?_))
   repeat refine Y00 ?_
   refine Y02 ?_
   ((refine ggb0 (F := _∧_∧_∧_) ⟨hlt, ha2, hra, hcl⟩ ?_))
   refine ⟨(k + 1, tt + 1 + 1, tt + 1 + 1), hlt, by show s.bs.length - (k + 1) < s.bs.length - k; omega, ?_⟩
   simp only [hst, List.map_append, List.map_cons, List.map_nil]
   exact ele
  ·have hke : k = s.bs.length := by omega
   subst hke
   rw [List.take_of_length_le (by omega)]
   ((refine wqb (F := _∧_) ⟨@Int.lt_irrefl, ha2⟩ ?_))
   refine wia ?_
   refine wxa ?_
   exact ⟨(g, tt), trivial, ele⟩
 rintro ⟨g, tt⟩ -
 have hfin : List.take s.bs.length ((wtsS s).map int) = (wtsS s).map int := List.take_of_length_le (by simp [wtsS])
 ((refine AW.freeze (1) (by first | rfl | (simp only [setH, List.getElem?_cons_zero, List.getElem?_cons_succ, hfin, hwl]; done)) ?_); simp (disch := omega) only [fzT, fz, fzL, Y0p, Y0y, fzH, fzB, eq_self, bb, bt, zDs, zD, Y01, simprocAttr, hfin, hwl])
 refine gga0 ?_
 ((repeat refine Y00 ?_); (refine wta ?_); simp (disch := omega) only [retQ, resD, oneD, bb, bt, zDs, zD, Y01, simprocAttr, Tryz.results75])
 exact Y2c _ _ (by simp only [Y2w, Y37, Yez, Bool.not_false, Bool.and_self])
def ent (s : Sy) (nm : ByteArray) (k j c : Nat) : Int :=
 if c < k then (match s.rs[c]? with | some r => pull nm r.hs | none => 0) else if c = k then (match s.rs[k]? with | some r => pull nm (r.hs.take j) | none => 0) else 0
def rowP (s : Sy) (k j : Nat) (nm : ByteArray) : List Int := (List.range s.rs.length).map (ent s nm k j)
def Y4u (s : Sy) (k j : Nat) : List (List Int) := s.bs.map fun b => rowP s k j b.nm
theorem Y9b (s : Sy) (k j : Nat) (nm : ByteArray) : (rowP s k j nm).length = s.rs.length := by simp [rowP]
theorem Yo4 (s : Sy) (k j : Nat) : (Y4u s k j).length = s.bs.length := by simp [Y4u]
theorem Yjf {s : Sy} {k j : Nat} {nm : ByteArray} {r : Rp} (hr : s.rs[k]? = some r) : (rowP s k j nm)[k]? = some (pull nm (r.hs.take j)) := by
 have hk := (List.getElem?_eq_some_iff.1 hr).1
 simp [rowP, List.getElem?_range hk, ent, hr]
theorem Yo7 {s : Sy} {k j : Nat} {nm : ByteArray} {r : Rp} {h : Hd} (hr : s.rs[k]? = some r) (hh : r.hs[j]? = some h) : rowP s k (j + 1) nm = (rowP s k j nm).set k (pull nm (r.hs.take j) + (if h.b = nm then h.p else 0)) := by
 refine List.ext_getElem? fun c => ?_
 by_cases e : k = c
 ·subst e
  have hk := (List.getElem?_eq_some_iff.1 hr).1
  rw [List.getElem?_set_self (by rw [Y9b]; exact hk), Yjf hr, Yfi hh]
 ·rw [List.getElem?_set_ne e]
  unfold rowP
  rw [List.getElem?_map, List.getElem?_map]
  by_cases hc : c < s.rs.length
  ·rw [List.getElem?_range hc]
   simp only [Option.map_some, ent, show ¬ c = k from fun h => e h.symm, if_false]
  ·rw [List.getElem?_eq_none (by simp; omega)]; rfl
theorem Yfa {s : Sy} {k j : Nat} {nm : ByteArray} {r : Rp} {h : Hd} (hr : s.rs[k]? = some r) (hh : r.hs[j]? = some h) (hne : h.b ≠ nm) : rowP s k (j + 1) nm = rowP s k j nm := by
 unfold rowP
 refine List.map_congr_left fun c _ => ?_
 unfold ent
 rw [hr]
 simp only
 rw [Yfi hh, if_neg hne, Int.add_zero]
theorem Yl6 (s : Sy) : Y4u s 0 0 = List.replicate s.bs.length (List.replicate s.rs.length 0) := by
 have e : ∀ nm, rowP s 0 0 nm = List.replicate s.rs.length 0 := fun nm => by
  refine List.eq_replicate_iff.2 ⟨Y9b _ _ _ _, fun x hx => ?_⟩
  obtain ⟨c, _, rfl⟩ := List.mem_map.1 hx
  unfold ent
  rw [if_neg (Nat.not_lt_zero _)]
  split
  ·cases s.rs[0]? <;> simp [pull]
  ·rfl
 unfold Y4u
 simp only [e]
 exact List.map_const' ..
theorem Yl7 {s : Sy} {k : Nat} {r : Rp} (hr : s.rs[k]? = some r) : Y4u s (k + 1) 0 = Y4u s k r.hs.length := by
 unfold Y4u rowP
 refine List.map_congr_left fun b _ => List.map_congr_left fun c _ => ?_
 unfold ent
 by_cases h1 : c < k
 ·rw [if_pos (by omega), if_pos h1]
 ·rw [if_neg h1]
  by_cases h2 : c = k
  ·subst h2
   rw [if_pos (by omega), if_pos rfl, hr]
   simp only [List.take_length]
  ·rw [if_neg (by omega), if_neg h2]
   split
   ·cases s.rs[k + 1]? <;> simp [pull]
   ·rfl
theorem Yo6 (s : Sy) : Y4u s s.rs.length 0 = matS s := by
 unfold Y4u matS
 refine List.map_congr_left fun b _ => ?_
 refine List.ext_getElem (by simp [rowP]) fun c h1 h2 => ?_
 have hc : c < s.rs.length := by simpa [rowP] using h1
 simp [rowP, ent, hc]
theorem Yl8 {s : Sy} {k j : Nat} {r : Rp} {h : Hd} (hr : s.rs[k]? = some r) (hh : r.hs[j]? = some h) (hf : Y1k s.bs h.b < 0) : Y4u s k (j + 1) = Y4u s k j := by
 unfold Y4u
 refine List.map_congr_left fun b hb => Yfa hr hh fun e => ?_
 obtain ⟨h1, _⟩ := Y8x (fun x => decide (x.nm = h.b)) s.bs 0
 obtain ⟨i, x, e1, _⟩ := h1 (List.any_eq_true.2 ⟨b, hb, by simp [e]⟩)
 unfold Y1k at hf
 rw [e1] at hf
 omega
theorem Yav {s : Sy} {nm : ByteArray} (hf : 0 ≤ Y1k s.bs nm) : ∃ (i : Nat) (b : Bk), Y1k s.bs nm = i ∧ s.bs[i]? = some b ∧ b.nm = nm := by
 obtain ⟨h1, h2⟩ := Y8x (fun x => decide (x.nm = nm)) s.bs 0
 cases ha : s.bs.any (fun x => decide (x.nm = nm))
 ·unfold Y1k at hf; rw [h2 ha] at hf; omega
 ·obtain ⟨i, x, e, hi, hx⟩ := h1 ha
  exact ⟨i, x, by unfold Y1k; rw [e, Nat.zero_add], hi, by simpa using hx⟩
theorem Yo5 {s : Sy} (ok : OkS s) {k j i : Nat} {r : Rp} {h : Hd} {b : Bk} (hr : s.rs[k]? = some r) (hh : r.hs[j]? = some h) (hi : s.bs[i]? = some b) (hn : b.nm = h.b) :
    Y4u s k (j + 1) = (Y4u s k j).set i ((rowP s k j b.nm).set k (pull b.nm (r.hs.take j) + h.p)) := by
  refine List.ext_getElem? fun c => ?_
  have hil := (List.getElem?_eq_some_iff.1 hi).1
  by_cases e : i = c
  · subst e
    rw [List.getElem?_set_self (by rw [Yo4]; exact hil)]
    simp only [Y4u, List.getElem?_map, hi, Option.map_some]
    rw [Yo7 hr hh, if_pos hn.symm]
  · rw [List.getElem?_set_ne e]
    simp only [Y4u, List.getElem?_map]
    cases hc : s.bs[c]? with
    | none => rfl
    | some b' =>
      simp only [Option.map_some]
      rw [Yfa hr hh fun e' => e (ok.inj i c b b' hi hc (hn.trans e'))]
abbrev nilI : D := .sl 1 [] true
theorem Yuv (n : Nat) : (List.replicate n [int 0]).flatten = (List.replicate n (0 : Int)).map int := by simp
theorem Yze (n : Nat) : (List.replicate n [nilI]).flatten = List.replicate n nilI := by simp
theorem Ywq {cells : List D} {n k : Nat} (hc : cells.length = k) (hk : k < n) (d : D) : (cells ++ List.replicate (n - k) nilI).set k d = (cells ++ [d]) ++ List.replicate (n - (k + 1)) nilI := by
 obtain ⟨j, hj⟩ : ∃ j, n - k = j + 1 := ⟨n - k - 1, by omega⟩
 rw [List.set_append_right _ _ (by omega), hc, Nat.sub_self, hj, show n - (k + 1) = j by omega, List.replicate_succ, List.set_cons_zero]
 simp
structure MA where
 k : Nat
 cells : List D
 R : Hp
 t : Nat
set_option maxHeartbeats 4000000 in
theorem Y57 (s : Sy) (hf : Fits s) : PRet Tryz.prog 74 [syD s] (.tup (if Y0g s = true then [mat (matS s), int 0] else [ints [], int 1])) := by
 refine pri 1 Tryz.func74 Tryz.ntmps74 fun t => ?_
 simp only [Y04]
 have hlb := Y1z s.bs
 have hdb := Y2p s.bs
 have hlr := Y28 s.rs
 have hdr := Y1q s.rs
 have hnb := hf.nb
 have hV := Y43 s hf
 cases hv : Y0g s
 ·rw [hv] at hV
  refine gga1 hV ?_
  ((repeat refine Y00 ?_); (refine wta ?_); simp (disch := omega) only [retQ, resD, oneD, rsv, rs, rsL, Y0a, List.map_map, bb, bt, zDs, zD, Y01, simprocAttr, Tryz.results74, Bool.false_eq_true, if_false])
  rfl
 rw [hv] at hV
 have ok := Y0h hv
 have hb6 := ok.b6
 have hr6 := ok.r6
 simp only [if_true]
 refine ggb1 hdb hV ?_
 rw [Yze]
 repeat refine Y00 ?_
 refine Y0i (fun x : MA => ⟨[(1, .ptr 0 (t + 1) 0), (4, .own 1 1 (t + 1 + 1) 0 s.bs.length)], some ⟨25, t + 1, [bks s.bs, rps s.rs]⟩ :: some ⟨59, t + 1 + 1, x.cells⟩ :: x.R, x.t⟩) (fun x => x.R.length = s.bs.length ∧ x.cells.length = s.bs.length ∧ LayO 2 (Y4u s 0 0) (List.range s.bs.length) x.cells x.R) ?_ ?_
 ·refine Y02 ?_
  refine Y05 (fun x : MA => ⟨[(1, .ptr 0 (t + 1) 0), (4, .own 1 1 (t + 1 + 1) 0 s.bs.length), (19, int s.bs.length), (20, int x.k)], some ⟨25, t + 1, [bks s.bs, rps s.rs]⟩ :: some ⟨59, t + 1 + 1, x.cells ++ List.replicate (s.bs.length - x.k) nilI⟩ :: x.R, x.t⟩) (fun x => s.bs.length - x.k) (fun x => x.k ≤ s.bs.length ∧ x.R.length = x.k ∧ x.cells.length = x.k ∧ LayO 2 (List.replicate x.k (List.replicate s.rs.length 0)) (List.range x.k) x.cells x.R) ⟨0, [], [], t + 1 + 1⟩ ⟨Nat.zero_le _, rfl, rfl, LayO.nil 2 []⟩ (by (simp (disch := omega) only [StLe, tmLe, Y0b, hpLe, bl, bb, bt, zDs, zD, Y01, simprocAttr, Nat.sub_zero])) ?_
  rintro ⟨k, cells, R, tt⟩ ⟨hk, hR, hc, hL⟩
  simp only at hk hR hc hL
  by_cases hlt : k < s.bs.length
  ·have hset := Ywq hc hlt
   have hcl : (cells ++ List.replicate (s.bs.length - k) nilI).length = s.bs.length := by simp; omega
   have hrl : (List.replicate (s.bs.length - k) nilI).length = s.bs.length - k := by simp
   ((refine ggb0 (F := _∧_) ⟨@Int.ofNat_lt, hlt⟩ ?_))
   repeat refine Y00 ?_
   refine Y02 ?_
   ((refine ggb0 (F := _∧_∧_) ⟨hdr, hlt, hrl⟩ ?_))
   rw [Yuv, hset]
   have hp := hL.push (g := tt + 1) (r := List.replicate s.rs.length 0) hR
   rw [List.length_replicate, ← hR] at hp
   refine ⟨⟨k + 1, cells ++ [D.own 1 (R.length + 1 + 1) (tt + 1) 0 s.rs.length], R ++ [some ⟨3, tt + 1, (List.replicate s.rs.length (0 : Int)).map int⟩], tt + 1⟩, ⟨hlt, by simp [hR], by simp [hc], ?_⟩, by show s.bs.length - (k + 1) < s.bs.length - k; omega, ?_⟩
   ·rw [List.replicate_succ', ← hR]; exact hp
   exact ele
  ·have hke : k = s.bs.length := by omega
   subst hke
   refine ggb0 @Int.lt_irrefl ?_
   refine ⟨⟨0, cells, R, tt⟩, ⟨hR, hc, by rw [Yl6]; exact hL⟩, ?_⟩
   simp only [Nat.sub_self, List.replicate_zero, List.append_nil]
   exact ele
 rintro ⟨_, cells0, R0, tt0⟩ ⟨hR0, hc0, hL0⟩
 simp only at hR0 hc0 hL0
 refine ggb0 hdr ?_
 repeat refine Y00 ?_
 refine Y0i (fun x : MA => ⟨[(4, .own 1 1 (t + 1 + 1) 0 s.bs.length)], none :: some ⟨59, t + 1 + 1, x.cells⟩ :: x.R, x.t⟩) (fun x => LayO 2 (matS s) (List.range s.bs.length) x.cells x.R) ?_ ?_
 ·refine Y02 ?_
  refine Y05 (fun x : Nat × Hp × Nat => ⟨[(1, .ptr 0 (t + 1) 0), (4, .own 1 1 (t + 1 + 1) 0 s.bs.length), (32, rps s.rs), (33, int s.rs.length), (34, int x.1)], some ⟨25, t + 1, [bks s.bs, rps s.rs]⟩ :: some ⟨59, t + 1 + 1, cells0⟩ :: x.2.1, x.2.2⟩) (fun x => s.rs.length - x.1) (fun x => x.1 ≤ s.rs.length ∧ x.2.1.length = s.bs.length ∧ LayO 2 (Y4u s x.1 0) (List.range s.bs.length) cells0 x.2.1) (0, R0, tt0) ⟨Nat.zero_le _, hR0, hL0⟩ ele ?_
  rintro ⟨k, R, tt⟩ ⟨hk, hR, hL⟩
  simp only at hk hR hL
  by_cases hlk : k < s.rs.length
  ·obtain ⟨r, hr⟩ : ∃ y, s.rs[k]? = some y := ⟨_, List.getElem?_eq_getElem hlk⟩
   have hrm := List.mem_of_getElem? hr
   have hra := Y2z s.rs k r hr
   have hgl : ∀ x : Option Blk, (R ++ [x])[R.length]? = some x := fun x => by simp
   have hld := Y3i r.hs
   have hdd := Y4v r.hs
   obtain ⟨ho1, ho2, _⟩ := ok.holds r hrm
   ((refine ggb0 (F := _∧_) ⟨@Int.ofNat_lt, hlk⟩ ?_))
   repeat refine Y00 ?_
   refine Y02 ?_
   ((refine ggb0 (F := _∧_∧_∧_) ⟨hlk, hra, hgl, hdd⟩ ?_))
   ·repeat refine Y00 ?_
    refine Y02 ?_
    refine Y05 (fun x : Nat × Hp × Nat => ⟨[(1, .ptr 0 (t + 1) 0), (4, .own 1 1 (t + 1 + 1) 0 s.bs.length), (6, int k), (32, rps s.rs), (33, int s.rs.length), (34, int k), (40, hds r.hs), (41, int r.hs.length), (42, int x.1)], some ⟨25, t + 1, [bks s.bs, rps s.rs]⟩ :: some ⟨59, t + 1 + 1, cells0⟩ :: x.2.1, x.2.2⟩) (fun x => r.hs.length - x.1) (fun x => x.1 ≤ r.hs.length ∧ x.2.1.length = s.bs.length ∧ LayO 2 (Y4u s k x.1) (List.range s.bs.length) cells0 x.2.1) (0, R, tt + 1) ⟨Nat.zero_le _, hR, hL⟩ (by (simp (disch := omega) only [StLe, tmLe, Y0b, hpLe, bl, bb, bt, zDs, zD, Y01, simprocAttr, Y9g])) ?_
    clear hR hL hgl
    rintro ⟨j, R, tt⟩ ⟨hj, hR, hL⟩
    simp only at hj hR hL
    by_cases hlj : j < r.hs.length
    ·obtain ⟨h, hh⟩ : ∃ y, r.hs[j]? = some y := ⟨_, List.getElem?_eq_getElem hlj⟩
     have hrh := Y4m r.hs j h hh
     have hgl : ∀ x : Option Blk, (R ++ [x])[R.length]? = some x := fun x => by simp
     have hF := Yzu s h.b hnb
     ((refine ggb0 (F := _∧_) ⟨@Int.ofNat_lt, hlj⟩ ?_))
     repeat refine Y00 ?_
     refine Y02 ?_
     by_cases hfi : 0 ≤ Y1k s.bs h.b
     ·obtain ⟨i, b, hi, hbi, hbn⟩ := Yav hfi
      rw [hi] at hF hfi
      have hil := (List.getElem?_eq_some_iff.1 hbi).1
      have hri : (Y4u s k j)[i]? = some (rowP s k j b.nm) := by simp [Y4u, hbi]
      obtain ⟨g, hci, hRi⟩ := hL.at_ i i _ (by simp [hil]) hri
      rw [Y9b] at hci
      have hgi : ∀ x : Option Blk, (R ++ [x])[i]? = some (some ⟨3, g, (rowP s k j b.nm).map int⟩) := fun x => by rw [List.getElem?_append_left (by omega)]; exact hRi
      have hsi : ∀ x y : Option Blk, (R ++ [x]).set i y = R.set i y ++ [x] := fun x y => List.set_append_left _ _ (by omega)
      have hvk := Yjf (j := j) (nm := b.nm) hr
      have hpl := Y9b s k j b.nm
      have hpb := Y66 (nm := b.nm) (hs := r.hs.take j) fun x hx => ok.pulls r hrm x (List.mem_of_mem_take hx)
      rw [List.length_take] at hpb
      have hhp := ok.pulls r hrm h (List.mem_of_getElem? hh)
      have hst : ((rowP s k j b.nm).map int).set k (int (pull b.nm (r.hs.take j) + h.p)) = ((rowP s k j b.nm).set k (pull b.nm (r.hs.take j) + h.p)).map int := by rw [List.map_set]
      ((refine ggb1 (F := _∧_∧_∧_) ⟨hlj, hrh, hgl, hfi⟩ hF ?_))
      ((repeat refine Y00 ?_); (refine Y0d tab_ok Y06 0 fun KR hKR => ?_); simp only [List.replicate_succ, List.replicate_zero, List.append_nil, List.nil_append, List.cons_append, List.length_cons, List.length_nil, Nat.reduceAdd])
      ((refine wdb (F := _∧_∧_∧_∧_∧_∧_∧_∧_∧_) ⟨hgl, hci, hgi, hsi, hvk, hpl, hst, hlk, hil, hc0⟩ ?_))
      ((refine Y0k ?_); simp only [List.reverse_cons, List.reverse_nil, List.nil_append, List.cons_append]; (refine hKR _ _ (by exact Y9o (Yr0 2) (by kernel_rfl)) ?_); (try clear hKR KR); (refine qq1 ?_))
      refine gga0 ?_
      refine ⟨(j + 1, R.set i (some ⟨3, g, ((rowP s k j b.nm).set k (pull b.nm (r.hs.take j) + h.p)).map int⟩), tt + 1 + 1), ⟨hlj, by simp [hR], ?_⟩, by show r.hs.length - (j + 1) < r.hs.length - j; omega, ?_⟩
      ·rw [Yo5 ok hr hh hbi hbn]
       exact hL.set (by simp [hil]) hri hRi (by simp)
      (simp (disch := omega) only [StLe, tmLe, Y0b, hpLe, bl, bb, bt, zDs, zD, Y01, simprocAttr, Y9g])
     ·((refine ggb1 (F := _∧_∧_∧_) ⟨hlj, hrh, hgl, hfi⟩ hF ?_))
      refine ⟨(j + 1, R, tt + 1), ⟨hlj, hR, by rw [Yl8 hr hh (by omega)]; exact hL⟩, by show r.hs.length - (j + 1) < r.hs.length - j; omega, ?_⟩
      (simp (disch := omega) only [StLe, tmLe, Y0b, hpLe, bl, bb, bt, zDs, zD, Y01, simprocAttr, Y9g])
    ·have hje : j = r.hs.length := by omega
     subst hje
     refine ggb0 @Int.lt_irrefl ?_
     refine ⟨(k + 1, R, tt), ⟨hlk, hR, by rw [Yl7 hr]; exact hL⟩, by show s.rs.length - (k + 1) < s.rs.length - k; omega, ?_⟩
     exact ele
  ·have hke : k = s.rs.length := by omega
   subst hke
   refine wqb @Int.lt_irrefl ?_
   refine wia ?_
   refine wxa ?_
   exact ⟨⟨0, cells0, R, tt⟩, by rw [Yo6] at hL; exact hL, ele⟩
 rintro ⟨_, cells, R, tt⟩ hL
 simp only at hL
 refine AW.tail 2 [none, some ⟨59, t + 1 + 1, cells⟩] R rfl ?_
 have hval := hL.value (m := 2) (H2 := R) (by simp) (fun x hx => by simp) 1
 simp only [zT, zH, List.map_cons, List.map_nil, Option.map_some, Option.map_none, List.length_nil, List.length_cons, hval, Nat.zero_add, Nat.reduceAdd]
 have hz : zv 2 R 2 (.own 1 1 (t + 1 + 1) 0 s.bs.length) = .own 1 1 (t + 1 + 1) 0 s.bs.length := by simp [zv, zz]
 simp only [hz]
 have hml := ok.mat_len
 have hfin : List.take s.bs.length ((matS s).map ints) = (matS s).map ints := List.take_of_length_le (by simp [matS])
 ((refine AW.freeze (1) (by first | rfl | (simp only [setH, List.getElem?_cons_zero, List.getElem?_cons_succ, hfin, hml]; done)) ?_); simp (disch := omega) only [fzT, fz, fzL, Y0p, Y0y, fzH, fzB, eq_self, bb, bt, zDs, zD, Y01, simprocAttr, hfin, hml])
 refine gga0 ?_
 ((repeat refine Y00 ?_); (refine wta ?_); simp (disch := omega) only [retQ, resD, oneD, bb, bt, zDs, zD, Y01, simprocAttr, Tryz.results74])
 refine Y2c _ _ ?_
 have := Yj6 (matS s)
 simp only [Y2w, Y37, Bool.not_false, Bool.and_true, Bool.true_and] at this ⊢
 exact this
end Go.Proofs.YtpbpafmgkdihlaaGreatDoor.T
