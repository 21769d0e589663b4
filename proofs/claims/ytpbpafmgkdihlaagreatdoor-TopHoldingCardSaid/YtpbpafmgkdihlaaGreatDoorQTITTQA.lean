import Derived.Test.YtpbpafmgkdihlaaGreatDoorQTN
import Derived.Shelf.LaysM
import Derived.Shelf.Strconv.Itoa3
import Derived.Lib.AppendIntMem
import Derived.Test.YtpbpafmgkdihlaaGreatDoorQTQITQC
import Derived.Test.YtpbpafmgkdihlaaGreatDoorQTWTQQ
import Derived.Test.YtpbpafmgkdihlaaGreatDoorQWJK
import Derived.Lib.UnsafeStr
import Derived.Shelf.RegionOpenPlain
import Derived.WalkKit
import Derived.Test.YtpbpafmgkdihlaaGreatDoorQASOTL
import Derived.Test.YtpbpafmgkdihlaaGreatDoorQTB
import Derived.Test.YtpbpafmgkdihlaaGreatDoorQWA
set_option linter.all false
namespace Go.Proofs.YtpbpafmgkdihlaaGreatDoor.T
open Go Go.RowKit Go.Shelf
def Y8w : Go.Shelf.Ren := ⟨fun | 171 => 85 | 243 => 123 | 246 => 158 | 283 => 176 | 284 => 177 | 285 => 178 | 286 => 179 | 129 => 187 | 317 => 186 | 318 => 188 | 319 => 189 | 320 => 190 | 337 => 191 | 338 => 192 | n => n, fun | 3 => 3 | 9 => 9 | 2 => 2 | 4 => 4 | 171 => 222 | 0 => 0 | 53 => 75 | 37 => 98 | 5 => 5 | 173 => 225 | 212 => 229 | 51 => 213 | 20 => 20 | 213 => 230 | 46 => 113 | 232 => 233 | 233 => 234 | n => n, fun | 17 => 2 | 18 => 3 | 19 => 4 | n => n⟩
theorem Yt7 : Go.Proofs.LaysM.n171 Tryz.prog Y8w := {
 mixed := by kernel_rfl
 f129 := Tryz.func187.trans (congrArg some (by kernel_rfl))
 f171 := Tryz.func85.trans (congrArg some (by kernel_rfl))
 f243 := Tryz.func123.trans (congrArg some (by kernel_rfl))
 f246 := Tryz.func158.trans (congrArg some (by kernel_rfl))
 f283 := Tryz.func176.trans (congrArg some (by kernel_rfl))
 f284 := Tryz.func177.trans (congrArg some (by kernel_rfl))
 f285 := Tryz.func178.trans (congrArg some (by kernel_rfl))
 f286 := Tryz.func179.trans (congrArg some (by kernel_rfl))
 f317 := Tryz.func186.trans (congrArg some (by kernel_rfl))
 f318 := Tryz.func188.trans (congrArg some (by kernel_rfl))
 f319 := Tryz.func189.trans (congrArg some (by kernel_rfl))
 f320 := Tryz.func190.trans (congrArg some (by kernel_rfl))
 f337 := Tryz.func191.trans (congrArg some (by kernel_rfl))
 f338 := Tryz.func192.trans (congrArg some (by kernel_rfl))
 t0 := Tryz.underlying0
 a0 := Tryz.isAgg0
 z0 := Tryz.sizeOf0
 v0 := Tryz.zeroValue0
 t2 := Tryz.underlying2
 a2 := Tryz.isAgg2
 z2 := Tryz.sizeOf2
 v2 := Tryz.zeroValue2
 t3 := Tryz.underlying3
 a3 := Tryz.isAgg3
 z3 := Tryz.sizeOf3
 v3 := Tryz.zeroValue3
 t4 := Tryz.underlying4
 a4 := Tryz.isAgg4
 z4 := Tryz.sizeOf4
 v4 := Tryz.zeroValue4
 t5 := Tryz.underlying5
 a5 := Tryz.isAgg5
 z5 := Tryz.sizeOf5
 v5 := Tryz.zeroValue5
 t9 := Tryz.underlying9
 a9 := Tryz.isAgg9
 z9 := Tryz.sizeOf9
 v9 := Tryz.zeroValue9
 t20 := Tryz.underlying20
 a20 := Tryz.isAgg20
 z20 := Tryz.sizeOf20
 v20 := Tryz.zeroValue20
 t37 := Tryz.underlying98
 a37 := Tryz.isAgg98
 z37 := Tryz.sizeOf98
 v37 := Tryz.zeroValue98
 t46 := Tryz.underlying113
 a46 := Tryz.isAgg113
 z46 := Tryz.sizeOf113
 v46 := Tryz.zeroValue113
 t51 := Tryz.underlying213
 a51 := Tryz.isAgg213
 z51 := Tryz.sizeOf213
 v51 := Tryz.zeroValue213
 t53 := Tryz.underlying75
 a53 := Tryz.isAgg75
 z53 := Tryz.sizeOf75
 v53 := Tryz.zeroValue75
 t171 := Tryz.underlying222
 a171 := Tryz.isAgg222
 z171 := Tryz.sizeOf222
 v171 := Tryz.zeroValue222
 t173 := Tryz.underlying225
 a173 := Tryz.isAgg225
 z173 := Tryz.sizeOf225
 v173 := Tryz.zeroValue225
 t212 := Tryz.underlying229
 a212 := Tryz.isAgg229
 z212 := Tryz.sizeOf229
 v212 := Tryz.zeroValue229
 t213 := Tryz.underlying230
 a213 := Tryz.isAgg230
 z213 := Tryz.sizeOf230
 t232 := Tryz.underlying233
 a232 := Tryz.isAgg233
 z232 := Tryz.sizeOf233
 v232 := Tryz.zeroValue233
 t233 := Tryz.underlying234
 a233 := Tryz.isAgg234
 z233 := Tryz.sizeOf234
 v233 := Tryz.zeroValue234
 g17 := by kernel_rfl
 g18 := by kernel_rfl
 g19 := by kernel_rfl
 i0 := by kernel_rfl
 i2 := by kernel_rfl
 i3 := by kernel_rfl
 i4 := by kernel_rfl
 i5 := by kernel_rfl
 i9 := by kernel_rfl
 i20 := by kernel_rfl
 i37 := by kernel_rfl
 i46 := by kernel_rfl
 i51 := by kernel_rfl
 i53 := by kernel_rfl
 i171 := by kernel_rfl
 i173 := by kernel_rfl
 i212 := by kernel_rfl
 i232 := by kernel_rfl
 i233 := by kernel_rfl
 m17 := by kernel_rfl
 m18 := by kernel_rfl
 m19 := by kernel_rfl }
theorem Yyt {w : World} (h : Cnd w) {name : String} (hg : Tryz.prog.globalNamed name = some 2) : Lib.TabIs Tryz.prog w name .u64 Lib.pow10Tab := by
 obtain ⟨t, x, e⟩ := h
 unfold Lib.TabIs World.var?
 rw [hg]
 simp [e]
theorem PRet.of_callsC {P : Program} {f : FuncId} {ds : List D} {us : List Value} {d : D} {u : Value} (hc : Y5b P f) (hds : ∀ F G vs, RepL F G ds vs → vs = us) (hd : ∀ F, Rep F [] d u)
    (h : ∀ w, Cnd w → Calls P f us.toArray w fun e w' => e = .returned u ∧ Below w.heap.size w w') : PRet P f ds d := by
  refine fun F G w vs hF hC hL => .inl ⟨hc, ?_⟩
  rw [hds F G vs hL]
  refine (h w hC).mono fun e w' hx => ?_
  obtain ⟨rfl, hb⟩ := hx
  exact ⟨F, u, rfl, .refl F, fun _ _ _ => rfl, hF.below hb, hd F, hb⟩
theorem itoa (n : Int) (h0 : -9223372036854775808 ≤ n) (h1 : n ≤ 9223372036854775807) : PRet Tryz.prog 85 [.v (.int .i64 n)] (.v (.string ⟨(Lib.itoa n).toArray⟩)) := by
 refine PRet.of_callsC (us := [.int .i64 n]) (u := .string ⟨(Lib.itoa n).toArray⟩) ⟨_, Tryz.func85, rfl, rfl⟩ (fun _ _ _ h => Y6s h) (fun F => Y1e _ _ _) fun w hC => ?_
 refine Calls.mono (show Calls Tryz.prog (Y8w.f 171) #[.int .i64 n] w _ from Any.strconv_Itoa Yt7 n h0 h1 w (Yyt hC (by kernel_rfl))) ?_
 rintro e w' ⟨rfl, k, os, rfl⟩
 exact ⟨rfl, Lib.below_grow _ w (Nat.le_refl _) k os⟩
end Go.Proofs.YtpbpafmgkdihlaaGreatDoor.T
namespace Go.Proofs.YtpbpafmgkdihlaaGreatDoor.T
open Go Go.RowKit
def itB (n : Int) : ByteArray := ⟨(Lib.itoa n).toArray⟩
theorem Y10b (n : Int) (h0 : -9223372036854775808 ≤ n) (h1 : n ≤ 9223372036854775807) : PRet Tryz.prog 124 [frD (n, 1)] (.v (.string (itB n))) := by
 refine pri 1 Tryz.func124 Tryz.ntmps124 fun t => ?_
 simp only [Y04]
 have hI := itoa n h0 h1
 refine gga1 hI ?_
 refine exq Tryz.results124 ?_
 rfl
theorem Y11q (n : Int) (h0 : -1152921504606846976 ≤ n) (h1 : n ≤ 1152921504606846976) (hv : Y09 n 1 = true) : PRet Tryz.prog 86 [frD (n, 1)] (.tup [.v (.string (itB n)), int 0]) := by
 refine pri 1 Tryz.func86 Tryz.ntmps86 fun t => ?_
 simp only [Y04]
 have hI := Y10b n (by omega) (by omega)
 have hV := Y5d n 1
 rw [hv] at hV
 refine gga2 hI hV ?_
 exact exx Tryz.results86
inductive Wd where
 | s (b : ByteArray)
 | n (k : Int)
 | f (k : Int)
def wdV : Wd → Value
 | .s b => .iface 9 (.string b)
 | .n k => .iface 3 (.int .i64 k)
 | .f k => .iface 33 (.agg #[.int .i64 k, .int .i64 1])
def wdB : Wd → ByteArray
 | .s b => b
 | .n k => itB k
 | .f k => itB k
def okW : Wd → Prop
 | .s b => 0 < b.size ∧ b.size ≤ 100
 | .n k => (-1152921504606846976 ≤ k ∧ k ≤ 1152921504606846976) ∧ 0 < (itB k).size ∧ (itB k).size ≤ 100
 | .f k => (-1152921504606846976 ≤ k ∧ k ≤ 1152921504606846976 ∧ Y09 k 1 = true) ∧ 0 < (itB k).size ∧ (itB k).size ≤ 100
theorem Ydi {w : Wd} (h : okW w) : 0 < (wdB w).size ∧ (wdB w).size ≤ 100 := by
 cases w with
 | s b => exact h
 | n k => exact h.2
 | f k => exact h.2
def spB : ByteArray := ⟨#[32]⟩
def nlB : ByteArray := ⟨#[10]⟩
def Y3s : List Wd → List D
 | [] => []
 | w :: ws => strD (wdB w) ++ ws.flatMap fun x => strD spB ++ strD (wdB x)
theorem Ylf (ws : List Wd) (w : Wd) : Y3s (ws ++ [w]) = Y3s ws ++ (if ws = [] then [] else strD spB) ++ strD (wdB w) := by
 cases ws with
 | nil => simp [Y3s]
 | cons a l => simp [Y3s]
theorem Yfm : ∀ (ws : List Wd), (∀ w ∈ ws, okW w) → (Y3s ws).length ≤ 101 * ws.length
 | [], _ => by simp [Y3s]
 | w :: ws, h => by
  have h1 := Ydi (h w (by simp))
  have h2 : (ws.flatMap fun x => strD spB ++ strD (wdB x)).length ≤ 101 * ws.length := by
   have : ∀ l : List Wd, (∀ w ∈ l, okW w) → (l.flatMap fun x => strD spB ++ strD (wdB x)).length ≤ 101 * l.length := fun l => by
    induction l with
    | nil => intro _; simp
    | cons a l ih =>
     intro h
     have h1 := Ydi (h a (by simp))
     have := ih fun x hx => h x (List.mem_cons_of_mem _ hx)
     simp only [List.flatMap_cons, List.length_append, Y78, List.length_cons]
     have : spB.size = 1 := rfl
     omega
   exact this ws fun x hx => h x (List.mem_cons_of_mem _ hx)
  simp only [Y3s, List.length_append, Y78, List.length_cons]
  omega
theorem Pap.lt {H : Hp} {pb gp ub gb : Nat} {P0 e : D} {bs : List D} (h : Pap H pb gp ub gb P0 e bs) : pb < H.length ∧ ub < H.length ∧ pb ≠ ub := by
 refine ⟨(List.getElem?_eq_some_iff.1 h.hp).1, (List.getElem?_eq_some_iff.1 h.hb).1, fun e => ?_⟩
 have h1 := h.hp
 rw [e, h.hb] at h1
 cases h1
theorem Y4j {H : Hp} {pb gp ub t : Nat} {e : D} {bs : List D} (h1 : pb < H.length) (h2 : ub < H.length) : Y3b H pb gp ub t e bs = (H.set ub (some ⟨5, t, bs⟩)).set pb (some ⟨102, gp, [.ptr pb gp 0, .own 1 ub t 0 bs.length, e]⟩) := by
 unfold Y3b
 rw [Y5n h2, Y5n (by rw [List.length_set]; exact h1)]
theorem Ymz {H : Hp} {pb gp ub t : Nat} {e : D} {bs : List D} (h1 : pb < H.length) (h2 : ub < H.length) (h3 : pb ≠ ub) : Pap (Y3b H pb gp ub t e bs) pb gp ub t (.ptr pb gp 0) e bs where
 hp := by rw [Y4j h1 h2, List.getElem?_set_self (by rw [List.length_set]; exact h1)]
 hb := by rw [Y4j h1 h2, List.getElem?_set_ne h3, List.getElem?_set_self h2]
 own := .inr rfl
theorem Y9r {H : Hp} {pb gp ub t : Nat} {e : D} {bs : List D} (h1 : pb < H.length) (h2 : ub < H.length) : (Y3b H pb gp ub t e bs).length = H.length := by
 rw [Y4j h1 h2, List.length_set, List.length_set]
theorem Y9q {H : Hp} {pb gp ub t t' : Nat} {e : D} {bs bs' : List D} (h1 : pb < H.length) (h2 : ub < H.length) (h3 : pb ≠ ub) : Y3b (Y3b H pb gp ub t e bs) pb gp ub t' e bs' = Y3b H pb gp ub t' e bs' := by
 rw [Y4j (H := Y3b H pb gp ub t e bs) (by rw [Y9r h1 h2]; exact h1) (by rw [Y9r h1 h2]; exact h2), Y4j h1 h2, Y4j h1 h2]
 apply List.ext_getElem?
 intro i
 by_cases e1 : pb = i
 ·subst e1
  rw [List.getElem?_set_self (by simpa using h1), List.getElem?_set_self (by simpa using h1)]
 ·rw [List.getElem?_set_ne e1, List.getElem?_set_ne e1]
  by_cases e2 : ub = i
  ·subst e2
   rw [List.getElem?_set_self (by simpa using h2), List.getElem?_set_self h2]
  ·rw [List.getElem?_set_ne e2, List.getElem?_set_ne e1, List.getElem?_set_ne e2, List.getElem?_set_ne e2]
theorem Yn0 {H R : Hp} {pb gp ub t : Nat} {e : D} {bs : List D} (h1 : pb < H.length) (h2 : ub < H.length) : Y3b (H ++ R) pb gp ub t e bs = Y3b H pb gp ub t e bs ++ R := by
 rw [Y4j h1 h2, Y4j (by rw [List.length_append]; omega) (by rw [List.length_append]; omega), List.set_append_left _ _ h2, List.set_append_left _ _ (by rw [List.length_set]; exact h1)]
theorem Pap.app {H R : Hp} {pb gp ub gb : Nat} {P0 e : D} {bs : List D} (h : Pap H pb gp ub gb P0 e bs) : Pap (H ++ R) pb gp ub gb P0 e bs where
 hp := by rw [List.getElem?_append_left h.lt.1]; exact h.hp
 hb := by rw [List.getElem?_append_left h.lt.2.1]; exact h.hb
 own := h.own
theorem Yzh (b : ByteArray) (w : World) : (Instr.typeAssert (.iface 9 (.string b)) 20 9 true).run Tryz.prog w = .ok (.tuple #[.string b, .bool true]) w := by kernel_rfl
theorem Yg2 (k : Int) (w : World) : (Instr.typeAssert (.iface 3 (.int .i64 k)) 20 9 true).run Tryz.prog w = .ok (.tuple #[.string ⟨#[]⟩, .bool false]) w := by kernel_rfl
theorem Yi1 (v : Value) (w : World) : (Instr.typeAssert (.iface 33 v) 20 9 true).run Tryz.prog w = .ok (.tuple #[.string ⟨#[]⟩, .bool false]) w := by kernel_rfl
theorem Yzi (k : Int) (w : World) : (Instr.typeAssert (.iface 3 (.int .i64 k)) 20 3 true).run Tryz.prog w = .ok (.tuple #[.int .i64 k, .bool true]) w := by kernel_rfl
theorem Yi2 (v : Value) (w : World) : (Instr.typeAssert (.iface 33 v) 20 3 true).run Tryz.prog w = .ok (.tuple #[.int .i64 0, .bool false]) w := by kernel_rfl
theorem Y11k (a b : Int) (w : World) : (Instr.typeAssert (.iface 33 (.agg #[.int .i64 a, .int .i64 b])) 20 33 true).run Tryz.prog w = .ok (.tuple #[.agg #[.int .i64 a, .int .i64 b], .bool true]) w := by kernel_rfl
theorem Yvw {P Q : Prop} (q : Q) (h : Q → P := by
 intro  hq
 (try with_reducible intro KR hKR)
 (refine qq1 ?_)
 (first | exact hq | (revert hKR; revert KR; exact hq))) : P := h  q
theorem Yap : ∀ (H R : Hp), hpLe (H ++ R) H
 | [], R => by cases R <;> trivial
 | x :: H, R => ⟨.inr rfl, Yap H R⟩
structure LineH (H0 H : Hp) (pb gp ub : Nat) (e : D) (bs : List D) (k : Nat) : Prop where
 len : H.length = H0.length
 pap : ∃ gb P0, Pap H pb gp ub gb P0 e bs
 is : k = 0 ∧ H = H0 ∨ ∃ t, H = Y3b H0 pb gp ub t e bs
theorem LineH.write {H0 H : Hp} {pb gp ub t : Nat} {e : D} {bs bs' : List D} {k k' : Nat} (h : LineH H0 H pb gp ub e bs k) : LineH H0 (Y3b H pb gp ub t e bs') pb gp ub e bs' k' := by
 obtain ⟨hl, ⟨gb, P0, hp⟩, hi⟩ := h
 obtain ⟨l1, l2, l3⟩ := hp.lt
 refine ⟨by rw [Y9r l1 l2, hl], ⟨_, _, Ymz l1 l2 l3⟩, .inr ⟨t, ?_⟩⟩
 rcases hi with ⟨_, rfl⟩ | ⟨t0, rfl⟩
 ·rfl
 ·rw [hl] at l1 l2
  exact Y9q l1 l2 l3
set_option maxHeartbeats 4000000 in
theorem Yal {H0 : Hp} {pb gp ub gb : Nat} {P0 e : D} {bs : List D} {ws : List Wd} {full : Bool} {t : Nat} {K : D → Hp → Nat → Prop} (h0 : Pap H0 pb gp ub gb P0 e bs) (hw : ∀ w ∈ ws, okW w) (hn : ws.length ≤ 100) (hl : bs.length ≤ 100000)
    (hK : ∀ t', t ≤ t' → K (.tup []) (Y3b H0 pb gp ub t' e (bs ++ Y3s ws ++ strD nlB)) t') : ACall Tryz.prog 58 [.ptr pb gp 0, .sl 1 (ws.map fun w => .v (wdV w)) full] H0 t K := by
  refine ACall.enter tab_ok Tryz.func58 rfl rfl Tryz.ntmps58 (by simp) ?_
  simp only [Y04]
  refine wqa ?_
  repeat refine Y00 ?_
  refine Y0i (fun x : Hp × Nat => ⟨[(0, .ptr pb gp 0)], x.1, x.2⟩) (fun x => LineH H0 x.1 pb gp ub e (bs ++ Y3s ws) ws.length ∧ t ≤ x.2) ?_ ?_
  · refine Y02 ?_
    refine Y05 (fun x : Nat × Hp × Nat => ⟨[(0, .ptr pb gp 0), (11, .sl 1 (ws.map fun w => .v (wdV w)) full), (12, int ws.length), (13, int x.1)], x.2.1, x.2.2⟩) (fun x => ws.length - x.1) (fun x => x.1 ≤ ws.length ∧ LineH H0 x.2.1 pb gp ub e (bs ++ Y3s (ws.take x.1)) x.1 ∧ t ≤ x.2.2) (0, H0, t) ⟨Nat.zero_le _, ⟨rfl, ⟨gb, P0, by simpa [Y3s] using h0⟩, .inl ⟨rfl, rfl⟩⟩, Nat.le_refl _⟩ ele ?_
    rintro ⟨k, H, tt⟩ ⟨hk, hH, htt⟩
    simp only at hk hH htt ⊢
    by_cases hlt : k < ws.length
    rotate_left 1
    · ((refine wqb (F := _∧_) ⟨@Int.ofNat_lt, hlt⟩ ?_))
      refine wia ?_
      refine wxa ?_
      have e1 : k = ws.length := by omega
      subst e1
      rw [List.take_length] at hH
      refine ⟨(H, tt), ⟨hH, htt⟩, ?_⟩
      exact ele
    obtain ⟨w, hx⟩ : ∃ w, ws[k]? = some w := ⟨_, List.getElem?_eq_getElem hlt⟩
    have hm := hw w (List.mem_of_getElem? hx)
    have hv : (ws.map fun w => D.v (wdV w))[k]? = some (.v (wdV w)) := by simp [hx]
    obtain ⟨hHl, ⟨gb1, P1, hp⟩, hHi⟩ := id hH
    have hpp := hp.hp
    have hpt : (Y3s (ws.take k)).length ≤ 10100 := by
      have := Yfm (ws.take k) fun x hx => hw x (List.mem_of_mem_take hx)
      rw [List.length_take] at this
      omega
    have hsz := Ydi hm
    ((refine wqb (F := _∧_) ⟨@Int.ofNat_lt, hlt⟩ ?_))
    refine wia ?_
    refine wsa ?_
    repeat refine Y00 ?_
    refine Y02 ?_
    ((refine wqb (F := _∧_) ⟨hlt, hv⟩ ?_))
    have es : spB.size = 1 := rfl
    refine Y00 ?_
    refine Y0i (fun x : Hp × Nat => ⟨[(0, .ptr pb gp 0), (5, .v (wdV w)), (11, .sl 1 (ws.map fun w => .v (wdV w)) full), (12, int ws.length), (13, int k)], x.1, x.2⟩) (fun x => LineH H0 x.1 pb gp ub e (bs ++ Y3s (ws.take k) ++ (if k = 0 then [] else strD spB)) k ∧ t ≤ x.2) ?_ ?_
    · by_cases hk0 : k = 0
      · subst hk0
        refine gga0 ?_
        refine ⟨(H, tt), ⟨by simpa using hH, htt⟩, ?_⟩
        exact ele
      · have e1 : ((0 : Int) < (k : Int)) = True := by simp; omega
        refine wqb e1 ?_
        refine wia ?_
        ((repeat refine Y00 ?_); (refine Y03 tab_ok fun KR hKR => ?_))
        refine wrb hpp ?_
        ((try with_reducible intro KR hKR); (first | refine Y0f fun KK hKK => ?_ | refine Y08 rfl fun KK hKK => ?_); simp (disch := omega) only [bb, bt, zDs, zD, Y01, simprocAttr, goC, Y0e, Y0m, and_self])
        refine Y4a hp (s := spB) (by decide) (by rw [List.length_append]; omega) ?_
        (simp (disch := omega) only [bb, bt, zDs, zD, Y01, simprocAttr, Y0n]; refine hKK _ ?_; clear hKK KK)
        ((refine wea ?_); (try clear hKR KR))
        refine ⟨(Y3b H pb gp ub (tt + 1) e (bs ++ Y3s (ws.take k) ++ strD spB), tt + 1), ⟨by rw [if_neg hk0]; exact hH.write, by show t ≤ tt + 1; omega⟩, ?_⟩
        exact ele
    rintro ⟨H1, t1⟩ ⟨hH1, ht1⟩
    simp only at hH1 ht1 ⊢
    obtain ⟨hHl1, ⟨gb2, P2, hp1⟩, hHi1⟩ := id hH1
    have hpp1 := hp1.hp
    have htk : ws.take (k + 1) = ws.take k ++ [w] := by rw [List.take_succ, hx]; rfl
    have hpush : bs ++ Y3s (ws.take (k + 1)) = bs ++ Y3s (ws.take k) ++ (if k = 0 then [] else strD spB) ++ strD (wdB w) := by
      rw [htk, Ylf]
      have : (ws.take k = []) = (k = 0) := by
        rw [List.take_eq_nil_iff]
        apply propext
        constructor
        · rintro (h | h)
          · exact h
          · subst h; simp at hlt
        · exact .inl
      simp only [this, List.append_assoc]
    have hbl : (bs ++ Y3s (ws.take k) ++ (if k = 0 then [] else strD spB)).length ≤ 120000 := by
      simp only [List.length_append]
      split
      · simp; omega
      · rw [Y78]; omega
    generalize hbs : bs ++ Y3s (ws.take k) ++ (if k = 0 then [] else strD spB) = bs1 at *
    repeat refine Y00 ?_
    refine wqa ?_
    cases w with
    | s b =>
      simp only [wdB, okW] at hm hsz hpush
      have ev : wdV (.s b) = .iface 9 (.string b) := rfl
      rw [ev]
      refine Y02 ?_
      repeat refine Y00 ?_
      ((repeat refine Y00 ?_); (refine Y03 tab_ok fun KR hKR => ?_))
      refine Ykh (by decide) rfl (Yzh b) fun KK hKK => ?_
      simp only [St.put, Y1r, ↓reduceIte, Nat.reduceEqDiff]
      refine hKK _ ?_
      clear hKK KK
      refine wra ?_
      ((refine wea ?_); (try clear hKR KR))
      refine wia ?_
      refine wqa ?_
      ((repeat refine Y00 ?_); (refine Y03 tab_ok fun KR hKR => ?_))
      refine wrb hpp1 ?_
      ((try with_reducible intro KR hKR); (first | refine Y0f fun KK hKK => ?_ | refine Y08 rfl fun KK hKK => ?_); simp (disch := omega) only [bb, bt, zDs, zD, Y01, simprocAttr, goC, Y0e, Y0m, and_self])
      refine Y4a hp1 (s := b) hsz.1 (by omega) ?_
      (simp (disch := omega) only [bb, bt, zDs, zD, Y01, simprocAttr, Y0n]; refine hKK _ ?_; clear hKK KK)
      ((refine wea ?_); (try clear hKR KR))
      refine gga0 ?_
      refine ⟨(k + 1, Y3b H1 pb gp ub (t1 + 1) e (bs1 ++ strD b), t1 + 1), ⟨hlt, by rw [hpush]; exact hH1.write, by show t ≤ t1 + 1; omega⟩, by show ws.length - (k + 1) < ws.length - k; omega, ?_⟩
      exact ele
    | n b =>
      simp only [wdB, okW] at hm hsz hpush
      have ev : wdV (.n b) = .iface 3 (.int .i64 b) := rfl
      rw [ev]
      refine Y02 ?_
      repeat refine Y00 ?_
      ((repeat refine Y00 ?_); (refine Y03 tab_ok fun KR hKR => ?_))
      refine Y8n (dz := .v (.string ⟨#[]⟩)) (by decide) rfl (Yg2 b) (fun _ _ => Y1e _ _ _) fun KK hKK => ?_
      simp only [St.put, Y1r, ↓reduceIte, Nat.reduceEqDiff]
      refine hKK _ ?_
      clear hKK KK
      refine wra ?_
      ((refine wea ?_); (try clear hKR KR))
      refine wia ?_
      ((repeat refine Y00 ?_); (refine Y03 tab_ok fun KR hKR => ?_))
      refine Ykh (by decide) rfl (Yzi b) fun KK hKK => ?_
      simp only [St.put, Y1r, ↓reduceIte, Nat.reduceEqDiff]
      refine hKK _ ?_
      clear hKK KK
      refine wra ?_
      ((refine wea ?_); (try clear hKR KR))
      refine wia ?_
      refine wqa ?_
      refine Y24 tab_ok Y06 0 5 rfl (by kernel_rfl) fun KR hKR => ?_
      simp only [List.take_succ_cons, List.take_zero]
      have hI := itoa b (by omega) (by omega)
      refine wdb hpp1 ?_
      ((first | refine Y14 fun KK hKK => ?_ | refine Y15 rfl fun KK hKK => ?_); simp (disch := omega) only [bb, bt, zDs, zD, Y01, simprocAttr, Y2a, Y0t, Y3y, Y0m, ufa, uf]; refine PGive.ret (hI) ?_; simp (disch := omega) only [bb, bt, zDs, zD, Y01, simprocAttr, Y1d]; refine hKK _ _ _ ?_; clear hKK KK)
      refine Y0k ?_
      simp only [List.reverse_cons, List.reverse_nil, List.nil_append, List.cons_append]
      refine hKR _ _ (by kernel_rfl) fun KS hKS => ?_
      clear hKR KR
      simp only [List.drop_succ_cons, List.drop_zero]
      ((try with_reducible intro KR hKR); (first | refine Y0f fun KK hKK => ?_ | refine Y08 rfl fun KK hKK => ?_); simp (disch := omega) only [bb, bt, zDs, zD, Y01, simprocAttr, goC, Y0e, Y0m, and_self])
      refine Y4a hp1 (s := itB b) hsz.1 (by omega) ?_
      (simp (disch := omega) only [bb, bt, zDs, zD, Y01, simprocAttr, Y0n]; refine hKK _ ?_; clear hKK KK)
      refine Y0o ?_
      refine hKS _ ?_
      clear hKS KS
      refine Yvw ?_
      refine gga0 ?_
      refine ⟨(k + 1, Y3b H1 pb gp ub (t1 + 1 + 1) e (bs1 ++ strD (itB b)), t1 + 1 + 1), ⟨hlt, by rw [hpush]; exact hH1.write, by show t ≤ t1 + 1 + 1; omega⟩, by show ws.length - (k + 1) < ws.length - k; omega, ?_⟩
      exact ele
    | f b =>
      simp only [wdB, okW] at hm hsz hpush
      have ev : wdV (.f b) = .iface 33 (.agg #[.int .i64 b, .int .i64 1]) := rfl
      rw [ev]
      refine Y02 ?_
      repeat refine Y00 ?_
      ((repeat refine Y00 ?_); (refine Y03 tab_ok fun KR hKR => ?_))
      refine Y8n (dz := .v (.string ⟨#[]⟩)) (by decide) rfl (Yi1 _) (fun _ _ => Y1e _ _ _) fun KK hKK => ?_
      simp only [St.put, Y1r, ↓reduceIte, Nat.reduceEqDiff]
      refine hKK _ ?_
      clear hKK KK
      refine wra ?_
      ((refine wea ?_); (try clear hKR KR))
      refine wia ?_
      ((repeat refine Y00 ?_); (refine Y03 tab_ok fun KR hKR => ?_))
      refine Y8n (dz := int 0) (by decide) rfl (Yi2 _) (fun _ _ => Y1e _ _ _) fun KK hKK => ?_
      simp only [St.put, Y1r, ↓reduceIte, Nat.reduceEqDiff]
      refine hKK _ ?_
      clear hKK KK
      refine wra ?_
      ((refine wea ?_); (try clear hKR KR))
      refine wia ?_
      ((repeat refine Y00 ?_); (refine Y03 tab_ok fun KR hKR => ?_))
      refine Y49 rfl (by decide) (.tup [.agg [int b, int 1], .v (.bool true)]) (fun w0 F G a w hs => ?_) fun KK hKK => ?_
      · have hv := hs.2.1.eval tab 20 (.tmp 24)
        simp only [Rep, Yb0, look, ↓reduceIte, Nat.reduceEqDiff] at hv
        refine ⟨.tuple #[.agg #[.int .i64 b, .int .i64 1], .bool true], by simp [execOp, hv, Y11k], ?_⟩
        simp only [Rep]
        refine ⟨_, rfl, ?_⟩
        simp only [RepL, Rep]
        exact ⟨_, _, rfl, ⟨_, rfl, _, _, rfl, rfl, _, _, rfl, rfl, rfl⟩, _, _, rfl, rfl, rfl⟩
      simp only [St.put, Y1r, ↓reduceIte, Nat.reduceEqDiff]
      refine hKK _ ?_
      clear hKK KK
      refine wra ?_
      ((refine wea ?_); (try clear hKR KR))
      refine wia ?_
      have hT := Y11q b hm.1.1 hm.1.2.1 hm.1.2.2
      have hg : ∀ X : Option Blk, (H1 ++ [X])[H1.length]? = some X := fun X => by simp
      have hst : ∀ X Y : Option Blk, (H1 ++ [X]).set H1.length Y = H1 ++ [Y] := fun X Y => by simp
      have hne1 : (H1.length = H1.length + 1) = False := by simp
      ((refine wqb (F := _∧_∧_) ⟨hg, hst, hne1⟩ ?_))
      have hpa := hp1.app (R := [some ⟨33, t1 + 1, [int b, int 1]⟩])
      have hppa := hpa.hp
      ((refine ggb1 (F := _∧_) ⟨hg, hppa⟩ hT ?_))
      ((try with_reducible intro KR hKR); (first | refine Y0f fun KK hKK => ?_ | refine Y08 rfl fun KK hKK => ?_); simp (disch := omega) only [bb, bt, zDs, zD, Y01, simprocAttr, goC, Y0e, Y0m, and_self])
      refine Y4a hpa (s := itB b) hsz.1 (by omega) ?_
      rw [Yn0 hp1.lt.1 hp1.lt.2.1]
      (simp (disch := omega) only [bb, bt, zDs, zD, Y01, simprocAttr, Y0n]; refine hKK _ ?_; clear hKK KK)
      ((refine wea ?_); (try clear hKR KR))
      refine gga0 ?_
      refine ⟨(k + 1, Y3b H1 pb gp ub (t1 + 1 + 1) e (bs1 ++ strD (itB b)), t1 + 1 + 1), ⟨hlt, by rw [hpush]; exact hH1.write, by show t ≤ t1 + 1 + 1; omega⟩, by show ws.length - (k + 1) < ws.length - k; omega, ?_⟩
      have hap : ∀ R, hpLe (Y3b H1 pb gp ub (t1 + 1 + 1) e (bs1 ++ strD (itB b)) ++ R) (Y3b H1 pb gp ub (t1 + 1 + 1) e (bs1 ++ strD (itB b))) := fun R => Yap _ R
      (simp (disch := omega) only [StLe, tmLe, Y0b, hpLe, bl, bb, bt, zDs, zD, Y01, simprocAttr, hap])
  rintro ⟨H, tt⟩ ⟨hH, htt⟩
  simp only at hH htt ⊢
  obtain ⟨hHl, ⟨gb1, P1, hp⟩, hHi⟩ := id hH
  have hpp := hp.hp
  have hpt := Yfm ws hw
  have es : nlB.size = 1 := rfl
  ((repeat refine Y00 ?_); (refine Y03 tab_ok fun KR hKR => ?_))
  refine wrb hpp ?_
  ((try with_reducible intro KR hKR); (first | refine Y0f fun KK hKK => ?_ | refine Y08 rfl fun KK hKK => ?_); simp (disch := omega) only [bb, bt, zDs, zD, Y01, simprocAttr, goC, Y0e, Y0m, and_self])
  refine Y4a hp (s := nlB) (by decide) (by rw [List.length_append]; omega) ?_
  (simp (disch := omega) only [bb, bt, zDs, zD, Y01, simprocAttr, Y0n]; refine hKK _ ?_; clear hKK KK)
  ((refine wea ?_); (try clear hKR KR))
  simp only [retQ, Tryz.results58, resD, oneD]
  have e1 : Y3b H pb gp ub (tt + 1) e (bs ++ Y3s ws ++ strD nlB) = Y3b H0 pb gp ub (tt + 1) e (bs ++ Y3s ws ++ strD nlB) := by
    rcases hHi with ⟨_, rfl⟩ | ⟨t0, rfl⟩
    · rfl
    · obtain ⟨l1, l2, l3⟩ := h0.lt
      exact Y9q l1 l2 l3
  rw [← List.append_assoc, e1]
  exact hK _ (by omega)
theorem Ynq {F : Mem} {G : Ghost} {l : ByteArray} {vs : List Value} (h : RepL F G (strD l) vs) : vs = Lib.strCells l := by
 have : strD l = (Lib.strCells l).map .v := by simp [strD, Lib.strCells]
 rw [this] at h
 exact Y6s h
set_option maxHeartbeats 2000000 in
set_option maxRecDepth 100000 in
theorem Ykz (r g cap : Nat) (l : List UInt8) (p e : Value) (junk : List Value) (cur : Array Value) (w : World) (h0 : l ≠ []) (hbk : w.heap[r]? = some (.cells ([p, .slice (some ⟨g, 0, none⟩) l.length cap, e] ++ junk).toArray 102 (0, 0)))
    (hg : w.heap[g]? = some (.cells cur 5 (0, 0))) (hc : l.length ≤ cap) (hm : cap ≤ maxLen) (hcs : cap ≤ cur.size) (hcell : ∀ j x, l[j]? = some x → w.cell? ⟨g, j, none⟩ = some (.int .u8 x.toNat)) :
    Calls Tryz.prog 87 #[.pointer (some ⟨r, 0, none⟩)] w fun z w' => z = .returned (.string ⟨l.toArray⟩) ∧ ∃ k, w' = (w.drewN k).freeze ⟨g, 0, none⟩ l.length := by
  have hl0 : l.length ≠ 0 := by simpa using h0
  have c1 : w.drew.cell? ⟨r, 1, none⟩ = some (.slice (some ⟨g, 0, none⟩) l.length cap) := by
    have : w.drew.heap[r]? = some (.cells ([p, .slice (some ⟨g, 0, none⟩) l.length cap, e] ++ junk).toArray 102 (0, 0)) := hbk
    rw [Lib.cell_of_heap this]; rfl
  have hSD : (Builtin.unsafeSliceData_ #[98] 179 #[.slice (some ⟨g, 0, none⟩) l.length cap]).run Tryz.prog w.drew = .ok (.pointer (some ⟨g, 0, none⟩)) w.drew :=
    Lib.run_unsafeSliceData_row _ _ _ _ _ _ (by omega)
  have hUS : (Builtin.unsafeString_ #[179, 3] 9 #[.pointer (some ⟨g, 0, none⟩), .int .i64 l.length]).run Tryz.prog w.drew = .ok (.string ⟨l.toArray⟩) (w.drew.freeze ⟨g, 0, none⟩ l.length) := by
    refine Lib.run_unsafeString_row w.drew 179 3 9 5 Tryz.underlying179 (by kernel_rfl) g cur.size (by have hg' : w.drew.heap[g]? = some (.cells cur 5 (0, 0)) := hg; simp [World.shape?, hg']) l h0 (by omega) (by unfold maxLen at hm; omega) ?_
    intro j x hx
    have := hcell j x hx
    rw [Y2e, Nat.zero_add]
    exact this
  have mixed : Tryz.prog.follows .mixedOrders = true := Y06
  go_enter Tryz.func87, Tryz.ntmps87
  go_wp2
  go_region_o
  all_goals (go_wp2; go_ret; exact ⟨rfl, 1, rfl⟩)
theorem Yh6 {H : Hp} {pb gp ub gb : Nat} {P0 e : D} {l : ByteArray} {t : Nat} {K : D → Hp → Nat → Prop} (h : Pap H pb gp ub gb P0 e (strD l)) (h0 : 0 < l.size) (hK : K (.v (.string l)) [] t) : ACall Tryz.prog 87 [.ptr pb gp 0] H t K := by
 refine fun w0 F G w us R hL => .inl ⟨⟨_, Tryz.func87, rfl, rfl⟩, ?_⟩
 simp only [RepL] at hL
 obtain ⟨u, _, rfl, hu, rfl⟩ := hL
 obtain ⟨r, size, vs, junk, hG, rfl, hr0, hh, hL⟩ := R.ptr_some hu h.hp
 simp only [RepL] at hL
 obtain ⟨p, _, rfl, _, v, _, rfl, hv, e', _, rfl, _, rfl⟩ := hL
 have hsl := Y78 l
 rcases R.own_some hv h.hb rfl with ⟨_, hz, _⟩ | ⟨g, size', cap, vs', junk', hG', rfl, hcap, hcm, hsz, hg0, hh', hlv, hL'⟩
 ·omega
 rw [Ynq hL'] at hh' hlv
 have hll : l.data.toList.length = l.size := by rw [Array.length_toList]; rfl
 have hl0 : l.data.toList ≠ [] := fun e => by rw [e] at hll; simp at hll; omega
 rw [hsl, ← hll] at hh hcap
 obtain ⟨q, hq, hlie⟩ := R.own ub _ h.hb
 rw [hG'] at hq
 cases hq
 have hFg : ∀ o, F g o = none := hlie.2.2.1
 have hC := Ykz r g cap l.data.toList p e' junk (Lib.strCells l ++ junk').toArray w hl0 hh hh' hcap hcm (by simp only [List.size_toArray, List.length_append]; omega) (fun j x hx => by
  rw [cell_of_row w g j _ _ _ hh']
  have : (Lib.strCells l)[j]? = some (.int .u8 x.toNat) := by simp [Lib.strCells, hx]
  simp only [List.getElem?_toArray]
  rw [List.getElem?_append_left (List.getElem?_eq_some_iff.1 this).1]
  exact this)
 refine hC.mono fun z w' ⟨hz, k, hw'⟩ => ?_
 have hbel : Below w0.heap.size w0 w' := by
  rw [hw']
  exact Lib.below_freeze (Ygp R.below k) hg0 _
 have hcellF : F.at_ w' := fun c o x hx => by
  have hne : c ≠ g := fun e => by rw [e, hFg o] at hx; cases hx
  rw [World.cell?_of_block (w := w) (by
   rw [hw']
   unfold World.freeze
   split
   ·rfl
   ·simp only [Array.getElem?_modify]
    rw [if_neg (fun e => hne e.symm)]
    rfl)]
  exact R.mem c o x hx
 refine ⟨F, G, .string l, .v (.string l), [], t, hz, .refl _ _ _, ⟨hbel, hcellF, Nat.zero_le _, R.top, fun i bl h => by simp at h, fun i j bi bj p q r s t u _ h => by simp at h, R.cnd⟩, Y1e _ _ _, hK⟩
theorem Ywn {H : Hp} {pb gp ub gb : Nat} {P0 : D} {l : ByteArray} {t : Nat} {K : D → Hp → Nat → Prop} (h : Pap H pb gp ub gb P0 (int 0) (strD l)) (h0 : 0 < l.size) (hK : K (.tup [.v (.string l), int 0]) [] t) : ACall Tryz.prog 59 [.ptr pb gp 0] H t K := by
 refine ACall.enter tab_ok Tryz.func59 rfl rfl Tryz.ntmps59 (by simp) ?_
 simp only [Y04]
 have hp := h.hp
 refine ggb0 hp ?_
 ((try with_reducible intro KR hKR); (first | refine Y0f fun KK hKK => ?_ | refine Y08 rfl fun KK hKK => ?_); simp (disch := omega) only [bb, bt, zDs, zD, Y01, simprocAttr, goC, Y0e, Y0m, and_self])
 refine Yh6 h h0 ?_
 (simp (disch := omega) only [bb, bt, zDs, zD, Y01, simprocAttr, Y0n]; refine hKK _ ?_; clear hKK KK)
 refine wra ?_
 ((refine wea ?_); (try clear hKR KR))
 ((repeat refine Y00 ?_); (refine wta ?_); simp (disch := omega) only [retQ, resD, oneD, bb, bt, zDs, zD, Y01, simprocAttr, Tryz.results59])
 exact hK
theorem Yjw {P Q : Prop} (q : Q) (h : Q → P := by
 intro  hq
 (try with_reducible intro KR hKR)
 (repeat refine Y00 ?_); (repeat refine Y00 ?_); (refine Y0d tab_ok Y06 0 fun KR hKR => ?_); simp only [List.replicate_succ, List.replicate_zero, List.append_nil, List.nil_append, List.cons_append, List.length_cons, List.length_nil, Nat.reduceAdd]; (repeat' ((first | refine Y2s rfl fun KK hKK => ?_ | refine Y2t rfl rfl fun KK hKK => ?_ | refine Y15 rfl fun KK hKK => ?_ | refine Y14 fun KK hKK => ?_); simp (disch := omega) only [bb, bt, zDs, zD, Y01, simprocAttr, bne_self_eq_false, Int.reduceBNe, Int.reduceBEq, Bool.bne_false, Bool.bne_true, Bool.false_bne, Bool.true_bne]; refine hKK _ _ _ ?_; clear hKK KK)); (refine Y0k ?_); simp only [List.reverse_cons, List.reverse_nil, List.nil_append, List.cons_append]; (refine hKR _ _ (by first | rfl | kernel_rfl) ?_); (try clear hKR KR); (refine qq1 ?_)
 (first | exact hq | (revert hKR; revert KR; exact hq))) : P := h  q
theorem Yhk (n : Int) : PRet Tryz.prog 92 [int n] (bool (decide (n < 0) || decide (1048576 < n))) := by
 refine pri 1 Tryz.func92 Tryz.ntmps92 fun t => ?_
 simp only [Y04]
 cases h1 : decide (n < 0)
 ·refine ggb0 h1 ?_
  refine exq Tryz.results92 ?_
  simp
 ·refine ggb0 h1 ?_
  refine exq Tryz.results92 ?_
  simp
theorem Yom : PRet Tryz.prog 61 [.sl 1 [int 3, int 1, int 5] false] (int 0) := by
 have hC := Y3x [int 3, int 1, int 5] 92 [] (fun _ => false) (by decide) (fun x hx => by
  simp only [List.mem_cons, List.not_mem_nil, or_false] at hx
  rcases hx with rfl | rfl | rfl
  ·exact Yhk 3
  ·exact Yhk 1
  ·exact Yhk 5)
 rw [show ([int 3, int 1, int 5].any fun _ => false) = false from rfl] at hC
 refine pri 1 Tryz.func61 Tryz.ntmps61 fun t => ?_
 simp only [Y04]
 refine wqa ?_
 repeat refine Y00 ?_
 refine Y02 ?_
 refine gga1 hC ?_
 exact exx Tryz.results61
theorem Yni : PRet Tryz.prog 25 [.sl 1 [int 3, int 1, int 5] false] (.tup [int 6, int 0]) := by
 refine pri 2 Tryz.func25 Tryz.ntmps25 fun t => ?_
 simp only [Y04]
 have hP := Yom
 refine gga1 hP ?_
 repeat refine Y00 ?_
 refine Y0i (fun x : Nat => ⟨[(5, int 6)], [], x⟩) (fun _ => True) ?_ ?_
 ·refine Y02 ?_
  refine Y05 (fun x : (Nat × Int) × Nat => ⟨[(0, .sl 1 [int 3, int 1, int 5] false), (5, int x.1.2), (6, int x.1.1)], [], x.2⟩) (fun x => 3 - x.1.1) (fun x => x.1 = (1, 0) ∨ x.1 = (2, 2) ∨ x.1 = (3, 6)) ((1, 0), t) (.inl rfl) ele ?_
  rintro ⟨⟨k, s⟩, tt⟩ h
  simp only [Prod.mk.injEq] at h
  rcases h with ⟨rfl, rfl⟩ | ⟨rfl, rfl⟩ | ⟨rfl, rfl⟩
  ·refine gga0 ?_
   repeat refine Y00 ?_
   refine Y02 ?_
   ((repeat refine Y00 ?_); (refine Yjw ?_))
   refine gga0 ?_
   refine ⟨((2, 2), tt + 1), .inr (.inl rfl), by show 3 - 2 < 3 - 1; decide, ?_⟩
   exact ele
  ·refine gga0 ?_
   repeat refine Y00 ?_
   refine Y02 ?_
   ((repeat refine Y00 ?_); (refine Yjw ?_))
   refine gga0 ?_
   refine ⟨((3, 6), tt + 1), .inr (.inr rfl), by show 3 - 3 < 3 - 2; decide, ?_⟩
   exact ele
  ·refine gga0 ?_
   refine ⟨tt, trivial, ?_⟩
   exact ele
 rintro w -
 refine gga0 ?_
 ((repeat refine Y00 ?_); (refine wta ?_); simp (disch := omega) only [retQ, resD, oneD, bb, bt, zDs, zD, Y01, simprocAttr, Tryz.results25])
 rfl
end Go.Proofs.YtpbpafmgkdihlaaGreatDoor.T
