import Derived.Test.YthabldkbiedfmaaTB
import Derived.Test.YthabldkbiedfmaaYWRWRB
import Derived.Test.YthabldkbiedfmaaYWZSL
import Derived.Test.YthabldkbiedfmaaTJ
import Derived.Test.YthabldkbiedfmaaWA
import Derived.Test.YthabldkbiedfmaaRows
import Derived.Lib.SmallJoins
import Derived.ProofKit
import Derived.Test.YthabldkbiedfmaaWJ
import Derived.Test.YthabldkbiedfmaaSG
set_option linter.all false
namespace Go.Proofs.Ythabldkbiedfmaa.T
open Go Go.RowKit Lin
set_option linter.unusedSimpArgs false

/-! Slices within slices: it is forgotten that they are as long as their memory. -/
def uu : Nat → D → D
  | k + 1, .sl sz cs _ => .sl sz (cs.map (uu k)) false
  | _, d => d
theorem uu_rep {F : Mem} {G : Ghost} : ∀ (k : Nat) (d : D) (u : Value), Rep F G d u → Rep F G (uu k d) u
  | 0, d, u, h => by simpa only [uu] using h
  | k + 1, d, u, h => by
    cases d with
    | sl sz cs full =>
      simp only [Rep, uu] at h ⊢
      obtain ⟨a, len, cap, h1, h2, h3, h4, h5⟩ := h
      refine ⟨a, len, cap, h1, by rw [h2, List.length_map], h3, fun e => by simp at e, ?_⟩
      rcases h5 with rfl | ⟨blk, off, vs, e, hc, hr⟩
      · left; rfl
      · exact .inr ⟨blk, off, vs, e, hc, RepL_map (fun d u _ h => uu_rep k d u h) hr⟩
    | _ => simpa only [uu] using h
theorem ACall.of_flat {P : Program} {f : FuncId} {ds ds' : List D} {d : D} {H : Hp} {t : Nat} {K : D → Hp → Nat → Prop} (h : PRet P f ds' d) (hd : (ds.map (uu 2)).map ufa = ds') (hk : K d H t) : ACall P f ds H t K := fun w0 F G w us R hL => by
  have hL' : RepL F G (ds.map (uu 2)) us := RepL_map (fun d u _ hd => uu_rep 2 d u hd) hL
  exact (ACall.of_pret (K := K) h hd hk) w0 F G w us R hL'
theorem awake_solve : solveP [[2, 1], [1, -1]] [5, 1] = ([(2, 1), (1, 1)], 0) := by decide +kernel
theorem awake_det : detP [[2, 1], [1, -1]] = -3 := by decide +kernel
theorem awake_valid : validP [[2, 1], [1, -1]] = true := by decide +kernel
theorem awake_null : nullP [[1, 2, 3]] = ([[(-2, 1), (1, 1), (0, 1)], [(-3, 1), (0, 1), (1, 1)]], 0) := by decide +kernel
end Go.Proofs.Ythabldkbiedfmaa.T

namespace Go.Proofs.Ythabldkbiedfmaa.T
open Go Go.RowKit Lin
theorem gdza3_SM {C1 C2 C3 P Q : Prop} (c1 : C1) (c2 : C2) (c3 : C3) (q : Q) (h : C1 → C2 → C3 → Q → P := by
  intro cc1 cc2 cc3 hq
  (try with_reducible intro KR hKR)
  (repeat refine AW_seq ?_); (repeat refine AW_seq ?_); (refine AW_drawn_k tab_ok follows_mixed 0 fun KR hKR => ?_); simp only [List.replicate_succ, List.replicate_zero, List.append_nil, List.nil_append, List.cons_append, List.length_cons, List.length_nil, Nat.reduceAdd]; (repeat' ((first | refine awD_n rfl fun KK hKK => ?_ | refine awD_g rfl rfl fun KK hKK => ?_ | refine awD_gc rfl fun KK hKK => ?_ | refine awD_nc fun KK hKK => ?_); simp (disch := omega) only [bb, bt, zDs, zD, eqCells, simprocAttr, bne_self_eq_false, Int.reduceBNe, Int.reduceBEq, Bool.bne_false, Bool.bne_true, Bool.false_bne, Bool.true_bne, goCDS, callDS_fn, argsZ, argsD, ufa, uf]; (try ((first | with_reducible refine PGive.ret (cc1) ?_ | with_reducible refine PGive.ret (cc2) ?_ | with_reducible refine PGive.ret (cc3) ?_); simp (disch := omega) only [bb, bt, zDs, zD, eqCells, simprocAttr, afterDS, bne_self_eq_false, Int.reduceBNe, Int.reduceBEq, Bool.bne_false, Bool.bne_true, Bool.false_bne, Bool.true_bne])); refine hKK _ _ _ ?_; clear hKK KK)); (refine awD_nil ?_); simp only [List.reverse_cons, List.reverse_nil, List.nil_append, List.cons_append]; (refine hKR _ _ (by first | rfl | kernel_rfl) ?_); (try clear hKR KR); (repeat (with_reducible first | refine q1 ?_ | refine q2 ?_ | refine q3 ?_ | refine q4 ?_ | refine q5 ?_ | refine q6 ?_ | (refine q7 ?_ ?_; (focus (with_unfolding_all rfl)))))
  (first | exact hq | (revert hKR; revert KR; exact hq))) : P := h c1 c2 c3 q
theorem gga4_SM {C1 C2 C3 C4 P Q : Prop} (c1 : C1) (c2 : C2) (c3 : C3) (c4 : C4) (q : Q) (h : C1 → C2 → C3 → C4 → Q → P := by
  intro cc1 cc2 cc3 cc4 hq
  (try with_reducible intro KR hKR)
  (repeat' (first | (with_reducible refine AW_seq ?_) | (with_reducible refine AW_region_k tab_ok fun KR hKR => ?_) | ((first | with_reducible refine AW_skip ?_ | with_reducible refine AW_exit ?_ | ((with_reducible refine awOps_nil ?_); refine hKR _ ?_; (try clear hKR KR))); (repeat (with_reducible first | refine q1 ?_ | refine q2 ?_ | refine q3 ?_ | refine q4 ?_ | refine q5 ?_ | refine q6 ?_ | (refine q7 ?_ ?_; (focus (with_unfolding_all rfl)))))) | ((first | ((with_reducible refine at_ops ?_); (first | refine awOps_n rfl fun KK hKK => ?_ | refine awOps_g rfl rfl fun KK hKK => ?_ | refine awOps_gc rfl fun KK hKK => ?_ | refine awOps_nc fun KK hKK => ?_)) | with_reducible refine AW_cond_k (tab := tab) fun KK hKK => ?_); simp (disch := omega) only [bb, bt, zDs, zD, eqCells, simprocAttr, bne_self_eq_false, Int.reduceBNe, Int.reduceBEq, Bool.bne_false, Bool.bne_true, Bool.false_bne, Bool.true_bne, goC, callO_fn, argsD, and_self]; (try ((first | (with_reducible refine ACall.of_pret (cc1) ?_ ?_; (focus (first | (simp only [um]; done) | rfl))) | (with_reducible refine ACall.of_pret (cc2) ?_ ?_; (focus (first | (simp only [um]; done) | rfl))) | (with_reducible refine ACall.of_pret (cc3) ?_ ?_; (focus (first | (simp only [um]; done) | rfl))) | (with_reducible refine ACall.of_pret (cc4) ?_ ?_; (focus (first | (simp only [um]; done) | rfl)))); simp only [afterC, St.put, putTM, ↓reduceIte, Nat.reduceEqDiff])); refine hKK _ ?_; clear hKK KK; (first | with_reducible refine at_ops ?_ | with_reducible refine i1 ?_ | with_reducible refine i0 ?_))))
  (first | exact hq | (revert hKR; revert KR; exact hq))) : P := h c1 c2 c3 c4 q
set_option linter.unusedSimpArgs false

/-! Chapter 11: the example, and the law of tensions. -/
theorem whole11 (n : Int) : PRet Try.prog 42 [int n] (frD (n, 1)) := by
  refine PRet.intro 1 fun t => ACall.enter tab_ok Try.func42 rfl rfl Try.ntmps42 (by simp) ?_
  simp only [enterTM]
  ((refine gga0 ?_))
  ((repeat refine AW_seq ?_); (refine wta ?_); simp (disch := omega) only [retQ, resD, oneD, rsv, rs, rsL, rsL_eq_map, List.map_map, bb, bt, zDs, zD, eqCells, simprocAttr, Try.results42])
theorem few11 (s : Sy) (l : List (Int × Int)) (hl : l.length ≤ 1000000) : PRet Try.prog 27 [syD s, frs l] (bool (smallS s && decide (l.length ≤ 10))) := by
  refine PRet.intro 1 fun t => ACall.enter tab_ok Try.func27 rfl rfl Try.ntmps27 (by simp) ?_
  simp only [enterTM]
  have hS := small_ref s
  have hfl := frC_len l
  have hf2 : (frC l).length / 2 = l.length := by omega
  have he : decide ((l.length : Int) ≤ 10) = decide (l.length ≤ 10) := by rw [decide_eq_decide]; omega
  cases hs : smallS s
  · rw [hs] at hS
    ((refine gga1 hS ?_))
    ((repeat refine AW_seq ?_); (refine wta ?_); simp (disch := omega) only [retQ, resD, oneD, rsv, rs, rsL, rsL_eq_map, List.map_map, bb, bt, zDs, zD, eqCells, simprocAttr, Try.results27])
  · rw [hs] at hS
    ((refine ggb1 (F := _∧_) ⟨hf2, he⟩ hS ?_))
    ((repeat refine AW_seq ?_); (refine wta ?_); simp (disch := omega) only [retQ, resD, oneD, rsv, rs, rsL, rsL_eq_map, List.map_map, bb, bt, zDs, zD, eqCells, simprocAttr, Try.results27])
def hB : ByteArray := ⟨#[98]⟩
def hR : ByteArray := ⟨#[114]⟩
def hE : ByteArray := ⟨#[]⟩
def tack : Bool → Sy
  | false => ⟨[⟨hB, 60⟩], [⟨hR, [⟨hE, 0, 1, 1⟩, ⟨hB, 2, 1, 1⟩, ⟨hE, 0, 1, 1⟩], true⟩]⟩
  | true => ⟨[⟨hB, 60⟩], [⟨hR, [⟨hB, 1, 1, 1⟩, ⟨hE, 0, 1, 1⟩, ⟨hB, 2, 1, 1⟩, ⟨hE, 0, 1, 1⟩], true⟩]⟩
theorem tackle11 (b : Bool) : PRet Try.prog 109 [bool b] (syD (tack b)) := by
  refine PRet.intro 3 fun t => ACall.enter tab_ok Try.func109 rfl rfl Try.ntmps109 (by simp) ?_
  simp only [enterTM]
  have hw := whole11 1
  cases b
  · ((refine gga1 hw ?_))
    ((repeat refine AW_seq ?_); (refine wta ?_); simp (disch := omega) only [retQ, resD, oneD, rsv, rs, rsL, rsL_eq_map, List.map_map, bb, bt, zDs, zD, eqCells, simprocAttr, Try.results109])
    rfl
  · ((refine gga1 hw ?_))
    ((repeat refine AW_seq ?_); (refine wta ?_); simp (disch := omega) only [retQ, resD, oneD, rsv, rs, rsL, rsL_eq_map, List.map_map, bb, bt, zDs, zD, eqCells, simprocAttr, Try.results109])
    rfl
theorem tack_fits (b : Bool) : Fits (tack b) := small_fits (by cases b <;> decide +kernel)
theorem tack_haul : haulP (tack false) = ((30, 1), 0) := by decide +kernel
theorem tack_tens : tensP (tack true) = ([(20, 1)], 0) := by decide +kernel
theorem awake11 : PRet Try.prog 26 [] (bool true) := by
  refine PRet.intro 1 fun t => ACall.enter tab_ok Try.func26 rfl rfl Try.ntmps26 (by simp) ?_
  simp only [enterTM]
  have hH := haul_prog (tack false) (tack_fits false)
  have hT := tens_prog (tack true) (tack_fits true)
  rw [tack_haul] at hH
  rw [tack_tens] at hT
  have t1 := tackle11 false
  have t2 := tackle11 true
  have w1 := whole11 30
  have w2 := whole11 20
  have hE : PRet Try.prog 32 [frs [(20, 1)], .sl 2 [int 20, int 1] false] (bool true) := equalFr [(20, 1)] [(20, 1)] (by simp) (by simp)
  ((refine gga4_SM t1 t2 hH hT ?_))
  ((repeat refine AW_seq ?_); (refine gdza3_SM w1 w2 hE ?_))
  ((repeat refine AW_seq ?_); (refine wta ?_); simp (disch := omega) only [retQ, resD, oneD, rsv, rs, rsL, rsL_eq_map, List.map_map, bb, bt, zDs, zD, eqCells, simprocAttr, Try.results26])
set_option maxHeartbeats 1000000 in
theorem law_tensions (s : Sy) : PRet Try.prog 3 [syD s] (bool true) := by
  refine PRet.intro 1 fun t => ACall.enter tab_ok Try.func3 rfl rfl Try.ntmps3 (by simp) ?_
  simp only [enterTM]
  have hF : PRet Try.prog 27 [syD s, .sl 2 [] false] (bool (smallS s && true)) := few11 s [] (by simp)
  rw [Bool.and_true] at hF
  cases hs : smallS s
  · rw [hs] at hF
    ((refine gga2 awake11 hF ?_))
    ((repeat refine AW_seq ?_); (refine wta ?_); simp (disch := omega) only [retQ, resD, oneD, rsv, rs, rsL, rsL_eq_map, List.map_map, bb, bt, zDs, zD, eqCells, simprocAttr, Try.results3])
  rw [hs] at hF
  have hf := small_fits hs
  have hT := tens_prog s hf
  have hU := tens_ref s hf
  have hH := haul_prog s hf
  have hI := haul_ref s hf
  have hle := tensP_le s
  generalize tensP s = X at *
  generalize haulP s = Y at *
  have hQ := equalFr X.1 X.1 (by omega) (by omega)
  rw [beq_self_eq_true] at hQ
  have e1 : (X.2 == X.2) = true := by simp
  have e2 : (Y.2 == Y.2) = true := by simp
  have e3 : (Y.1.1 == Y.1.1) = true := by simp
  have e4 : (Y.1.2 == Y.1.2) = true := by simp
  ((refine ggb7 (F := _∧_∧_∧_) ⟨e1, e2, e3, e4⟩ awake11 hF hT hU hH hI hQ ?_))
  ((repeat refine AW_seq ?_); (refine wta ?_); simp (disch := omega) only [retQ, resD, oneD, rsv, rs, rsL, rsL_eq_map, List.map_map, bb, bt, zDs, zD, eqCells, simprocAttr, Try.results3])
end Go.Proofs.Ythabldkbiedfmaa.T

/- What the arguments of chapter 4's laws stand for. -/
namespace Go.Proofs.Ythabldkbiedfmaa.T
open Go Go.RowKit Go.ChangeShapes

theorem slice_one {P : Program} {w : World} {r : Reach} {base : Nat} {t e : TypeId} {v : Value} (ht : P.underlying t = some (.slice e)) (h : Value.okWide P w r base t v) : v.cells = #[v] := by
  simp only [Value.okWide, ht, Cell.okWide] at h
  cases v <;> simp_all [Value.cells, Cell.ok]
theorem ints_of : ∀ {rows : List (List D)}, (∀ r ∈ rows, (∃ n, r = [int n] ∧ (Lit.int .i64 n).wf = true) ∧ r.length = 1) → ∃ l : List Int, rows.flatten = l.map int ∧ ∀ x ∈ l, (Lit.int .i64 x).wf = true
  | [], _ => ⟨[], rfl, by simp⟩
  | r :: rows, h => by
    obtain ⟨⟨n, rfl, hw⟩, _⟩ := h r (by simp)
    obtain ⟨l, e, hl⟩ := ints_of fun x hx => h x (List.mem_cons_of_mem _ hx)
    exact ⟨n :: l, by simp [e], fun x hx => by
      rcases List.mem_cons.1 hx with rfl | hx
      · exact hw
      · exact hl x hx⟩
theorem rows_of : ∀ {rows : List (List D)}, (∀ r ∈ rows, (∃ l : List Int, r = [ints l] ∧ ∀ x ∈ l, (Lit.int .i64 x).wf = true) ∧ r.length = 1) → ∃ m : List (List Int), rows.flatten = m.map ints ∧ ∀ l ∈ m, ∀ x ∈ l, (Lit.int .i64 x).wf = true
  | [], _ => ⟨[], rfl, by simp⟩
  | r :: rows, h => by
    obtain ⟨⟨n, rfl, hw⟩, _⟩ := h r (by simp)
    obtain ⟨l, e, hl⟩ := rows_of fun x hx => h x (List.mem_cons_of_mem _ hx)
    exact ⟨n :: l, by simp [e], fun x hx => by
      rcases List.mem_cons.1 hx with rfl | hx
      · exact hw
      · exact hl x hx⟩

theorem u8_of {x : Int} (h : (Lit.int .u8 x).wf = true) : 0 ≤ x ∧ x < 256 := by
  rw [Lit.wf, Bool.and_eq_true] at h
  have h1 := of_decide_eq_true h.1
  have h2 := of_decide_eq_true h.2
  have e1 : IntKind.u8.min = 0 := rfl
  have e2 : IntKind.u8.max = 255 := rfl
  rw [e1] at h1
  rw [e2] at h2
  exact ⟨h1, by omega⟩
theorem cellsInt : Try.prog.cellsOf 3 = 1 := by kernel_rfl
theorem cellsInts : Try.prog.cellsOf 72 = 1 := by kernel_rfl
section
variable {H : Type} {enc : TypeId × Value → H} {W : World}
theorem opn_ints : Opn enc Try.prog W 72 fun ds => ∃ l : List Int, ds = [ints l] ∧ ∀ x ∈ l, (Lit.int .i64 x).wf = true :=
  (Opn.slice Try.underlying72 cellsInt (by decide) (Opn.int Try.underlying3)).mono fun ds ⟨rows, e, h, _⟩ => by
    obtain ⟨l, e2, hl⟩ := ints_of h
    exact ⟨l, by rw [e, e2], hl⟩
theorem opn_mat : Opn enc Try.prog W 96 fun ds => ∃ m : List (List Int), ds = [mat m] ∧ ∀ l ∈ m, ∀ x ∈ l, (Lit.int .i64 x).wf = true :=
  (Opn.slice Try.underlying96 cellsInts (by decide) opn_ints).mono fun ds ⟨rows, e, h, _⟩ => by
    obtain ⟨l, e2, hl⟩ := rows_of h
    exact ⟨l, by rw [e, e2], hl⟩
end
end Go.Proofs.Ythabldkbiedfmaa.T

/- The signs of the head's word (printed by mkmake.py): the kernel need not take a long string apart. -/
namespace Go.Proofs.Ythabldkbiedfmaa.T
open Go Go.RowKit Go.Joins
def wordSigns0 : List Char := [104,97,114,110,101,115,115,32,56,99,54,50,54,99,55,102,50,49,50,101,102,100,48,98,99,56,52,49,48,101,48,56,55,99,54,97,56,98,53,56,50,100,49,100,57,49,50,53,53,52,56,54,55,56,57,53,54,57,99,50,97,50,51,98].map Char.ofNat
def wordSigns1 : List Char := [52,49,48,100,51,102,97,55,32,99,117,116,32,97,116,32,108,111,102,116,98,108,111,99,107,47,108,111,102,116,98,108,111,99,107,108,97,119,49,49,46,83,116,97,116,105,99,115,84,101,110,115,105,111,110,115,32,108,111,102,116,98,108,111].map Char.ofNat
def wordSigns2 : List Char := [99,107,47,108,111,102,116,98,108,111,99,107,108,97,119,49,49,46,83,116,97,116,105,99,115,84,117,114,110,115,32,108,111,102,116,98,108,111,99,107,47,108,111,102,116,98,108,111,99,107,108,97,119,49,49,46,83,116,97,116,105,99,115,65].map Char.ofNat
def wordSigns3 : List Char := [100,100,115,32,108,111,102,116,98,108,111,99,107,47,108,111,102,116,98,108,111,99,107,108,97,119,49,49,46,83,116,97,116,105,99,115,84,111,116,97,108,115,32,108,111,102,116,98,108,111,99,107,47,108,111,102,116,98,108,111,99,107,108,97].map Char.ofNat
def wordSigns4 : List Char := [119,49,49,46,83,116,97,116,105,99,115,80,111,105,110,116,32,108,111,102,116,98,108,111,99,107,47,108,111,102,116,98,108,111,99,107,108,97,119,49,49,46,83,116,97,116,105,99,115,67,104,101,99,107,115,32,108,111,102,116,98,108,111,99].map Char.ofNat
def wordSigns5 : List Char := [107,47,108,111,102,116,98,108,111,99,107,108,97,119,49,49,46,83,116,97,116,105,99,115,72,111,108,100,115,32,108,111,102,116,98,108,111,99,107,47,108,111,102,116,98,108,111,99,107,108,97,119,49,50,46,77,111,116,105,111,110,83,112,101].map Char.ofNat
def wordSigns6 : List Char := [101,100,115,32,108,111,102,116,98,108,111,99,107,47,108,111,102,116,98,108,111,99,107,108,97,119,49,50,46,77,111,116,105,111,110,87,111,114,107,32,108,111,102,116,98,108,111,99,107,47,108,111,102,116,98,108,111,99,107,108,97,119,49,50].map Char.ofNat
def wordSigns7 : List Char := [46,77,111,116,105,111,110,71,111,101,115,32,108,111,102,116,98,108,111,99,107,47,108,111,102,116,98,108,111,99,107,108,97,119,49,50,46,77,111,116,105,111,110,76,101,110,103,116,104,115,32,108,111,102,116,98,108,111,99,107,47,108,111,102].map Char.ofNat
def wordSigns8 : List Char := [116,98,108,111,99,107,108,97,119,49,50,46,77,111,116,105,111,110,70,114,101,101,115,32,108,111,102,116,98,108,111,99,107,47,108,111,102,116,98,108,111,99,107,108,97,119,49,54,46,77,111,98,105,108,105,116,121,75,101,101,112,115,32,108].map Char.ofNat
def wordSigns9 : List Char := [111,102,116,98,108,111,99,107,47,108,111,102,116,98,108,111,99,107,108,97,119,49,54,46,77,111,98,105,108,105,116,121,80,114,111,118,101,115,32,108,111,102,116,98,108,111,99,107,47,108,111,102,116,98,108,111,99,107,108,97,119,49,54,46].map Char.ofNat
def wordSigns10 : List Char := [77,111,98,105,108,105,116,121,87,105,116,104,111,117,116,32,108,111,102,116,98,108,111,99,107,47,108,111,102,116,98,108,111,99,107,108,97,119,49,54,46,77,111,98,105,108,105,116,121,79,114,100,101,114,32,108,111,102,116,98,108,111,99,107].map Char.ofNat
def wordSigns11 : List Char := [47,108,111,102,116,98,108,111,99,107,108,97,119,49,54,46,77,111,98,105,108,105,116,121,82,101,109,111,118,101,115,32,108,111,102,116,98,108,111,99,107,47,108,111,102,116,98,108,111,99,107,108,97,119,49,51,46,65,100,118,97,110,116,97].map Char.ofNat
def wordSigns12 : List Char := [103,101,83,97,109,101,32,108,111,102,116,98,108,111,99,107,47,108,111,102,116,98,108,111,99,107,108,97,119,49,51,46,65,100,118,97,110,116,97,103,101,69,113,117,97,108,32,108,111,102,116,98,108,111,99,107,47,108,111,102,116,98,108,111].map Char.ofNat
def wordSigns13 : List Char := [99,107,108,97,119,49,51,46,65,100,118,97,110,116,97,103,101,79,119,110,32,108,111,102,116,98,108,111,99,107,47,108,111,102,116,98,108,111,99,107,108,97,119,49,51,46,65,100,118,97,110,116,97,103,101,72,111,108,100,115,32,108,111,102].map Char.ofNat
def wordSigns14 : List Char := [116,98,108,111,99,107,47,108,111,102,116,98,108,111,99,107,108,97,119,49,52,46,76,111,115,115,101,115,84,119,105,99,101,32,108,111,102,116,98,108,111,99,107,47,108,111,102,116,98,108,111,99,107,108,97,119,49,52,46,76,111,115,115,101].map Char.ofNat
def wordSigns15 : List Char := [115,65,108,111,110,103].map Char.ofNat
def wordSigns : List Char := wordSigns0 ++ wordSigns1 ++ wordSigns2 ++ wordSigns3 ++ wordSigns4 ++ wordSigns5 ++ wordSigns6 ++ wordSigns7 ++ wordSigns8 ++ wordSigns9 ++ wordSigns10 ++ wordSigns11 ++ wordSigns12 ++ wordSigns13 ++ wordSigns14 ++ wordSigns15
theorem word_is : Try.prog.initOrder.toList = wordSigns := by
  have h : Try.prog.initOrder = String.ofList wordSigns := by kernel_rfl
  rw [h, String.toList_ofList]
theorem word_cut : behindMainWord (wordsSigns wordSigns) = "cut".toList :: (behindMainWord (wordsSigns wordSigns)).tail := by kernel_rfl
theorem make_of (P : Program) (l : List Char) (h : P.initOrder.toList = l) (r : List (List Char)) (hr : behindMainWord (wordsSigns l) = "cut".toList :: r) : P.make = some .cut := by
  unfold Program.make
  rw [h, hr]
  rfl
theorem enter_of (P : Program) (l : List Char) (h : P.initOrder.toList = l) (r : List (List Char)) (hr : behindMainWord (wordsSigns l) = "cut".toList :: r) (h1 : P.laysLater = false) (h2 : P.bearsReflect = false) (h3 : P.doorFits [] = true) (hs : stripLifts liftWords ("cut".toList :: r) = ([], "cut".toList :: r)) : P.mayEnter = true := by
  unfold Program.mayEnter
  rw [h, hr]
  simp only [hs, h1, h2, h3]
  rfl
theorem word_make : Try.prog.make = some .cut := make_of _ wordSigns word_is _ word_cut
theorem word_enter : Try.prog.mayEnter = true := enter_of _ wordSigns word_is _ word_cut (by kernel_rfl) (by kernel_rfl) (by kernel_rfl) (by kernel_rfl)
theorem word_lifts : Try.prog.liftsFinal = false := by
  unfold Program.liftsFinal Program.headLifts
  rw [word_is]
  kernel_rfl
theorem word_enterP : Try.pinned.checked.prog.mayEnter = true := word_enter
theorem word_liftsP : Try.pinned.checked.prog.liftsFinal = false := word_lifts
theorem word_makeP : Try.pinned.checked.prog.make = some .cut := word_make
end Go.Proofs.Ythabldkbiedfmaa.T

/- Arguments that are lists of fractions. -/
namespace Go.Proofs.Ythabldkbiedfmaa.T
open Go Go.RowKit Go.ChangeShapes

theorem fracs_of : ∀ {rows : List (List D)}, (∀ r ∈ rows, (∃ a b, r = [int a, int b]) ∧ r.length = 2) → ∃ l : List (Int × Int), rows.flatten = frC l
  | [], _ => ⟨[], rfl⟩
  | r :: rows, h => by
    obtain ⟨⟨a, b, rfl⟩, _⟩ := h r (by simp)
    obtain ⟨l, e⟩ := fracs_of fun x hx => h x (List.mem_cons_of_mem _ hx)
    exact ⟨(a, b) :: l, by simp [e, frC]⟩
theorem cellsFrac : Try.prog.cellsOf 33 = 2 := by kernel_rfl
section
variable {H : Type} {enc : TypeId × Value → H} {W : World}
theorem opn_frac : Opn enc Try.prog W 33 fun ds => ∃ a b, ds = [int a, int b] :=
  (Opn.struct Try.underlying33 ⟨_, _, rfl, rfl, Opn.int Try.underlying3, _, _, rfl, by simp only [cellsInt], Opn.int Try.underlying3, rfl⟩ (by kernel_rfl)).mono fun ds h => by
    obtain ⟨d1, r1, rfl, ⟨a, rfl, _⟩, d2, r2, rfl, ⟨b, rfl, _⟩, rfl⟩ := h
    exact ⟨a, b, rfl⟩
theorem opn_fracs : Opn enc Try.prog W 28 fun ds => ∃ l : List (Int × Int), ds = [frs l] ∧ True :=
  (Opn.slice Try.underlying28 cellsFrac (by decide) opn_frac).mono fun ds ⟨rows, e, h, _⟩ => by
    obtain ⟨l, e2⟩ := fracs_of h
    exact ⟨l, by rw [e, e2], trivial⟩
end
end Go.Proofs.Ythabldkbiedfmaa.T

/- Arguments that are systems. -/
namespace Go.Proofs.Ythabldkbiedfmaa.T
open Go Go.RowKit Go.ChangeShapes

theorem flats_of {α : Type} {f : α → List D} {n : Nat} : ∀ {rows : List (List D)}, (∀ r ∈ rows, (∃ x, r = f x) ∧ r.length = n) → ∃ l : List α, rows.flatten = l.flatMap f
  | [], _ => ⟨[], rfl⟩
  | r :: rows, h => by
    obtain ⟨⟨x, rfl⟩, _⟩ := h r (by simp)
    obtain ⟨l, e⟩ := flats_of fun x hx => h x (List.mem_cons_of_mem _ hx)
    exact ⟨x :: l, by simp [e]⟩
theorem cellsHold : Try.prog.cellsOf 53 = 4 := by kernel_rfl
theorem cellsRope : Try.prog.cellsOf 49 = 3 := by kernel_rfl
theorem cellsBlock : Try.prog.cellsOf 45 = 2 := by kernel_rfl
theorem agg_of {P : Program} {w : World} {r : Reach} {base : Nat} {t : TypeId} {fs : Array Field} {v : Value} (ht : P.underlying t = some (.struct fs)) (h : Value.okWide P w r base t v) : ∃ cs, v = .agg cs := by
  simp only [Value.okWide, ht] at h
  obtain ⟨cs, e, _⟩ := h
  exact ⟨cs, e⟩
section
variable {H : Type} {enc : TypeId × Value → H} {W : World}
theorem opn_hold : Opn enc Try.prog W 53 fun ds => ∃ h : Hd, ds = hd1 h :=
  (Opn.struct Try.underlying53 ⟨_, _, rfl, (by kernel_rfl), Opn.str Try.underlying9, _, _, rfl, (by kernel_rfl), Opn.int Try.underlying3, _, _, rfl, (by kernel_rfl), opn_frac, rfl⟩ (by kernel_rfl)).mono fun ds h => by
    obtain ⟨d1, r1, rfl, ⟨s, rfl, _⟩, d2, r2, rfl, ⟨p, rfl, _⟩, d3, r3, rfl, ⟨a, b, rfl⟩, rfl⟩ := h
    exact ⟨⟨s, p, a, b⟩, rfl⟩
theorem opn_holds : Opn enc Try.prog W 47 fun ds => ∃ l : List Hd, ds = [hds l] :=
  (Opn.slice Try.underlying47 cellsHold (by decide) opn_hold).mono fun ds ⟨rows, e, h, _⟩ => by
    obtain ⟨l, e2⟩ := flats_of h
    exact ⟨l, by rw [e, e2]; rfl⟩
theorem opn_rope : Opn enc Try.prog W 49 fun ds => ∃ r : Rp, ds = rp1 r :=
  (Opn.struct Try.underlying49 ⟨_, _, rfl, (by kernel_rfl), Opn.str Try.underlying9, _, _, rfl, (by kernel_rfl), opn_holds, _, _, rfl, (by kernel_rfl), Opn.bool Try.underlying4, rfl⟩ (by kernel_rfl)).mono fun ds h => by
    obtain ⟨d1, r1, rfl, ⟨s, rfl, _⟩, d2, r2, rfl, ⟨l, rfl⟩, d3, r3, rfl, ⟨b, rfl⟩, rfl⟩ := h
    exact ⟨⟨s, l, b⟩, rfl⟩
theorem opn_ropes : Opn enc Try.prog W 23 fun ds => ∃ l : List Rp, ds = [rps l] :=
  (Opn.slice Try.underlying23 cellsRope (by decide) opn_rope).mono fun ds ⟨rows, e, h, _⟩ => by
    obtain ⟨l, e2⟩ := flats_of h
    exact ⟨l, by rw [e, e2]; rfl⟩
theorem opn_block : Opn enc Try.prog W 45 fun ds => ∃ b : Bk, ds = bk1 b :=
  (Opn.struct Try.underlying45 ⟨_, _, rfl, (by kernel_rfl), Opn.str Try.underlying9, _, _, rfl, (by kernel_rfl), Opn.int Try.underlying3, rfl⟩ (by kernel_rfl)).mono fun ds h => by
    obtain ⟨d1, r1, rfl, ⟨s, rfl, _⟩, d2, r2, rfl, ⟨p, rfl, _⟩, rfl⟩ := h
    exact ⟨⟨s, p⟩, rfl⟩
theorem opn_blocks : Opn enc Try.prog W 22 fun ds => ∃ l : List Bk, ds = [bks l] :=
  (Opn.slice Try.underlying22 cellsBlock (by decide) opn_block).mono fun ds ⟨rows, e, h, _⟩ => by
    obtain ⟨l, e2⟩ := flats_of h
    exact ⟨l, by rw [e, e2]; rfl⟩
theorem opn_sys : Opn enc Try.prog W 25 fun ds => ∃ s : Sy, ds = [bks s.bs, rps s.rs] :=
  (Opn.struct Try.underlying25 ⟨_, _, rfl, (by kernel_rfl), opn_blocks, _, _, rfl, (by kernel_rfl), opn_ropes, rfl⟩ (by kernel_rfl)).mono fun ds h => by
    obtain ⟨d1, r1, rfl, ⟨a, rfl⟩, d2, r2, rfl, ⟨b, rfl⟩, rfl⟩ := h
    exact ⟨⟨a, b⟩, rfl⟩
theorem arg_sys {v : Value} {base : Nat} {r : Reach} {d : DataW H} {p : List MemPlace} (h : DataW.Trod enc Try.prog W 0 (fun _ => true) true 25 v d p) (hv : Value.okWide Try.prog W r base 25 v) : ∃ s : Sy, Rep (memOf W) [] (syD s) v := by
  obtain ⟨cs, rfl⟩ : ∃ cs, v = .agg cs := by
    simp only [Value.okWide, Try.underlying25] at hv
    obtain ⟨cs, e, _⟩ := hv
    exact ⟨cs, e⟩
  obtain ⟨ds, hr, s, rfl⟩ := arg_agg opn_sys h
  exact ⟨s, hr⟩
end
end Go.Proofs.Ythabldkbiedfmaa.T

