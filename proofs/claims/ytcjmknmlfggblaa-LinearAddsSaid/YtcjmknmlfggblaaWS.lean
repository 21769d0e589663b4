import Derived.Test.YtcjmknmlfggblaaTB
import Derived.Test.YtcjmknmlfggblaaWR
set_option linter.all false
namespace Go.Proofs.Ytcjmknmlfggblaa.T
open Go Go.RowKit Lin
set_option linter.unusedSimpArgs false

/-! Slices within slices: it is forgotten that they are as long as their memory. -/
def uu : Nat → D → D
  | k + 1, .sl sz cs _ => .sl sz (cs.map (uu k)) false
  | _, d => d
theorem uu_rep {F : Mem} {G : Ghost} : ∀ (k : Nat) (d : D) (u : Value), Rep F G d u → Rep F G (uu k d) u
  | 0, d, u, h => by simpa only [uu] using h
  | k + 1, d, u, h => by
    cases d with
    | sl sz cs full =>
      simp only [Rep, uu] at h ⊢
      obtain ⟨a, len, cap, h1, h2, h3, h4, h5⟩ := h
      refine ⟨a, len, cap, h1, by rw [h2, List.length_map], h3, fun e => by simp at e, ?_⟩
      rcases h5 with rfl | ⟨blk, off, vs, e, hc, hr⟩
      · left; rfl
      · exact .inr ⟨blk, off, vs, e, hc, RepL_map (fun d u _ h => uu_rep k d u h) hr⟩
    | _ => simpa only [uu] using h
theorem ACall.of_flat {P : Program} {f : FuncId} {ds ds' : List D} {d : D} {H : Hp} {t : Nat} {K : D → Hp → Nat → Prop} (h : PRet P f ds' d) (hd : (ds.map (uu 2)).map ufa = ds') (hk : K d H t) : ACall P f ds H t K := fun w0 F G w us R hL => by
  have hL' : RepL F G (ds.map (uu 2)) us := RepL_map (fun d u _ hd => uu_rep 2 d u hd) hL
  exact (ACall.of_pret (K := K) h hd hk) w0 F G w us R hL'
theorem awake_solve : solveP [[2, 1], [1, -1]] [5, 1] = ([(2, 1), (1, 1)], 0) := by decide +kernel
theorem awake_det : detP [[2, 1], [1, -1]] = -3 := by decide +kernel
theorem awake_valid : validP [[2, 1], [1, -1]] = true := by decide +kernel
theorem awake_null : nullP [[1, 2, 3]] = ([[(-2, 1), (1, 1), (0, 1)], [(-3, 1), (0, 1), (1, 1)]], 0) := by decide +kernel
set_option maxHeartbeats 2000000 in
theorem awake : PRet Try.prog 10 [] (bool true) := by
  refine PRet.intro 1 fun t => ACall.enter tab_ok Try.func10 rfl rfl Try.ntmps10 (by simp) ?_
  simp only [enterTM]
  have hs := solve [[2, 1], [1, -1]] [5, 1] (by decide) (by decide) (by decide)
  rw [awake_solve] at hs
  have hd := det [[2, 1], [1, -1]] (by decide) (by decide)
  rw [if_pos awake_valid, if_pos (by decide), awake_det] at hd
  have hn := null [[1, 2, 3]] (by decide) (by decide)
  rw [awake_null] at hn
  ((refine wqa ?_))
  ((refine wqa ?_))
  ((repeat refine AW_seq ?_); (refine AW_region_k tab_ok fun KR hKR => ?_)); ((refine wra ?_))
  ((first | refine awOps_nc fun KK hKK => ?_ | refine awOps_gc rfl fun KK hKK => ?_); simp (disch := omega) only [bb, bt, zDs, zD, eqCells, simprocAttr, goC, callO_fn, argsD, and_self]; refine ACall.of_flat (hs) rfl ?_; simp only [afterC, St.put, putTM, ↓reduceIte, Nat.reduceEqDiff]; refine hKK _ ?_; clear hKK KK)
  ((refine wra ?_)); ((refine wea ?_); (try clear hKR KR))
  ((repeat refine AW_seq ?_); (refine AW_region_k tab_ok fun KR hKR => ?_)); ((refine wra ?_))
  ((first | refine awOps_nc fun KK hKK => ?_ | refine awOps_gc rfl fun KK hKK => ?_); simp (disch := omega) only [bb, bt, zDs, zD, eqCells, simprocAttr, goC, callO_fn, argsD, and_self]; refine ACall.of_flat (hd) rfl ?_; simp only [afterC, St.put, putTM, ↓reduceIte, Nat.reduceEqDiff]; refine hKK _ ?_; clear hKK KK)
  ((refine wra ?_)); ((refine wea ?_); (try clear hKR KR))
  ((repeat refine AW_seq ?_); (refine AW_region_k tab_ok fun KR hKR => ?_)); ((refine wra ?_))
  ((first | refine awOps_nc fun KK hKK => ?_ | refine awOps_gc rfl fun KK hKK => ?_); simp (disch := omega) only [bb, bt, zDs, zD, eqCells, simprocAttr, goC, callO_fn, argsD, and_self]; refine ACall.of_flat (hn) rfl ?_; simp only [afterC, St.put, putTM, ↓reduceIte, Nat.reduceEqDiff]; refine hKK _ ?_; clear hKK KK)
  ((refine wra ?_)); ((refine wea ?_); (try clear hKR KR))
  ((repeat refine AW_seq ?_); (refine AW_drawn_k tab_ok follows_mixed 0 fun KR hKR => ?_); simp only [List.replicate_succ, List.replicate_zero, List.append_nil, List.nil_append, List.cons_append, List.length_cons, List.length_nil, Nat.reduceAdd])
  ((refine wda ?_))
  ((first | refine awD_nc fun KK hKK => ?_ | refine awD_gc rfl fun KK hKK => ?_); simp (disch := omega) only [bb, bt, zDs, zD, eqCells, simprocAttr, goCDS, callDS_fn, argsZ, argsD, ufa, uf]; refine PGive.ret (lawF 2) ?_; simp (disch := omega) only [bb, bt, zDs, zD, eqCells, simprocAttr, afterDS]; refine hKK _ _ _ ?_; clear hKK KK)
  ((first | refine awD_nc fun KK hKK => ?_ | refine awD_gc rfl fun KK hKK => ?_); simp (disch := omega) only [bb, bt, zDs, zD, eqCells, simprocAttr, goCDS, callDS_fn, argsZ, argsD, ufa, uf]; refine PGive.ret (lawF 1) ?_; simp (disch := omega) only [bb, bt, zDs, zD, eqCells, simprocAttr, afterDS]; refine hKK _ _ _ ?_; clear hKK KK)
  ((refine wda ?_))
  ((first | refine awD_nc fun KK hKK => ?_ | refine awD_gc rfl fun KK hKK => ?_); simp (disch := omega) only [bb, bt, zDs, zD, eqCells, simprocAttr, goCDS, callDS_fn, argsZ, argsD, ufa, uf]; refine PGive.ret (equalFr [(2, 1), (1, 1)] [(2, 1), (1, 1)] (by decide) (by decide)) ?_; simp (disch := omega) only [bb, bt, zDs, zD, eqCells, simprocAttr, afterDS]; refine hKK _ _ _ ?_; clear hKK KK)
  have e1 : ([((2 : Int), (1 : Int)), (1, 1)] == [(2, 1), (1, 1)]) = true := rfl
  ((refine wdb e1 ?_))
  ((first | refine awD_nc fun KK hKK => ?_ | refine awD_gc rfl fun KK hKK => ?_); simp (disch := omega) only [bb, bt, zDs, zD, eqCells, simprocAttr, goCDS, callDS_fn, argsZ, argsD, ufa, uf]; refine PGive.ret (lawF (-2)) ?_; simp (disch := omega) only [bb, bt, zDs, zD, eqCells, simprocAttr, afterDS]; refine hKK _ _ _ ?_; clear hKK KK)
  ((first | refine awD_nc fun KK hKK => ?_ | refine awD_gc rfl fun KK hKK => ?_); simp (disch := omega) only [bb, bt, zDs, zD, eqCells, simprocAttr, goCDS, callDS_fn, argsZ, argsD, ufa, uf]; refine PGive.ret (lawF 1) ?_; simp (disch := omega) only [bb, bt, zDs, zD, eqCells, simprocAttr, afterDS]; refine hKK _ _ _ ?_; clear hKK KK)
  ((first | refine awD_nc fun KK hKK => ?_ | refine awD_gc rfl fun KK hKK => ?_); simp (disch := omega) only [bb, bt, zDs, zD, eqCells, simprocAttr, goCDS, callDS_fn, argsZ, argsD, ufa, uf]; refine PGive.ret (lawF 0) ?_; simp (disch := omega) only [bb, bt, zDs, zD, eqCells, simprocAttr, afterDS]; refine hKK _ _ _ ?_; clear hKK KK)
  ((refine wda ?_))
  ((first | refine awD_nc fun KK hKK => ?_ | refine awD_gc rfl fun KK hKK => ?_); simp (disch := omega) only [bb, bt, zDs, zD, eqCells, simprocAttr, goCDS, callDS_fn, argsZ, argsD, ufa, uf]; refine PGive.ret (equalFr [(-2, 1), (1, 1), (0, 1)] [(-2, 1), (1, 1), (0, 1)] (by decide) (by decide)) ?_; simp (disch := omega) only [bb, bt, zDs, zD, eqCells, simprocAttr, afterDS]; refine hKK _ _ _ ?_; clear hKK KK)
  have e2 : ([((-2 : Int), (1 : Int)), (1, 1), (0, 1)] == [(-2, 1), (1, 1), (0, 1)]) = true := rfl
  ((refine wdb e2 ?_))
  ((first | refine awD_nc fun KK hKK => ?_ | refine awD_gc rfl fun KK hKK => ?_); simp (disch := omega) only [bb, bt, zDs, zD, eqCells, simprocAttr, goCDS, callDS_fn, argsZ, argsD, ufa, uf]; refine PGive.ret (lawF (-3)) ?_; simp (disch := omega) only [bb, bt, zDs, zD, eqCells, simprocAttr, afterDS]; refine hKK _ _ _ ?_; clear hKK KK)
  ((first | refine awD_nc fun KK hKK => ?_ | refine awD_gc rfl fun KK hKK => ?_); simp (disch := omega) only [bb, bt, zDs, zD, eqCells, simprocAttr, goCDS, callDS_fn, argsZ, argsD, ufa, uf]; refine PGive.ret (lawF 0) ?_; simp (disch := omega) only [bb, bt, zDs, zD, eqCells, simprocAttr, afterDS]; refine hKK _ _ _ ?_; clear hKK KK)
  ((first | refine awD_nc fun KK hKK => ?_ | refine awD_gc rfl fun KK hKK => ?_); simp (disch := omega) only [bb, bt, zDs, zD, eqCells, simprocAttr, goCDS, callDS_fn, argsZ, argsD, ufa, uf]; refine PGive.ret (lawF 1) ?_; simp (disch := omega) only [bb, bt, zDs, zD, eqCells, simprocAttr, afterDS]; refine hKK _ _ _ ?_; clear hKK KK)
  ((refine wda ?_))
  ((first | refine awD_nc fun KK hKK => ?_ | refine awD_gc rfl fun KK hKK => ?_); simp (disch := omega) only [bb, bt, zDs, zD, eqCells, simprocAttr, goCDS, callDS_fn, argsZ, argsD, ufa, uf]; refine PGive.ret (equalFr [(-3, 1), (0, 1), (1, 1)] [(-3, 1), (0, 1), (1, 1)] (by decide) (by decide)) ?_; simp (disch := omega) only [bb, bt, zDs, zD, eqCells, simprocAttr, afterDS]; refine hKK _ _ _ ?_; clear hKK KK)
  have e3 : ([((-3 : Int), (1 : Int)), (0, 1), (1, 1)] == [(-3, 1), (0, 1), (1, 1)]) = true := rfl
  ((refine wdb e3 ?_))
  ((refine awD_nil ?_); simp only [List.reverse_cons, List.reverse_nil, List.nil_append, List.cons_append]; (refine hKR _ _ (by first | rfl | kernel_rfl) ?_); (try clear hKR KR); (repeat (with_reducible first | refine q1 ?_ | refine q2 ?_ | refine q3 ?_ | refine q4 ?_ | refine q5 ?_ | refine q6 ?_ | (refine q7 ?_ ?_; (focus (with_unfolding_all rfl))))))
  ((repeat refine AW_seq ?_); (refine wta ?_); simp (disch := omega) only [retQ, resD, oneD, rsv, rs, rsL, rsL_eq_map, List.map_map, bb, bt, zDs, zD, eqCells, simprocAttr, Try.results10])
end Go.Proofs.Ytcjmknmlfggblaa.T
