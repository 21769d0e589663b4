import Derived.Test.YtjjpjgnoanfaoaaGreatTB
import Derived.Test.YtjjpjgnoanfaoaaGreatQWIY
import Derived.Test.YtjjpjgnoanfaoaaGreatWJK
import Derived.Test.YtjjpjgnoanfaoaaGreatMinJ
import Derived.Test.YtjjpjgnoanfaoaaGreatWG
set_option linter.all false
section
namespace Go.Proofs.YtjjpjgnoanfaoaaGreat.T
open Go Go.RowKit Lin
set_option linter.unusedSimpArgs false

end Go.Proofs.YtjjpjgnoanfaoaaGreat.T
end

section
namespace Go.Proofs.YtjjpjgnoanfaoaaGreat.T
open Go Go.RowKit Lin
set_option linter.unusedSimpArgs false

end Go.Proofs.YtjjpjgnoanfaoaaGreat.T
end

section
namespace Go.Proofs.YtjjpjgnoanfaoaaGreat.T
open Go Go.RowKit Lin
set_option linter.unusedSimpArgs false

theorem rank_same {m : List (List Int)} {w n : Nat} (hs : Small m w n) : (elimBy mvR m n).pivots.length = rankP m n := by
  unfold rankP
  rw [elim_by, pivots_agree (ups_mover m w) (mvR_mover m w) hs.lens n hs.le]
theorem refElimC (m : List (List Int)) {w n : Nat} (hs : Small m w n) (hw0 : 1 ≤ w) (hw' : w ≤ 1000) : PRet Tryz.prog 154 [mat m, int n] (FormD (elimBy mvR m n)) :=
  refEliminate m w n hs.rows hs.lens hw0 hw' hs.le (fitBy (mvR_mover m w) hs)
theorem refRank (m : List (List Int)) {w : Nat} (hs : Small m w w) (hw0 : 1 ≤ w) (hw' : w ≤ 1000) (h0 : 0 < m.length) : PRet Tryz.prog 206 [mat m] (int (rankP m w)) := by
  refine PRet.intro 1 fun t => ACall.enter tab_ok Tryz.func206 rfl rfl Tryz.ntmps206 (by simp) ?_
  simp only [enterTM]
  obtain ⟨r, hr⟩ : ∃ y, m[0]? = some y := ⟨_, List.getElem?_eq_getElem h0⟩
  have hrl := hs.lens r (List.mem_of_getElem? hr)
  have hc := refElimC m hs hw0 hw'
  rw [← rank_same hs]
  ((refine wqa ?_))
  ((repeat refine AW_seq ?_); (refine AW_region_k tab_ok fun KR hKR => ?_)); ((refine wrb (F := _∧_∧_) ⟨h0, hr, hrl⟩ ?_))
  ((refine wka1 hc ?_))
  ((repeat ((first | refine awOps_n rfl fun KK hKK => ?_ | refine awOps_g rfl rfl fun KK hKK => ?_ | refine awOps_gc rfl fun KK hKK => ?_); simp (disch := omega) only [bb, bt, zDs, zD, eqCells, simprocAttr, FormD, List.length_map]; refine hKK _ ?_; clear hKK KK))); ((refine wea ?_); (try clear hKR KR))
  ((repeat refine AW_seq ?_); (refine wta ?_); simp (disch := omega) only [retQ, resD, oneD, rsv, rs, rsL, rsL_eq_map, List.map_map, bb, bt, zDs, zD, eqCells, simprocAttr, Tryz.results206])
end Go.Proofs.YtjjpjgnoanfaoaaGreat.T
end

