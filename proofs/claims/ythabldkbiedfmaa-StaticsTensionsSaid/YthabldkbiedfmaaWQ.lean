import Derived.Test.YthabldkbiedfmaaTB
import Derived.Test.YthabldkbiedfmaaWP
import Derived.Test.YthabldkbiedfmaaWG
import Derived.Test.YthabldkbiedfmaaWY
set_option linter.all false
namespace Go.Proofs.Ythabldkbiedfmaa.T
open Go Go.RowKit Lin
set_option linter.unusedSimpArgs false

theorem rank_same {m : List (List Int)} {w n : Nat} (hs : Small m w n) : (elimBy mvR m n).pivots.length = rankP m n := by
  unfold rankP
  rw [elim_by, pivots_agree (ups_mover m w) (mvR_mover m w) hs.lens n hs.le]
theorem refElimC (m : List (List Int)) {w n : Nat} (hs : Small m w n) (hw0 : 1 ≤ w) (hw' : w ≤ 1000) : PRet Try.prog 198 [mat m, int n] (FormD (elimBy mvR m n)) :=
  refEliminate m w n hs.rows hs.lens hw0 hw' hs.le (fitBy (mvR_mover m w) hs)
end Go.Proofs.Ythabldkbiedfmaa.T
