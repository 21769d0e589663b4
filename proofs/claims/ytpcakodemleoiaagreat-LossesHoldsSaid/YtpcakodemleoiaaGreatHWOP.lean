import Derived.Test.YtpcakodemleoiaaGreatHTB
import Derived.Test.YtpcakodemleoiaaGreatHWIY
import Derived.Test.YtpcakodemleoiaaGreatHWJK
import Derived.Test.YtpcakodemleoiaaGreatHMinJ
import Derived.Test.YtpcakodemleoiaaGreatHWG
set_option linter.all false
section
namespace Go.Proofs.YtpcakodemleoiaaGreat.T
open Go Go.RowKit Lin
end Go.Proofs.YtpcakodemleoiaaGreat.T
end
section
namespace Go.Proofs.YtpcakodemleoiaaGreat.T
open Go Go.RowKit Lin
end Go.Proofs.YtpcakodemleoiaaGreat.T
end
section
namespace Go.Proofs.YtpcakodemleoiaaGreat.T
open Go Go.RowKit Lin
theorem refElimC (m : List (List Int)) {w n : Nat} (hs : Small m w n) (hw0 : 1 ≤ w) (hw' : w ≤ 1000) : PRet Tryz.prog 132 [mat m, int n] (FormD (Y18 mvR m n)) :=
 refEliminate m w n hs.rows hs.lens hw0 hw' hs.le (fitBy (Y5n m w) hs)
end Go.Proofs.YtpcakodemleoiaaGreat.T
end

