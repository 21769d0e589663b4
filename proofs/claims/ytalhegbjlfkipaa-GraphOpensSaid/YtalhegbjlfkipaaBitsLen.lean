/- math/bits.Len64 over this seat's program: the least number of bits, for every word. -/
import Derived.Test.YtalhegbjlfkipaaRows
import Derived.Lib.Strings
import Derived.Lib.Slices
import Derived.Lib.Small
import Derived.Lib.Walk
import Derived.Lib.BitFns
set_option linter.all false
namespace Go.Proofs.Ytalhegbjlfkipaa
open Go.Lib

end Go.Proofs.Ytalhegbjlfkipaa
