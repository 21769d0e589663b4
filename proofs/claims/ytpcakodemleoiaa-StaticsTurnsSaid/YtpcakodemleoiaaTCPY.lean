import Derived.Test.YtpcakodemleoiaaFW
import Derived.Test.YtpcakodemleoiaaSG
set_option linter.all false
namespace Go.Proofs.Ytpcakodemleoiaa.T
open Go Go.RowKit Lin
set_option linter.unusedSimpArgs false

/-! Copies of a system whose blocks, or ropes, are the caller's own. -/
/-! Weights changed one after the other. -/
end Go.Proofs.Ytpcakodemleoiaa.T

