import Derived.Test.YtcppnmohgaobdaaGreatRTB
import Derived.Test.YtcppnmohgaobdaaGreatRWN
set_option linter.all false
section
namespace Go.Proofs.YtcppnmohgaobdaaGreat.T
open Go Go.RowKit Lin
end Go.Proofs.YtcppnmohgaobdaaGreat.T
end
section
namespace Go.Proofs.YtcppnmohgaobdaaGreat.T
open Go Go.RowKit Lin
end Go.Proofs.YtcppnmohgaobdaaGreat.T
end

