import Derived.Test.YtcppnmohgaobdaaGreatRTB
import Derived.Test.YtcppnmohgaobdaaGreatRLSA
import Derived.Test.YtcppnmohgaobdaaGreatRWOP
import Derived.Test.YtcppnmohgaobdaaGreatRWRS
set_option linter.all false
section
namespace Go.Proofs.YtcppnmohgaobdaaGreat.T
open Go Go.RowKit Lin
end Go.Proofs.YtcppnmohgaobdaaGreat.T
end
section
namespace Go.Proofs.YtcppnmohgaobdaaGreat.T
open Go Go.RowKit Lin
end Go.Proofs.YtcppnmohgaobdaaGreat.T
end
section
namespace Go.Proofs.YtcppnmohgaobdaaGreat.T
open Go Go.RowKit Lin
structure Nx (l : List Nat) (c nx : Nat) : Prop where
  le : nx ≤ l.length
  lt : ∀ j p, l[j]? = some p → (j < nx ↔ p < c)
theorem Nx.zero (l : List Nat) : Nx l 0 0 := ⟨Nat.zero_le _, fun j p _ => by omega⟩
end Go.Proofs.YtcppnmohgaobdaaGreat.T
end

