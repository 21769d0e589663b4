import Derived.Test.YtpcakodemleoiaaGreatSTB
import Derived.Test.YtpcakodemleoiaaGreatSLSA
import Derived.Test.YtpcakodemleoiaaGreatSWOP
import Derived.Test.YtpcakodemleoiaaGreatSWRS
set_option linter.all false
section
namespace Go.Proofs.YtpcakodemleoiaaGreat.T
open Go Go.RowKit Lin
end Go.Proofs.YtpcakodemleoiaaGreat.T
end
section
namespace Go.Proofs.YtpcakodemleoiaaGreat.T
open Go Go.RowKit Lin
abbrev refB (f : Frm) (g : Nat) : Option Blk := some ⟨155, g, [mat f.rows, ints (f.pivots.map fun x : Nat => (x : Int)), int f.den, bool f.turned]⟩
end Go.Proofs.YtpcakodemleoiaaGreat.T
end
section
namespace Go.Proofs.YtpcakodemleoiaaGreat.T
open Go Go.RowKit Lin
structure Nx (l : List Nat) (c nx : Nat) : Prop where
  le : nx ≤ l.length
  lt : ∀ j p, l[j]? = some p → (j < nx ↔ p < c)
theorem Nx.zero (l : List Nat) : Nx l 0 0 := ⟨Nat.zero_le _, fun j p _ => by omega⟩
structure NR where
  c : Nat
  nx : Nat
  g : Nat
  t : Nat
def NR.st (f : Frm) (n g0 : Nat) (x : NR) : St := ⟨[(3, int n), (4, .ptr 0 g0 0), (5, .own 1 1 x.g 0 (nulls f n x.c).length), (6, int x.nx), (7, int x.c)], [refB f g0, some ⟨28, x.g, (nulls f n x.c).map frs⟩], x.t⟩
theorem NR.st_mk (f : Frm) (n g0 c nx g t : Nat) : NR.st f n g0 ⟨c, nx, g, t⟩ = ⟨[(3, int n), (4, .ptr 0 g0 0), (5, .own 1 1 g 0 (nulls f n c).length), (6, int nx), (7, int c)], [refB f g0, some ⟨28, g, (nulls f n c).map frs⟩], t⟩ := rfl
end Go.Proofs.YtpcakodemleoiaaGreat.T
end

