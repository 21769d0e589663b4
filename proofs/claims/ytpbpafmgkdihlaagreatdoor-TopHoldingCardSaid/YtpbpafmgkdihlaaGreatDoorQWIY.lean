import Derived.Test.YtpbpafmgkdihlaaGreatDoorQTB
import Derived.Test.YtpbpafmgkdihlaaGreatDoorQWH
import Derived.Test.YtpbpafmgkdihlaaGreatDoorQDep
set_option linter.all false
namespace Go.Proofs.YtpbpafmgkdihlaaGreatDoor.T
open Go Go.RowKit Lin
def indS (rk : Nat → Nat) : Nat → List Nat × Nat
 | 0 => ([], 0)
 | k + 1 => let p := indS rk k; if p.2 < rk (k + 1) then (p.1 ++ [k], rk (k + 1)) else p
abbrev natI (l : List Nat) : List D := l.map fun x : Nat => int (x : Int)
structure IS where
 k : Nat
 g : Nat
 t : Nat
def IS.st (m : List (List Int)) (rk : Nat → Nat) (x : IS) : St := ⟨[(0, mat m), (4, .own 1 0 x.g 0 (indS rk x.k).1.length), (5, int (indS rk x.k).2), (12, int m.length), (13, int x.k)], [some ⟨3, x.g, natI (indS rk x.k).1⟩], x.t⟩
theorem IS.st_mk (m : List (List Int)) (rk : Nat → Nat) (k g t : Nat) : IS.st m rk ⟨k, g, t⟩ = ⟨[(0, mat m), (4, .own 1 0 g 0 (indS rk k).1.length), (5, int (indS rk k).2), (12, int m.length), (13, int k)], [some ⟨3, g, natI (indS rk k).1⟩], t⟩ := rfl
def kept (m : List (List Int)) (w k : Nat) : List (List Int) := (indS (fun k => Yod (m.take k) w) k).1.map (Lin.row m)
end Go.Proofs.YtpbpafmgkdihlaaGreatDoor.T
