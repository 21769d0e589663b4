import Derived.Test.YthabldkbiedfmaaTB
import Derived.Test.YthabldkbiedfmaaWH
set_option linter.all false
namespace Go.Proofs.Ythabldkbiedfmaa.T
open Go Go.RowKit Lin
set_option linter.unusedSimpArgs false

/-- The rows that do not depend on those before them, by growing ranks; and the rank. -/
def indS (rk : Nat → Nat) : Nat → List Nat × Nat
  | 0 => ([], 0)
  | k + 1 => let p := indS rk k; if p.2 < rk (k + 1) then (p.1 ++ [k], rk (k + 1)) else p
def indP (m : List (List Int)) : List Nat := (indS (fun k => rankP (m.take k) (wid m)) m.length).1
abbrev natI (l : List Nat) : List D := l.map fun x : Nat => int (x : Int)
structure IS where
  k : Nat
  g : Nat
  t : Nat
def IS.st (m : List (List Int)) (rk : Nat → Nat) (x : IS) : St := ⟨[(0, mat m), (4, .own 1 0 x.g 0 (indS rk x.k).1.length), (5, int (indS rk x.k).2), (12, int m.length), (13, int x.k)], [some ⟨3, x.g, natI (indS rk x.k).1⟩], x.t⟩
theorem IS.st_mk (m : List (List Int)) (rk : Nat → Nat) (k g t : Nat) : IS.st m rk ⟨k, g, t⟩ = ⟨[(0, mat m), (4, .own 1 0 g 0 (indS rk k).1.length), (5, int (indS rk k).2), (12, int m.length), (13, int k)], [some ⟨3, g, natI (indS rk k).1⟩], t⟩ := rfl
theorem indS_len (rk : Nat → Nat) : ∀ k, (indS rk k).1.length ≤ k
  | 0 => Nat.le_refl _
  | k + 1 => by
    have := indS_len rk k
    simp only [indS]
    split
    · simp; exact this
    · omega
end Go.Proofs.Ythabldkbiedfmaa.T
