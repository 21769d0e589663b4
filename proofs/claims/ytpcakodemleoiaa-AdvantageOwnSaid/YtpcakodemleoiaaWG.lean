import Derived.Test.YtpcakodemleoiaaTB
import Derived.Test.YtpcakodemleoiaaWF
import Derived.Test.YtpcakodemleoiaaMinJ
set_option linter.all false
namespace Go.Proofs.Ytpcakodemleoiaa.T
open Go Go.RowKit Lin
set_option linter.unusedSimpArgs false

abbrev natE (l : List Nat) : List D := l.map fun x : Nat => int (x : Int)
theorem copyP_nil (m : List (List Int)) : copyP m [] = m := by
  apply List.ext_getElem?
  intro i
  simp [copyP]
abbrev zForm : List D := [.sl 1 [] true, .sl 1 [] true, int 0, bool false]
/-- A form as a value. -/
def FormD (f : Frm) : D := .agg [mat f.rows, .sl 1 (natE f.pivots) false, int f.den, bool f.turned]
structure RB where
  c : Nat
  f : Frm
  R : Hp
  cells : List D
  ga : Nat
  gp : Nat
  t : Nat
abbrev RB.tm (m : List (List Int)) (n t g : Nat) (k c : Nat) : TM := [(0, mat m), (1, int n), (4, .ptr 0 (t + 1) 0), (5, .ptr 1 g 0), (6, int k), (7, int c)]
end Go.Proofs.Ytpcakodemleoiaa.T
