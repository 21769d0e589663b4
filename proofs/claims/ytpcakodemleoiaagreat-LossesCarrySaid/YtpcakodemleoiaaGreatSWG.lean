import Derived.Test.YtpcakodemleoiaaGreatSTB
import Derived.Test.YtpcakodemleoiaaGreatSWF
import Derived.Test.YtpcakodemleoiaaGreatSMinJ
set_option linter.all false
namespace Go.Proofs.YtpcakodemleoiaaGreat.T
open Go Go.RowKit Lin
abbrev natE (l : List Nat) : List D := l.map fun x : Nat => int (x : Int)
abbrev zForm : List D := [.sl 1 [] true, .sl 1 [] true, int 0, bool false]
structure RB where
  c : Nat
  f : Frm
  R : Hp
  cells : List D
  ga : Nat
  gp : Nat
  t : Nat
def RB.hp (t g : Nat) (x : RB) : Hp := some ⟨155, t + 1, zForm⟩ :: some ⟨155, g, [.own 1 3 x.ga 0 x.f.rows.length, .own 1 2 x.gp 0 x.f.pivots.length, int x.f.den, bool x.f.turned]⟩ :: some ⟨3, x.gp, natE x.f.pivots⟩ :: some ⟨126, x.ga, x.cells⟩ :: x.R
theorem RB.hp_mk (t g c : Nat) (f : Frm) (R : Hp) (cells : List D) (ga gp tt : Nat) : RB.hp t g ⟨c, f, R, cells, ga, gp, tt⟩ = some ⟨155, t + 1, zForm⟩ :: some ⟨155, g, [.own 1 3 ga 0 f.rows.length, .own 1 2 gp 0 f.pivots.length, int f.den, bool f.turned]⟩ :: some ⟨3, gp, natE f.pivots⟩ :: some ⟨126, ga, cells⟩ :: R := rfl
abbrev RB.tm (m : List (List Int)) (n t g : Nat) (k c : Nat) : TM := [(0, mat m), (1, int n), (4, .ptr 0 (t + 1) 0), (5, .ptr 1 g 0), (6, int k), (7, int c)]
def RB.st (m : List (List Int)) (n t g : Nat) (x : RB) : St := ⟨RB.tm m n t g x.f.pivots.length x.c, RB.hp t g x, x.t⟩
theorem RB.st_mk (m : List (List Int)) (n t g c : Nat) (f : Frm) (R : Hp) (cells : List D) (ga gp tt : Nat) : RB.st m n t g ⟨c, f, R, cells, ga, gp, tt⟩ = ⟨RB.tm m n t g f.pivots.length c, RB.hp t g ⟨c, f, R, cells, ga, gp, tt⟩, tt⟩ := rfl
end Go.Proofs.YtpcakodemleoiaaGreat.T

