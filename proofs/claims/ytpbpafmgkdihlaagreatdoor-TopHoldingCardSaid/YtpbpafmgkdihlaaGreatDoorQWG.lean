import Derived.Test.YtpbpafmgkdihlaaGreatDoorQTB
import Derived.Test.YtpbpafmgkdihlaaGreatDoorQWF
import Derived.Test.YtpbpafmgkdihlaaGreatDoorQMinJ
set_option linter.all false
namespace Go.Proofs.YtpbpafmgkdihlaaGreatDoor.T
open Go Go.RowKit Lin
structure RB where
 c : Nat
 f : Frm
 R : Hp
 cells : List D
 ga : Nat
 gp : Nat
 t : Nat
abbrev RB.tm (m : List (List Int)) (n t g : Nat) (k c : Nat) : TM := [(0, mat m), (1, int n), (4, .ptr 0 (t + 1) 0), (5, .ptr 1 g 0), (6, int k), (7, int c)]
end Go.Proofs.YtpbpafmgkdihlaaGreatDoor.T
