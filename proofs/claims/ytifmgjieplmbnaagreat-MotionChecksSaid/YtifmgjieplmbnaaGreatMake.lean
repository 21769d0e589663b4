/- The signs of the head's word (printed by mkmake.py): the kernel need not take a long string apart. -/
import Derived.Test.YtifmgjieplmbnaaGreatRows
import Derived.Lib.SmallJoins
import Derived.ProofKit
set_option linter.all false
namespace Go.Proofs.YtifmgjieplmbnaaGreat.T
open Go Go.RowKit Go.Joins
def wordSigns0 : List Char := ['h','a','r','n','e','s','s',' ','7','e','4','1','5','3','6','3','3','1','9','4','b','5','0','7','9','9','2','f','9','2','0','3','d','4','2','0','e','8','4','c','0','1','b','c','d','b','c','e','0','e','1','e','6','d','6','a','6','8','6','5','1','3','7','2']
def wordSigns1 : List Char := ['7','0','4','f','7','2','5','2',' ','c','u','t',' ','a','t',' ','l','o','f','t','b','l','o','c','k','/','l','o','f','t','b','l','o','c','k','l','a','w','1','6','.','M','o','b','i','l','i','t','y','M','o','d','e','s',' ','l','o','f','t','b','l','o','c','k']
def wordSigns2 : List Char := ['/','l','o','f','t','b','l','o','c','k','l','a','w','1','6','.','M','o','b','i','l','i','t','y','R','e','d','u','n','d','a','n','t',' ','l','o','f','t','b','l','o','c','k','/','l','o','f','t','b','l','o','c','k','l','a','w','1','2','.','M','o','t','i','o']
def wordSigns3 : List Char := ['n','T','r','a','v','e','l','s',' ','l','o','f','t','b','l','o','c','k','/','l','o','f','t','b','l','o','c','k','l','a','w','1','2','.','M','o','t','i','o','n','C','h','e','c','k','s']
def wordSigns : List Char := wordSigns0 ++ wordSigns1 ++ wordSigns2 ++ wordSigns3
theorem word_is : Tryz.prog.initOrder.toList = wordSigns := by
  have h : Tryz.prog.initOrder = String.ofList wordSigns := by kernel_rfl
  rw [h, String.toList_ofList]
theorem word_cut : behindMainWord (wordsSigns wordSigns) = "cut".toList :: (behindMainWord (wordsSigns wordSigns)).tail := by kernel_rfl
theorem make_of (P : Program) (l : List Char) (h : P.initOrder.toList = l) (r : List (List Char)) (hr : behindMainWord (wordsSigns l) = "cut".toList :: r) : P.make = some .cut := by
  unfold Program.make
  rw [h, hr]
  rfl
theorem enter_of (P : Program) (l : List Char) (h : P.initOrder.toList = l) (r : List (List Char)) (hr : behindMainWord (wordsSigns l) = "cut".toList :: r) (h1 : P.laysLater = false) (h2 : P.bearsReflect = false) (h3 : P.doorFits [] = true) (hs : stripLifts liftWords ("cut".toList :: r) = ([], "cut".toList :: r)) : P.mayEnter = true := by
  unfold Program.mayEnter
  rw [h, hr]
  simp only [hs, h1, h2, h3]
  rfl
theorem word_make : Tryz.prog.make = some .cut := make_of _ wordSigns word_is _ word_cut
theorem word_enter : Tryz.prog.mayEnter = true := enter_of _ wordSigns word_is _ word_cut (by kernel_rfl) (by kernel_rfl) (by kernel_rfl) (by kernel_rfl)
theorem word_lifts : Tryz.prog.liftsFinal = false := by
  unfold Program.liftsFinal Program.headLifts
  rw [word_is]
  kernel_rfl
theorem word_enterP : Tryz.pinned.checked.prog.mayEnter = true := word_enter
theorem word_liftsP : Tryz.pinned.checked.prog.liftsFinal = false := word_lifts
theorem word_makeP : Tryz.pinned.checked.prog.make = some .cut := word_make
end Go.Proofs.YtifmgjieplmbnaaGreat.T
