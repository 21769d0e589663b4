/- The signs of the head's word (printed by mkmake.py): the kernel need not take a long string apart. -/
import Derived.Test.YtalhegbjlfkipaaRows
import Derived.Lib.SmallJoins
import Derived.ProofKit
set_option linter.all false
namespace Go.Proofs.Ytalhegbjlfkipaa.T
open Go Go.RowKit Go.Joins
def wordSigns0 : List Char := ['h','a','r','n','e','s','s',' ','1','5','f','b','b','d','6','0','3','1','2','4','e','1','2','2','7','c','3','b','b','a','8','f','8','1','8','6','a','b','8','8','c','6','b','3','b','6','b','7','d','7','b','c','f','4','1','0','b','1','7','1','a','b','1','5']
def wordSigns1 : List Char := ['1','a','2','3','3','0','8','0',' ','c','u','t',' ','a','t',' ','l','o','f','t','b','l','o','c','k','/','l','o','f','t','b','l','o','c','k','l','a','w','0','6','.','G','r','a','p','h','B','r','i','d','g','e','s',' ','l','o','f','t','b','l','o','c','k','/']
def wordSigns2 : List Char := ['l','o','f','t','b','l','o','c','k','l','a','w','0','6','.','G','r','a','p','h','P','a','r','t','s',' ','l','o','f','t','b','l','o','c','k','/','l','o','f','t','b','l','o','c','k','l','a','w','0','6','.','G','r','a','p','h','P','a','t','h','s',' ','l','o']
def wordSigns3 : List Char := ['f','t','b','l','o','c','k','/','l','o','f','t','b','l','o','c','k','l','a','w','0','6','.','G','r','a','p','h','C','y','c','l','e','s',' ','l','o','f','t','b','l','o','c','k','/','l','o','f','t','b','l','o','c','k','l','a','w','0','6','.','G','r','a','p']
def wordSigns4 : List Char := ['h','E','u','l','e','r',' ','l','o','f','t','b','l','o','c','k','/','l','o','f','t','b','l','o','c','k','l','a','w','0','6','.','G','r','a','p','h','O','p','e','n','s']
def wordSigns : List Char := wordSigns0 ++ wordSigns1 ++ wordSigns2 ++ wordSigns3 ++ wordSigns4
theorem word_is : Try.prog.initOrder.toList = wordSigns := by
  have h : Try.prog.initOrder = String.ofList wordSigns := by kernel_rfl
  rw [h, String.toList_ofList]
theorem word_cut : behindMainWord (wordsSigns wordSigns) = "cut".toList :: (behindMainWord (wordsSigns wordSigns)).tail := by kernel_rfl
theorem make_of (P : Program) (l : List Char) (h : P.initOrder.toList = l) (r : List (List Char)) (hr : behindMainWord (wordsSigns l) = "cut".toList :: r) : P.make = some .cut := by
  unfold Program.make
  rw [h, hr]
  rfl
theorem enter_of (P : Program) (l : List Char) (h : P.initOrder.toList = l) (r : List (List Char)) (hr : behindMainWord (wordsSigns l) = "cut".toList :: r) (h1 : P.laysLater = false) (h2 : P.bearsReflect = false) (h3 : P.doorFits [] = true) (hs : stripLifts liftWords ("cut".toList :: r) = ([], "cut".toList :: r)) : P.mayEnter = true := by
  unfold Program.mayEnter
  rw [h, hr]
  simp only [hs, h1, h2, h3]
  rfl
theorem word_make : Try.prog.make = some .cut := make_of _ wordSigns word_is _ word_cut
theorem word_enter : Try.prog.mayEnter = true := enter_of _ wordSigns word_is _ word_cut (by kernel_rfl) (by kernel_rfl) (by kernel_rfl) (by kernel_rfl)
theorem word_lifts : Try.prog.liftsFinal = false := by
  unfold Program.liftsFinal Program.headLifts
  rw [word_is]
  kernel_rfl
theorem word_enterP : Try.pinned.checked.prog.mayEnter = true := word_enter
theorem word_liftsP : Try.pinned.checked.prog.liftsFinal = false := word_lifts
theorem word_makeP : Try.pinned.checked.prog.make = some .cut := word_make
end Go.Proofs.Ytalhegbjlfkipaa.T
