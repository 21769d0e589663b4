/- The signs of the head's word (printed by mkmake.py): the kernel need not take a long string apart. -/
import Derived.Test.YtjmmenfbcbagoaaRows
import Derived.Lib.SmallJoins
import Derived.ProofKit
set_option linter.all false
namespace Go.Proofs.Ytjmmenfbcbagoaa.T
open Go Go.RowKit Go.Joins
def wordSigns0 : List Char := ['h','a','r','n','e','s','s',' ','5','c','5','c','d','8','b','1','5','c','7','6','1','b','b','9','6','d','a','d','8','7','7','1','0','f','e','9','c','d','2','6','1','7','6','6','a','b','1','1','6','9','1','b','5','1','7','8','a','7','d','4','3','3','e','b']
def wordSigns1 : List Char := ['b','f','2','c','a','b','e','3',' ','c','u','t',' ','a','t',' ','l','o','f','t','b','l','o','c','k','/','l','o','f','t','b','l','o','c','k','l','a','w','1','1','.','S','t','a','t','i','c','s','T','u','r','n','s',' ','l','o','f','t','b','l','o','c','k','/']
def wordSigns2 : List Char := ['l','o','f','t','b','l','o','c','k','l','a','w','1','1','.','S','t','a','t','i','c','s','A','d','d','s',' ','l','o','f','t','b','l','o','c','k','/','l','o','f','t','b','l','o','c','k','l','a','w','1','6','.','M','o','b','i','l','i','t','y','P','r','o','v']
def wordSigns3 : List Char := ['e','s',' ','l','o','f','t','b','l','o','c','k','/','l','o','f','t','b','l','o','c','k','l','a','w','1','6','.','M','o','b','i','l','i','t','y','W','i','t','h','o','u','t',' ','l','o','f','t','b','l','o','c','k','/','l','o','f','t','b','l','o','c','k','l']
def wordSigns4 : List Char := ['a','w','1','6','.','M','o','b','i','l','i','t','y','O','r','d','e','r',' ','l','o','f','t','b','l','o','c','k','/','l','o','f','t','b','l','o','c','k','l','a','w','1','6','.','M','o','b','i','l','i','t','y','R','e','m','o','v','e','s']
def wordSigns : List Char := wordSigns0 ++ wordSigns1 ++ wordSigns2 ++ wordSigns3 ++ wordSigns4
theorem word_is : Try.prog.initOrder.toList = wordSigns := by
  have h : Try.prog.initOrder = String.ofList wordSigns := by kernel_rfl
  rw [h, String.toList_ofList]
theorem word_cut : behindMainWord (wordsSigns wordSigns) = "cut".toList :: (behindMainWord (wordsSigns wordSigns)).tail := by kernel_rfl
theorem make_of (P : Program) (l : List Char) (h : P.initOrder.toList = l) (r : List (List Char)) (hr : behindMainWord (wordsSigns l) = "cut".toList :: r) : P.make = some .cut := by
  unfold Program.make
  rw [h, hr]
  rfl
theorem enter_of (P : Program) (l : List Char) (h : P.initOrder.toList = l) (r : List (List Char)) (hr : behindMainWord (wordsSigns l) = "cut".toList :: r) (h1 : P.laysLater = false) (h2 : P.bearsReflect = false) (h3 : P.doorFits [] = true) (hs : stripLifts liftWords ("cut".toList :: r) = ([], "cut".toList :: r)) : P.mayEnter = true := by
  unfold Program.mayEnter
  rw [h, hr]
  simp only [hs, h1, h2, h3]
  rfl
theorem word_make : Try.prog.make = some .cut := make_of _ wordSigns word_is _ word_cut
theorem word_enter : Try.prog.mayEnter = true := enter_of _ wordSigns word_is _ word_cut (by kernel_rfl) (by kernel_rfl) (by kernel_rfl) (by kernel_rfl)
theorem word_lifts : Try.prog.liftsFinal = false := by
  unfold Program.liftsFinal Program.headLifts
  rw [word_is]
  kernel_rfl
theorem word_enterP : Try.pinned.checked.prog.mayEnter = true := word_enter
theorem word_liftsP : Try.pinned.checked.prog.liftsFinal = false := word_lifts
theorem word_makeP : Try.pinned.checked.prog.make = some .cut := word_make
end Go.Proofs.Ytjmmenfbcbagoaa.T
