/- The signs of the head's word (printed by mkmake.py): the kernel need not take a long string apart. -/
import Derived.Test.YtifmgjieplmbnaaRows
import Derived.Lib.SmallJoins
import Derived.ProofKit
set_option linter.all false
namespace Go.Proofs.Ytifmgjieplmbnaa.T
open Go Go.RowKit Go.Joins
def wordSigns0 : List Char := ['h','a','r','n','e','s','s',' ','b','8','f','1','1','4','5','9','c','5','1','8','f','1','a','0','c','d','1','c','2','b','b','6','7','6','7','9','a','6','3','f','4','b','7','2','f','e','f','5','a','d','e','7','1','e','d','5','a','c','4','f','1','9','a','f']
def wordSigns1 : List Char := ['f','a','b','6','9','c','8','4',' ','c','u','t',' ','a','t',' ','l','o','f','t','b','l','o','c','k','/','l','o','f','t','b','l','o','c','k','l','a','w','1','1','.','S','t','a','t','i','c','s','T','u','r','n','s',' ','l','o','f','t','b','l','o','c','k','/']
def wordSigns2 : List Char := ['l','o','f','t','b','l','o','c','k','l','a','w','1','1','.','S','t','a','t','i','c','s','A','d','d','s',' ','l','o','f','t','b','l','o','c','k','/','l','o','f','t','b','l','o','c','k','l','a','w','1','2','.','M','o','t','i','o','n','S','p','e','e','d','s']
def wordSigns3 : List Char := [' ','l','o','f','t','b','l','o','c','k','/','l','o','f','t','b','l','o','c','k','l','a','w','1','1','.','S','t','a','t','i','c','s','P','o','i','n','t',' ','l','o','f','t','b','l','o','c','k','/','l','o','f','t','b','l','o','c','k','l','a','w','1','1','.']
def wordSigns4 : List Char := ['S','t','a','t','i','c','s','C','h','e','c','k','s',' ','l','o','f','t','b','l','o','c','k','/','l','o','f','t','b','l','o','c','k','l','a','w','1','2','.','M','o','t','i','o','n','W','o','r','k',' ','l','o','f','t','b','l','o','c','k','/','l','o','f','t']
def wordSigns5 : List Char := ['b','l','o','c','k','l','a','w','1','6','.','M','o','b','i','l','i','t','y','K','e','e','p','s',' ','l','o','f','t','b','l','o','c','k','/','l','o','f','t','b','l','o','c','k','l','a','w','1','1','.','S','t','a','t','i','c','s','H','o','l','d','s',' ','l']
def wordSigns6 : List Char := ['o','f','t','b','l','o','c','k','/','l','o','f','t','b','l','o','c','k','l','a','w','1','6','.','M','o','b','i','l','i','t','y','P','r','o','v','e','s',' ','l','o','f','t','b','l','o','c','k','/','l','o','f','t','b','l','o','c','k','l','a','w','1','6','.']
def wordSigns7 : List Char := ['M','o','b','i','l','i','t','y','W','i','t','h','o','u','t',' ','l','o','f','t','b','l','o','c','k','/','l','o','f','t','b','l','o','c','k','l','a','w','1','6','.','M','o','b','i','l','i','t','y','O','r','d','e','r',' ','l','o','f','t','b','l','o','c','k']
def wordSigns8 : List Char := ['/','l','o','f','t','b','l','o','c','k','l','a','w','1','2','.','M','o','t','i','o','n','G','o','e','s',' ','l','o','f','t','b','l','o','c','k','/','l','o','f','t','b','l','o','c','k','l','a','w','1','2','.','M','o','t','i','o','n','L','e','n','g','t','h']
def wordSigns9 : List Char := ['s',' ','l','o','f','t','b','l','o','c','k','/','l','o','f','t','b','l','o','c','k','l','a','w','1','6','.','M','o','b','i','l','i','t','y','R','e','m','o','v','e','s',' ','l','o','f','t','b','l','o','c','k','/','l','o','f','t','b','l','o','c','k','l','a']
def wordSigns10 : List Char := ['w','1','2','.','M','o','t','i','o','n','F','r','e','e','s']
def wordSigns : List Char := wordSigns0 ++ wordSigns1 ++ wordSigns2 ++ wordSigns3 ++ wordSigns4 ++ wordSigns5 ++ wordSigns6 ++ wordSigns7 ++ wordSigns8 ++ wordSigns9 ++ wordSigns10
theorem word_is : Try.prog.initOrder.toList = wordSigns := by
  have h : Try.prog.initOrder = String.ofList wordSigns := by kernel_rfl
  rw [h, String.toList_ofList]
theorem word_cut : behindMainWord (wordsSigns wordSigns) = "cut".toList :: (behindMainWord (wordsSigns wordSigns)).tail := by kernel_rfl
theorem make_of (P : Program) (l : List Char) (h : P.initOrder.toList = l) (r : List (List Char)) (hr : behindMainWord (wordsSigns l) = "cut".toList :: r) : P.make = some .cut := by
  unfold Program.make
  rw [h, hr]
  rfl
theorem enter_of (P : Program) (l : List Char) (h : P.initOrder.toList = l) (r : List (List Char)) (hr : behindMainWord (wordsSigns l) = "cut".toList :: r) (h1 : P.laysLater = false) (h2 : P.bearsReflect = false) (h3 : P.doorFits [] = true) (hs : stripLifts liftWords ("cut".toList :: r) = ([], "cut".toList :: r)) : P.mayEnter = true := by
  unfold Program.mayEnter
  rw [h, hr]
  simp only [hs, h1, h2, h3]
  rfl
theorem word_make : Try.prog.make = some .cut := make_of _ wordSigns word_is _ word_cut
theorem word_enter : Try.prog.mayEnter = true := enter_of _ wordSigns word_is _ word_cut (by kernel_rfl) (by kernel_rfl) (by kernel_rfl) (by kernel_rfl)
theorem word_lifts : Try.prog.liftsFinal = false := by
  unfold Program.liftsFinal Program.headLifts
  rw [word_is]
  kernel_rfl
theorem word_enterP : Try.pinned.checked.prog.mayEnter = true := word_enter
theorem word_liftsP : Try.pinned.checked.prog.liftsFinal = false := word_lifts
theorem word_makeP : Try.pinned.checked.prog.make = some .cut := word_make
end Go.Proofs.Ytifmgjieplmbnaa.T
