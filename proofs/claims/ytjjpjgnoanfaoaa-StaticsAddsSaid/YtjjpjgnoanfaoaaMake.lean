/- The signs of the head's word (printed by mkmake.py): the kernel need not take a long string apart. -/
import Derived.Test.YtjjpjgnoanfaoaaRows
import Derived.Lib.SmallJoins
import Derived.ProofKit
set_option linter.all false
namespace Go.Proofs.Ytjjpjgnoanfaoaa.T
open Go Go.RowKit Go.Joins
def wordSigns0 : List Char := ['h','a','r','n','e','s','s',' ','1','a','1','e','b','8','e','8','b','5','c','2','a','3','2','0','2','7','a','0','2','9','2','8','2','4','2','0','3','6','5','2','f','c','d','a','8','1','0','4','c','6','1','7','f','9','3','7','1','e','f','5','b','4','8','8']
def wordSigns1 : List Char := ['3','d','3','f','9','4','5','b',' ','c','u','t',' ','a','t',' ','l','o','f','t','b','l','o','c','k','/','l','o','f','t','b','l','o','c','k','l','a','w','0','3','.','S','p','a','n','N','a','r','r','o','w',' ','l','o','f','t','b','l','o','c','k','/','l','o']
def wordSigns2 : List Char := ['f','t','b','l','o','c','k','l','a','w','0','3','.','S','p','a','n','F','r','a','c','t','i','o','n','s',' ','l','o','f','t','b','l','o','c','k','/','l','o','f','t','b','l','o','c','k','l','a','w','1','1','.','S','t','a','t','i','c','s','T','u','r','n','s']
def wordSigns3 : List Char := [' ','l','o','f','t','b','l','o','c','k','/','l','o','f','t','b','l','o','c','k','l','a','w','1','1','.','S','t','a','t','i','c','s','A','d','d','s',' ','l','o','f','t','b','l','o','c','k','/','l','o','f','t','b','l','o','c','k','l','a','w','1','6','.','M']
def wordSigns4 : List Char := ['o','b','i','l','i','t','y','O','r','d','e','r',' ','l','o','f','t','b','l','o','c','k','/','l','o','f','t','b','l','o','c','k','l','a','w','1','3','.','A','d','v','a','n','t','a','g','e','S','a','m','e',' ','l','o','f','t','b','l','o','c','k','/','l','o']
def wordSigns5 : List Char := ['f','t','b','l','o','c','k','l','a','w','1','3','.','A','d','v','a','n','t','a','g','e','E','q','u','a','l',' ','l','o','f','t','b','l','o','c','k','/','l','o','f','t','b','l','o','c','k','l','a','w','1','3','.','A','d','v','a','n','t','a','g','e','O','w']
def wordSigns6 : List Char := ['n',' ','l','o','f','t','b','l','o','c','k','/','l','o','f','t','b','l','o','c','k','l','a','w','1','3','.','A','d','v','a','n','t','a','g','e','H','o','l','d','s',' ','l','o','f','t','b','l','o','c','k','/','l','o','f','t','b','l','o','c','k','l','a','w']
def wordSigns7 : List Char := ['1','4','.','L','o','s','s','e','s','T','w','i','c','e',' ','l','o','f','t','b','l','o','c','k','/','l','o','f','t','b','l','o','c','k','l','a','w','1','4','.','L','o','s','s','e','s','A','l','o','n','g']
def wordSigns : List Char := wordSigns0 ++ wordSigns1 ++ wordSigns2 ++ wordSigns3 ++ wordSigns4 ++ wordSigns5 ++ wordSigns6 ++ wordSigns7
theorem word_is : Try.prog.initOrder.toList = wordSigns := by
  have h : Try.prog.initOrder = String.ofList wordSigns := by kernel_rfl
  rw [h, String.toList_ofList]
theorem word_cut : behindMainWord (wordsSigns wordSigns) = "cut".toList :: (behindMainWord (wordsSigns wordSigns)).tail := by kernel_rfl
theorem make_of (P : Program) (l : List Char) (h : P.initOrder.toList = l) (r : List (List Char)) (hr : behindMainWord (wordsSigns l) = "cut".toList :: r) : P.make = some .cut := by
  unfold Program.make
  rw [h, hr]
  rfl
theorem enter_of (P : Program) (l : List Char) (h : P.initOrder.toList = l) (r : List (List Char)) (hr : behindMainWord (wordsSigns l) = "cut".toList :: r) (h1 : P.laysLater = false) (h2 : P.bearsReflect = false) (h3 : P.doorFits [] = true) (hs : stripLifts liftWords ("cut".toList :: r) = ([], "cut".toList :: r)) : P.mayEnter = true := by
  unfold Program.mayEnter
  rw [h, hr]
  simp only [hs, h1, h2, h3]
  rfl
theorem word_make : Try.prog.make = some .cut := make_of _ wordSigns word_is _ word_cut
theorem word_enter : Try.prog.mayEnter = true := enter_of _ wordSigns word_is _ word_cut (by kernel_rfl) (by kernel_rfl) (by kernel_rfl) (by kernel_rfl)
theorem word_lifts : Try.prog.liftsFinal = false := by
  unfold Program.liftsFinal Program.headLifts
  rw [word_is]
  kernel_rfl
theorem word_enterP : Try.pinned.checked.prog.mayEnter = true := word_enter
theorem word_liftsP : Try.pinned.checked.prog.liftsFinal = false := word_lifts
theorem word_makeP : Try.pinned.checked.prog.make = some .cut := word_make
end Go.Proofs.Ytjjpjgnoanfaoaa.T
