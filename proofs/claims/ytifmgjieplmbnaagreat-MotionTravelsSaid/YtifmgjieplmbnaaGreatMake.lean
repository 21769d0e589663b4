/- The signs of the head's word (printed by mkmake.py): the kernel need not take a long string apart. -/
import Derived.Test.YtifmgjieplmbnaaGreatRows
import Derived.Lib.SmallJoins
import Derived.ProofKit
set_option linter.all false
namespace Go.Proofs.YtifmgjieplmbnaaGreat.T
open Go Go.RowKit Go.Joins
def wordSigns0 : List Char := [104,97,114,110,101,115,115,32,55,101,52,49,53,51,54,51,51,49,57,52,98,53,48,55,57,57,50,102,57,50,48,51,100,52,50,48,101,56,52,99,48,49,98,99,100,98,99,101,48,101,49,101,54,100,54,97,54,56,54,53,49,51,55,50].map Char.ofNat
def wordSigns1 : List Char := [55,48,52,102,55,50,53,50,32,99,117,116,32,97,116,32,108,111,102,116,98,108,111,99,107,47,108,111,102,116,98,108,111,99,107,108,97,119,49,54,46,77,111,98,105,108,105,116,121,77,111,100,101,115,32,108,111,102,116,98,108,111,99,107].map Char.ofNat
def wordSigns2 : List Char := [47,108,111,102,116,98,108,111,99,107,108,97,119,49,54,46,77,111,98,105,108,105,116,121,82,101,100,117,110,100,97,110,116,32,108,111,102,116,98,108,111,99,107,47,108,111,102,116,98,108,111,99,107,108,97,119,49,50,46,77,111,116,105,111].map Char.ofNat
def wordSigns3 : List Char := [110,84,114,97,118,101,108,115,32,108,111,102,116,98,108,111,99,107,47,108,111,102,116,98,108,111,99,107,108,97,119,49,50,46,77,111,116,105,111,110,67,104,101,99,107,115].map Char.ofNat
def wordSigns : List Char := wordSigns0 ++ wordSigns1 ++ wordSigns2 ++ wordSigns3
theorem word_is : Tryz.prog.initOrder.toList = wordSigns := by
  have h : Tryz.prog.initOrder = String.ofList wordSigns := by kernel_rfl
  rw [h, String.toList_ofList]
theorem word_cut : behindMainWord (wordsSigns wordSigns) = "cut".toList :: (behindMainWord (wordsSigns wordSigns)).tail := by kernel_rfl
theorem make_of (P : Program) (l : List Char) (h : P.initOrder.toList = l) (r : List (List Char)) (hr : behindMainWord (wordsSigns l) = "cut".toList :: r) : P.make = some .cut := by
  unfold Program.make
  rw [h, hr]
  rfl
theorem enter_of (P : Program) (l : List Char) (h : P.initOrder.toList = l) (r : List (List Char)) (hr : behindMainWord (wordsSigns l) = "cut".toList :: r) (h1 : P.laysLater = false) (h2 : P.bearsReflect = false) (h3 : P.doorFits [] = true) (hs : stripLifts liftWords ("cut".toList :: r) = ([], "cut".toList :: r)) : P.mayEnter = true := by
  unfold Program.mayEnter
  rw [h, hr]
  simp only [hs, h1, h2, h3]
  rfl
theorem word_make : Tryz.prog.make = some .cut := make_of _ wordSigns word_is _ word_cut
theorem word_enter : Tryz.prog.mayEnter = true := enter_of _ wordSigns word_is _ word_cut (by kernel_rfl) (by kernel_rfl) (by kernel_rfl) (by kernel_rfl)
theorem word_lifts : Tryz.prog.liftsFinal = false := by
  unfold Program.liftsFinal Program.headLifts
  rw [word_is]
  kernel_rfl
theorem word_enterP : Tryz.pinned.checked.prog.mayEnter = true := word_enter
theorem word_liftsP : Tryz.pinned.checked.prog.liftsFinal = false := word_lifts
theorem word_makeP : Tryz.pinned.checked.prog.make = some .cut := word_make
end Go.Proofs.YtifmgjieplmbnaaGreat.T
