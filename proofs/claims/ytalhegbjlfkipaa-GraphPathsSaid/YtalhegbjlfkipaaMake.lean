/- The signs of the head's word (printed by mkmake.py): the kernel need not take a long string apart. -/
import Derived.Test.YtalhegbjlfkipaaRows
import Derived.Lib.SmallJoins
import Derived.ProofKit
set_option linter.all false
namespace Go.Proofs.Ytalhegbjlfkipaa.T
open Go Go.RowKit Go.Joins
def wordSigns0 : List Char := [104,97,114,110,101,115,115,32,49,53,102,98,98,100,54,48,51,49,50,52,101,49,50,50,55,99,51,98,98,97,56,102,56,49,56,54,97,98,56,56,99,54,98,51,98,54,98,55,100,55,98,99,102,52,49,48,98,49,55,49,97,98,49,53].map Char.ofNat
def wordSigns1 : List Char := [49,97,50,51,51,48,56,48,32,99,117,116,32,97,116,32,108,111,102,116,98,108,111,99,107,47,108,111,102,116,98,108,111,99,107,108,97,119,48,54,46,71,114,97,112,104,66,114,105,100,103,101,115,32,108,111,102,116,98,108,111,99,107,47].map Char.ofNat
def wordSigns2 : List Char := [108,111,102,116,98,108,111,99,107,108,97,119,48,54,46,71,114,97,112,104,80,97,114,116,115,32,108,111,102,116,98,108,111,99,107,47,108,111,102,116,98,108,111,99,107,108,97,119,48,54,46,71,114,97,112,104,80,97,116,104,115,32,108,111].map Char.ofNat
def wordSigns3 : List Char := [102,116,98,108,111,99,107,47,108,111,102,116,98,108,111,99,107,108,97,119,48,54,46,71,114,97,112,104,67,121,99,108,101,115,32,108,111,102,116,98,108,111,99,107,47,108,111,102,116,98,108,111,99,107,108,97,119,48,54,46,71,114,97,112].map Char.ofNat
def wordSigns4 : List Char := [104,69,117,108,101,114,32,108,111,102,116,98,108,111,99,107,47,108,111,102,116,98,108,111,99,107,108,97,119,48,54,46,71,114,97,112,104,79,112,101,110,115].map Char.ofNat
def wordSigns : List Char := wordSigns0 ++ wordSigns1 ++ wordSigns2 ++ wordSigns3 ++ wordSigns4
theorem word_is : Try.prog.initOrder.toList = wordSigns := by
  have h : Try.prog.initOrder = String.ofList wordSigns := by kernel_rfl
  rw [h, String.toList_ofList]
theorem word_cut : behindMainWord (wordsSigns wordSigns) = "cut".toList :: (behindMainWord (wordsSigns wordSigns)).tail := by kernel_rfl
theorem make_of (P : Program) (l : List Char) (h : P.initOrder.toList = l) (r : List (List Char)) (hr : behindMainWord (wordsSigns l) = "cut".toList :: r) : P.make = some .cut := by
  unfold Program.make
  rw [h, hr]
  rfl
theorem enter_of (P : Program) (l : List Char) (h : P.initOrder.toList = l) (r : List (List Char)) (hr : behindMainWord (wordsSigns l) = "cut".toList :: r) (h1 : P.laysLater = false) (h2 : P.bearsReflect = false) (h3 : P.doorFits [] = true) (hs : stripLifts liftWords ("cut".toList :: r) = ([], "cut".toList :: r)) : P.mayEnter = true := by
  unfold Program.mayEnter
  rw [h, hr]
  simp only [hs, h1, h2, h3]
  rfl
theorem word_make : Try.prog.make = some .cut := make_of _ wordSigns word_is _ word_cut
theorem word_enter : Try.prog.mayEnter = true := enter_of _ wordSigns word_is _ word_cut (by kernel_rfl) (by kernel_rfl) (by kernel_rfl) (by kernel_rfl)
theorem word_lifts : Try.prog.liftsFinal = false := by
  unfold Program.liftsFinal Program.headLifts
  rw [word_is]
  kernel_rfl
theorem word_enterP : Try.pinned.checked.prog.mayEnter = true := word_enter
theorem word_liftsP : Try.pinned.checked.prog.liftsFinal = false := word_lifts
theorem word_makeP : Try.pinned.checked.prog.make = some .cut := word_make
end Go.Proofs.Ytalhegbjlfkipaa.T
