/- The small functions of the reference of package span over this seat's program. -/
import Derived.Test.YtjjpjgnoanfaoaaSpanA
set_option linter.all false
namespace Go.Proofs.Ytjjpjgnoanfaoaa
open Go.RowKit

theorem ref_Valid (a b : Int) (w : World) : Calls Try.prog 15 #[.agg #[.int .i64 a, .int .i64 b]] w fun e w' => e = .returned (.bool (vspan a b)) ∧ Below w.heap.size w w' := by
  go_enter Try.func15, Try.ntmps15
  go_wp2
  all_goals (go_ret; exact ⟨by simp [vspan, *] <;> omega, by go_grown⟩)

def hasS (a b n : Int) : Bool := decide (a ≤ n) && decide (n ≤ b)
def insideS (a b c d : Int) : Bool := decide (c ≤ a) && decide (b ≤ d)
theorem ref_Inside (a b c d : Int) (w : World) : Calls Try.prog 19 #[.agg #[.int .i64 a, .int .i64 b], .agg #[.int .i64 c, .int .i64 d]] w fun e w' => e = .returned (.bool (insideS a b c d)) ∧ Below w.heap.size w w' := by
  go_enter Try.func19, Try.ntmps19
  go_wp2
  all_goals (go_ret; exact ⟨by simp [insideS, *] <;> omega, by go_grown⟩)

def fitsS (lo hi : Int) : T3 := if vspan lo hi then (lo, hi, 0) else (0, 0, 5)
end Go.Proofs.Ytjjpjgnoanfaoaa
