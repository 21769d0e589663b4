import Derived.Test.YtjjpjgnoanfaoaaGreatSFJ
import Derived.Test.YtjjpjgnoanfaoaaGreatSHJ
import Derived.Test.YtjjpjgnoanfaoaaGreatQWPJ
import Derived.Test.YtjjpjgnoanfaoaaGreatQSKM
set_option linter.all false
section
section
namespace Go.Proofs.YtjjpjgnoanfaoaaGreat.T
open Go Go.RowKit Lin
set_option linter.unusedSimpArgs false

/-! Differences, sums of products. -/
theorem vfrac_neg {a b : Int} (h : vfrac a b = true) : vfrac (-a) b = true := by
  unfold vfrac at h ⊢
  simp only [Bool.and_eq_true, decide_eq_true_eq, Int.natAbs_neg] at h ⊢
  omega
def subP (a b : Int × Int) : (Int × Int) × Int := if vfrac a.1 a.2 = true ∧ vfrac b.1 b.2 = true then addR a (-b.1, b.2) else ((0, 0), 1)
theorem allV_at {l : List (Int × Int)} {k : Nat} {f : Int × Int} (h : allV l = true) (hk : l[k]? = some f) : vfrac f.1 f.2 = true := by
  unfold allV at h
  rw [List.all_eq_true] at h
  exact h f (List.mem_of_getElem? hk)
/-! What is given. -/
end Go.Proofs.YtjjpjgnoanfaoaaGreat.T
end

section
namespace Go.Proofs.YtjjpjgnoanfaoaaGreat.T
open Go Go.RowKit Lin
set_option linter.unusedSimpArgs false

/-! The total of tensions. -/
end Go.Proofs.YtjjpjgnoanfaoaaGreat.T
end

section
namespace Go.Proofs.YtjjpjgnoanfaoaaGreat.T
open Go Go.RowKit Lin
set_option linter.unusedSimpArgs false

/-! The total of tensions, by the reference. -/
end Go.Proofs.YtjjpjgnoanfaoaaGreat.T
end

section
namespace Go.Proofs.YtjjpjgnoanfaoaaGreat.T
open Go Go.RowKit Lin
set_option linter.unusedSimpArgs false

/-! Chapter 11: the law of totals. -/
end Go.Proofs.YtjjpjgnoanfaoaaGreat.T
end
end

section
section
namespace Go.Proofs.YtjjpjgnoanfaoaaGreat.T
open Go Go.RowKit Lin
set_option linter.unusedSimpArgs false

/-! The residuals. -/
end Go.Proofs.YtjjpjgnoanfaoaaGreat.T
end

section
namespace Go.Proofs.YtjjpjgnoanfaoaaGreat.T
open Go Go.RowKit Lin
set_option linter.unusedSimpArgs false

/-! The residuals, by the reference. -/
end Go.Proofs.YtjjpjgnoanfaoaaGreat.T
end

section
namespace Go.Proofs.YtjjpjgnoanfaoaaGreat.T
open Go Go.RowKit Lin
set_option linter.unusedSimpArgs false

/-! The residuals, by the program. -/
end Go.Proofs.YtjjpjgnoanfaoaaGreat.T
end

section
namespace Go.Proofs.YtjjpjgnoanfaoaaGreat.T
open Go Go.RowKit Lin
set_option linter.unusedSimpArgs false

/-! Checks. -/
end Go.Proofs.YtjjpjgnoanfaoaaGreat.T
end

section
namespace Go.Proofs.YtjjpjgnoanfaoaaGreat.T
open Go Go.RowKit Lin
set_option linter.unusedSimpArgs false

/-! The reference's check. -/
end Go.Proofs.YtjjpjgnoanfaoaaGreat.T
end

section
namespace Go.Proofs.YtjjpjgnoanfaoaaGreat.T
open Go Go.RowKit Lin
set_option linter.unusedSimpArgs false

/-! The reference's check; the law of checks. -/
end Go.Proofs.YtjjpjgnoanfaoaaGreat.T
end
end

