import Derived.Test.YtjjpjgnoanfaoaaGreatPMGI
set_option linter.all false

section
namespace Go.Proofs.YtjjpjgnoanfaoaaGreat.T
open Go Go.RowKit Lin
theorem at_wts {s : Sy} {i : Nat} {b : Bk} (h : s.bs[i]? = some b) : Lin.at_ (wtsS s) i = b.w := by simp [Lin.at_, wtsS, h]
end Go.Proofs.YtjjpjgnoanfaoaaGreat.T
end

