import Derived.Test.YtjjpjgnoanfaoaaGreatPMJ
set_option linter.all false
section
namespace Go.Proofs.YtjjpjgnoanfaoaaGreat.T
open Go Go.RowKit Lin
set_option linter.unusedSimpArgs false

/-! Chapter 12: what is right. -/
theorem speedsP_val {s : Sy} {h : List Int} (h0 : (speedsP s h).2 = 0) : ∃ X D, D ≠ 0 ∧ SolQ (trS s) h X D ∧ (speedsP s h).1.length = s.bs.length ∧ ∀ (k : Nat) (f : Int × Int), (speedsP s h).1[k]? = some f → Val f (X k) D := by
  obtain ⟨hg, _⟩ := speedsP_full h0
  obtain ⟨hv, hz, hr⟩ := givH_zero hg
  have ok := validS_ok hv
  obtain ⟨tv, tw⟩ := ok.tr_valid
  unfold speedsP at h0 ⊢
  rw [if_pos hg] at h0 ⊢
  have := solve_val tv (by rw [hz, ok.tr_len]) (rangedP_within hz hr) h0
  rwa [tw] at this
/-! Virtual work (plain). -/
end Go.Proofs.YtjjpjgnoanfaoaaGreat.T
end

section
namespace Go.Proofs.YtjjpjgnoanfaoaaGreat.T
open Go Go.RowKit Lin
set_option linter.unusedSimpArgs false

/-! Chapter 12: what Check says (plain). -/
section
variable {s : Sy} {h : List Int} {v : List (Int × Int)} (hg : givH s h = 0) (ha : allV v = true) (hl : v.length = s.bs.length)
include hg ha hl
end
end Go.Proofs.YtjjpjgnoanfaoaaGreat.T
end

