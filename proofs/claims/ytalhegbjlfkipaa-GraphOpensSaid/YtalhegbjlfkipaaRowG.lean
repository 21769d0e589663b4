import Derived.Test.YtalhegbjlfkipaaGWA
import Derived.Test.YtalhegbjlfkipaaTJ
import Derived.OpenShut
set_option linter.all false
/- What the arguments of chapter 6's laws stand for: numbers, slices of numbers, slices of pairs. -/
namespace Go.Proofs.Ytalhegbjlfkipaa.T
open Go Go.RowKit Go.ChangeShapes

theorem slice_one {P : Program} {w : World} {r : Reach} {base : Nat} {t e : TypeId} {v : Value} (ht : P.underlying t = some (.slice e)) (h : Value.okWide P w r base t v) : v.cells = #[v] := by
  simp only [Value.okWide, ht, Cell.okWide] at h
  cases v <;> simp_all [Value.cells, Cell.ok]
theorem ints_of : ∀ {rows : List (List D)}, (∀ r ∈ rows, (∃ n, r = [int n] ∧ (Lit.int .i64 n).wf = true) ∧ r.length = 1) → ∃ l : List Int, rows.flatten = l.map int ∧ ∀ x ∈ l, (Lit.int .i64 x).wf = true
  | [], _ => ⟨[], rfl, by simp⟩
  | r :: rows, h => by
    obtain ⟨⟨n, rfl, hw⟩, _⟩ := h r (by simp)
    obtain ⟨l, e, hl⟩ := ints_of fun x hx => h x (List.mem_cons_of_mem _ hx)
    exact ⟨n :: l, by simp [e], fun x hx => by
      rcases List.mem_cons.1 hx with rfl | hx
      · exact hw
      · exact hl x hx⟩
theorem cellsInt : Try.prog.cellsOf 3 = 1 := by kernel_rfl
theorem cellsInts : Try.prog.cellsOf 25 = 1 := by kernel_rfl
section
variable {H : Type} {enc : TypeId × Value → H} {W : World}
theorem opn_ints : Opn enc Try.prog W 25 fun ds => ∃ l : List Int, ds = [ints l] ∧ ∀ x ∈ l, (Lit.int .i64 x).wf = true :=
  (Opn.slice Try.underlying25 cellsInt (by decide) (Opn.int Try.underlying3)).mono fun ds ⟨rows, e, h, _⟩ => by
    obtain ⟨l, e2, hl⟩ := ints_of h
    exact ⟨l, by rw [e, e2], hl⟩
theorem cellsPair : Try.prog.cellsOf 43 = 2 := by kernel_rfl
theorem Opn.pair {P : Program} {t e : TypeId} {S : List D → Prop} (ht : P.underlying t = some (.array 2 e)) (hz : P.cellsOf e = 1) (hc : P.cellsOf t = 2) (he : Opn enc P W e S) :
    Opn enc P W t fun ds => ∃ d0 d1, ds = d0 ++ d1 ∧ S d0 ∧ S d1 := fun fuel cs x hx => by
  obtain ⟨xs, m, _, _, hl, hxl, hg⟩ := DataW.trod_array ht hx
  have h0 := hg 0 (by omega)
  have h1 := hg 1 (by omega)
  rw [hz, List.getElem?_eq_getElem (by omega)] at h0 h1
  obtain ⟨d0, r0, s0⟩ := he _ _ _ h0
  obtain ⟨d1, r1, s1⟩ := he _ _ _ h1
  refine ⟨d0 ++ d1, ?_, d0, d1, rfl, s0, s1⟩
  have := r0.append r1
  rw [hc] at hl
  match cs, hl with
  | [c0, c1], _ => simpa using this
theorem opn_pair : Opn enc Try.prog W 43 fun ds => ∃ a b, ds = [int a, int b] :=
  (Opn.pair Try.underlying43 cellsInt cellsPair (Opn.int Try.underlying3)).mono fun ds h => by
    obtain ⟨d0, d1, rfl, ⟨a, rfl, _⟩, ⟨b, rfl, _⟩⟩ := h
    exact ⟨a, b, rfl⟩
theorem eds_of : ∀ {rows : List (List D)}, (∀ r ∈ rows, (∃ a b, r = [int a, int b]) ∧ r.length = 2) → ∃ l : List (Int × Int), rows.flatten = edC l
  | [], _ => ⟨[], rfl⟩
  | r :: rows, h => by
    obtain ⟨⟨a, b, rfl⟩, _⟩ := h r (by simp)
    obtain ⟨l, e⟩ := eds_of fun x hx => h x (List.mem_cons_of_mem _ hx)
    exact ⟨(a, b) :: l, by simp [e, edC]⟩
theorem opn_eds : Opn enc Try.prog W 22 fun ds => ∃ l : List (Int × Int), ds = [eds l] ∧ True :=
  (Opn.slice Try.underlying22 cellsPair (by decide) opn_pair).mono fun ds ⟨rows, e, h, _⟩ => by
    obtain ⟨l, e2⟩ := eds_of h
    exact ⟨l, by rw [e, e2], trivial⟩
end
end Go.Proofs.Ytalhegbjlfkipaa.T
