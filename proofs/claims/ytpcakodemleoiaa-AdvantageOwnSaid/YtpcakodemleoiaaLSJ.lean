import Derived.Test.YtpcakodemleoiaaTB
import Derived.Test.YtpcakodemleoiaaLSA
import Derived.Test.YtpcakodemleoiaaWOP
import Derived.Test.YtpcakodemleoiaaWRS
set_option linter.all false
section
namespace Go.Proofs.Ytpcakodemleoiaa.T
open Go Go.RowKit Lin
set_option linter.unusedSimpArgs false

theorem within_cons2 (x : Int) (l : List Int) {b : Int} (hb : 0 ≤ b) : withinP (x :: l) b = (decide (-b ≤ x ∧ x ≤ b) && withinP l b) := by
  unfold withinP
  rw [List.any_cons, Bool.not_or]
  congr 1
  by_cases h1 : x < -b
  · simp [h1]; omega
  · by_cases h2 : b < x
    · simp [h2]
    · simp [h1, h2]; omega
end Go.Proofs.Ytpcakodemleoiaa.T
end

section
namespace Go.Proofs.Ytpcakodemleoiaa.T
open Go Go.RowKit Lin
set_option linter.unusedSimpArgs false

theorem natE_ints (l : List Nat) : natE l = (l.map fun x : Nat => (x : Int)).map int := by rw [List.map_map]; rfl
def solsP (f : Frm) (n k : Nat) : List (Int × Int) := (List.range k).map fun k => (makeP (Lin.at_ (Lin.row f.rows k) n) f.den).1
theorem solsP_len (f : Frm) (n k : Nat) : (solsP f n k).length = k := by simp [solsP]
theorem rsv_frC (H : Hp) (k : Nat) (l : List (Int × Int)) : (frC l).map (rsv H (k + 1)) = frC l := by
  induction l with
  | nil => rfl
  | cons p l ih =>
    simp only [frC, List.flatMap_cons, List.map_append] at ih ⊢
    rw [ih]; rfl
end Go.Proofs.Ytpcakodemleoiaa.T
end

section
namespace Go.Proofs.Ytpcakodemleoiaa.T
open Go Go.RowKit Lin
set_option linter.unusedSimpArgs false

structure Nx (l : List Nat) (c nx : Nat) : Prop where
  le : nx ≤ l.length
  lt : ∀ j p, l[j]? = some p → (j < nx ↔ p < c)
theorem Nx.zero (l : List Nat) : Nx l 0 0 := ⟨Nat.zero_le _, fun j p _ => by omega⟩
theorem Nx.hit {l : List Nat} {c nx : Nat} (hs : l.Pairwise (· < ·)) (h : Nx l c nx) (hp : l[nx]? = some c) : l.contains c = true ∧ Nx l (c + 1) (nx + 1) := by
  have hl := (List.getElem?_eq_some_iff.1 hp).1
  refine ⟨List.contains_iff_mem.2 (List.mem_of_getElem? hp), hl, fun j p hj => ?_⟩
  have h1 := h.lt j p hj
  rcases Nat.lt_trichotomy j nx with hlt | rfl | hgt
  · have := h1.1 hlt; omega
  · rw [hp] at hj; cases hj; omega
  · obtain ⟨a1, a2⟩ := List.getElem?_eq_some_iff.1 hp
    obtain ⟨b1, b2⟩ := List.getElem?_eq_some_iff.1 hj
    have := List.pairwise_iff_getElem.1 hs nx j a1 b1 hgt
    omega
theorem Nx.miss {l : List Nat} {c nx : Nat} (hs : l.Pairwise (· < ·)) (h : Nx l c nx) (hp : ∀ p, l[nx]? = some p → p ≠ c) : l.contains c = false ∧ Nx l (c + 1) nx := by
  have key : ∀ j p, l[j]? = some p → nx ≤ j → c < p := fun j p hj hle => by
    have h1 := h.lt j p hj
    obtain ⟨b1, b2⟩ := List.getElem?_eq_some_iff.1 hj
    have hn : nx < l.length := by omega
    have hq : l[nx]? = some l[nx] := List.getElem?_eq_getElem hn
    have h2 := hp _ hq
    have h3 := h.lt nx _ hq
    rcases Nat.lt_or_eq_of_le hle with hlt | rfl
    · have := List.pairwise_iff_getElem.1 hs nx j hn b1 hlt
      omega
    · rw [hj] at hq; cases hq; omega
  refine ⟨?_, h.le, fun j p hj => ?_⟩
  · rw [← Bool.not_eq_true, List.contains_iff_mem]
    intro hm
    obtain ⟨j, hj⟩ := List.mem_iff_getElem?.1 hm
    by_cases hlt : j < nx
    · have := (h.lt j c hj).1 hlt; omega
    · have := key j c hj (by omega); omega
  · have h1 := h.lt j p hj
    by_cases hlt : j < nx
    · have := h1.1 hlt; omega
    · have := key j p hj (by omega); omega
def fillF (n k : Nat) : List (Int × Int) := List.replicate k (0, 1) ++ List.replicate (n - k) (0, 0)
theorem fillF_len {n k : Nat} (h : k ≤ n) : (fillF n k).length = n := by simp [fillF]; omega
theorem fillF_set {n k : Nat} (h : k < n) : (fillF n k).set k (0, 1) = fillF n (k + 1) := by
  unfold fillF
  rw [List.set_append_right _ _ (by simp)]
  obtain ⟨j, hj⟩ : ∃ j, n - k = j + 1 := ⟨n - k - 1, by omega⟩
  rw [hj, show n - (k + 1) = j by omega, List.replicate_succ' (n := k), List.replicate_succ (n := j)]
  simp
theorem fillF_end (n : Nat) : fillF n n = List.replicate n (0, 1) := by simp [fillF]
theorem fillF_zero (n : Nat) : fillF n 0 = List.replicate n (0, 0) := by simp [fillF]
structure NR where
  c : Nat
  nx : Nat
  g : Nat
  t : Nat
end Go.Proofs.Ytpcakodemleoiaa.T
end
