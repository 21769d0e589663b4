import Derived.Test.YtjjpjgnoanfaoaaMJ
set_option linter.all false
section
namespace Go.Proofs.Ytjjpjgnoanfaoaa.T
open Go Go.RowKit Lin
set_option linter.unusedSimpArgs false

/-! Chapter 12: what is right. -/
def rightP (s : Sy) (h : List Int) : Bool := smallS s && (givH s h == 0)
theorem rightP_ok {s : Sy} {h : List Int} (e : rightP s h = true) : smallS s = true ∧ givH s h = 0 := by
  unfold rightP at e
  simpa using e
theorem speedsP_right {s : Sy} {h : List Int} (hg : givH s h = 0) : ((speedsP s h).2 = 0 ∨ (speedsP s h).2 = 21 ∨ (speedsP s h).2 = 22) ∧ ((speedsP s h).2 ≠ 0 → (speedsP s h).1 = []) := by
  obtain ⟨hv, hz, hr⟩ := givH_zero hg
  have ok := validS_ok hv
  obtain ⟨tv, tw⟩ := ok.tr_valid
  have hl : h.length = (trS s).length := by rw [hz, ok.tr_len]
  have hw := rangedP_within hz hr
  unfold speedsP
  rw [if_pos hg]
  exact ⟨solve_cases tv hl hw, solve_nil tv hl hw⟩
theorem speedsP_val {s : Sy} {h : List Int} (h0 : (speedsP s h).2 = 0) : ∃ X D, D ≠ 0 ∧ SolQ (trS s) h X D ∧ (speedsP s h).1.length = s.bs.length ∧ ∀ (k : Nat) (f : Int × Int), (speedsP s h).1[k]? = some f → Val f (X k) D := by
  obtain ⟨hg, _⟩ := speedsP_full h0
  obtain ⟨hv, hz, hr⟩ := givH_zero hg
  have ok := validS_ok hv
  obtain ⟨tv, tw⟩ := ok.tr_valid
  unfold speedsP at h0 ⊢
  rw [if_pos hg] at h0 ⊢
  have := solve_val tv (by rw [hz, ok.tr_len]) (rangedP_within hz hr) h0
  rwa [tw] at this
/-! Virtual work (plain). -/
end Go.Proofs.Ytjjpjgnoanfaoaa.T
end

section
namespace Go.Proofs.Ytjjpjgnoanfaoaa.T
open Go Go.RowKit Lin
set_option linter.unusedSimpArgs false

/-! Chapter 12: what Check says (plain). -/
theorem prodA_app {x : List (Int × Int)} : ∀ (m : List (List Int)) (acc : List (Int × Int)), (prodA x acc m).2 = (prodA x [] m).2 ∧ ((prodA x [] m).2 = 0 → (prodA x acc m).1 = acc ++ (prodA x [] m).1)
  | [], acc => by simp [prodA]
  | r :: m, acc => by
    simp only [prodA]
    split
    · obtain ⟨a1, a2⟩ := prodA_app (x := x) m (acc ++ [(dotF r x (0, 1)).1])
      obtain ⟨b1, b2⟩ := prodA_app (x := x) m ([] ++ [(dotF r x (0, 1)).1])
      refine ⟨by rw [a1, b1], fun h => ?_⟩
      rw [b1] at h
      rw [a2 h, b2 h]
      simp
    · rename_i h1
      exact ⟨rfl, fun h => absurd h h1⟩
theorem prodA_at {x : List (Int × Int)} : ∀ (m : List (List Int)), (prodA x [] m).2 = 0 → ∀ (i : Nat) (r : List Int), m[i]? = some r → (dotF r x (0, 1)).2 = 0 ∧ (prodA x [] m).1[i]? = some (dotF r x (0, 1)).1
  | [], _, i, r, hr => by simp at hr
  | r :: m, h0, i, r', hr => by
    simp only [prodA] at h0 ⊢
    split at h0
    rotate_left 1
    · rename_i h1; exact absurd h0 h1
    rename_i h1
    rw [if_pos h1]
    obtain ⟨a1, a2⟩ := prodA_app (x := x) m ([] ++ [(dotF r x (0, 1)).1])
    rw [a1] at h0
    rw [a2 h0]
    cases i with
    | zero =>
      simp only [List.getElem?_cons_zero, Option.some.injEq] at hr
      subst hr
      exact ⟨h1, by simp⟩
    | succ i =>
      have ih := prodA_at m h0 i r' (by simpa using hr)
      refine ⟨ih.1, ?_⟩
      simpa using ih.2
theorem prodA_err {x : List (Int × Int)} : ∀ (m : List (List Int)) (acc : List (Int × Int)), (∀ r ∈ m, (dotF r x (0, 1)).2 = 0 ∨ (dotF r x (0, 1)).2 = 5) → (prodA x acc m).2 = 0 ∨ (prodA x acc m).2 = 5
  | [], acc, _ => .inl rfl
  | r :: m, acc, h => by
    simp only [prodA]
    rcases h r (by simp) with e | e
    · rw [if_pos e]
      exact prodA_err m _ fun q hq => h q (List.mem_cons_of_mem _ hq)
    · rw [if_neg (by omega)]
      exact .inr e
theorem OkS.tr_rows {s : Sy} (ok : OkS s) : ∀ r ∈ trS s, r.length = s.bs.length ∧ ∀ x ∈ r, -1000 ≤ x ∧ x ≤ 1000 := fun r hr => by
  obtain ⟨tv, tw⟩ := ok.tr_valid
  obtain ⟨_, _, h3⟩ := validP_iff.1 tv
  refine ⟨by rw [(h3 r hr).1, tw], fun x hx => ?_⟩
  have := (h3 r hr).2 x hx
  omega
section
variable {s : Sy} {h : List Int} {v : List (Int × Int)} (hg : givH s h = 0) (ha : allV v = true) (hl : v.length = s.bs.length)
include hg ha hl
theorem chkM_is : chkM s h v = if (prodA v [] (trS s)).2 = 0 then (((prodA v [] (trS s)).1.zip h).all goP, 0) else (false, (prodA v [] (trS s)).2) := by
  obtain ⟨hv, hz, hr⟩ := givH_zero hg
  have ok := validS_ok hv
  obtain ⟨tv, tw⟩ := ok.tr_valid
  have ep : prodP (trS s) v = prodA v [] (trS s) := by unfold prodP; rw [if_pos ⟨tv, ha⟩, if_pos (by rw [tw]; exact hl)]
  unfold chkM
  rw [if_pos ⟨hv, ha⟩, if_pos ⟨hz, hl⟩, if_pos hr, ep]
theorem chkM_err : (chkM s h v).2 = 0 ∨ (chkM s h v).2 = 5 := by
  obtain ⟨hv, hz, hr⟩ := givH_zero hg
  have ok := validS_ok hv
  obtain ⟨Z, D, hD, hZ⟩ := dens v ha
  have := prodA_err (x := v) (trS s) [] fun r hr => by
    have := ok.tr_rows r hr
    exact (dot_val hD (by rw [this.1, hl]) this.2 hZ).imp (fun x => x.1) id
  rw [chkM_is hg ha hl]
  rcases this with e | e
  · rw [if_pos e]; exact .inl rfl
  · rw [if_neg (by omega)]; exact .inr e
theorem chkM_iff (h0 : (chkM s h v).2 = 0) {Z : Nat → Int} {D : Int} (hD : D ≠ 0) (hZ : ∀ (k : Nat) (f : Int × Int), v[k]? = some f → Val f (Z k) D) : (chkM s h v).1 = true ↔ SolQ (trS s) h Z D := by
  obtain ⟨hv, hz, hr⟩ := givH_zero hg
  have ok := validS_ok hv
  obtain ⟨tv, tw⟩ := ok.tr_valid
  have tl := ok.tr_len
  rw [chkM_is hg ha hl] at h0 ⊢
  by_cases hp : (prodA v [] (trS s)).2 = 0
  rotate_left 1
  · rw [if_neg hp] at h0
    exact absurd h0 hp
  rw [if_pos hp]
  have hat := prodA_at (x := v) (trS s) hp
  have hln := prodA_full v (trS s) [] hp
  simp only [List.length_nil, Nat.zero_add] at hln
  generalize (prodA v [] (trS s)).1 = Y at *
  have hdv : ∀ r ∈ trS s, _ := fun r hr => dot_val (r := r) hD (by rw [(ok.tr_rows r hr).1, hl]) (ok.tr_rows r hr).2 hZ
  have hdv : ∀ (i : Nat) (r : List Int), (trS s)[i]? = some r → Val (dotF r v (0, 1)).1 (sumN (fun k => Lin.at_ r k * Z k) (wid (trS s))) D := fun i r hi => by
    have hm := List.mem_of_getElem? hi
    have := ((hdv r hm).resolve_right (by rw [(hat i r hi).1]; decide)).2
    rwa [(ok.tr_rows r hm).1, ← tw] at this
  simp only
  rw [List.all_eq_true]
  constructor
  · intro hall i r b hi hb
    have hy := (hat i r hi).2
    have := hall _ (List.mem_of_getElem? (zip_atF hy hb))
    unfold goP at this
    simp only [Bool.and_eq_true, beq_iff_eq] at this
    have hval := hdv i r hi
    have e : (dotF r v (0, 1)).1 = (b, 1) := Prod.ext this.1 this.2
    rw [e] at hval
    have hb1 : Val (b, 1) b 1 := Val.self (x := (b, 1)) hval.v
    have := hval.same hb1
    rw [Int.mul_comm D]
    omega
  · intro hs x hx
    obtain ⟨k, hk⟩ := List.mem_iff_getElem?.1 hx
    obtain ⟨f, b⟩ := x
    rw [List.getElem?_zip_eq_some] at hk
    obtain ⟨h1, h2⟩ := hk
    simp only at h1 h2
    have hkl := (List.getElem?_eq_some_iff.1 h2).1
    obtain ⟨r, hr⟩ : ∃ r, (trS s)[k]? = some r := ⟨_, List.getElem?_eq_getElem (by omega)⟩
    have hy := (hat k r hr).2
    rw [h1, Option.some.injEq] at hy
    have hval := hdv k r hr
    rw [hs k r b hr h2, ← hy] at hval
    have := hval.int (n := b) (Int.mul_comm _ _)
    rw [this]
    simp [goP]
end
end Go.Proofs.Ytjjpjgnoanfaoaa.T
end
