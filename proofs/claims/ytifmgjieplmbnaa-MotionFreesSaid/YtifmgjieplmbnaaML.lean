import Derived.Test.YtifmgjieplmbnaaMGI
set_option linter.all false
namespace Go.Proofs.Ytifmgjieplmbnaa.T
open Go Go.RowKit Lin
set_option linter.unusedSimpArgs false

/-! Chapter 12: free motions (plain). -/
theorem null_val {m : List (List Int)} (hv : validP m = true) {v : List (Int × Int)} (hmem : v ∈ (nullP m).1) : v.length = wid m ∧ ∃ Z D, D ≠ 0 ∧ Ker m Z ∧ ∀ (k : Nat) (f : Int × Int), v[k]? = some f → Val f (Z k) D := by
  unfold nullP at hmem
  rw [if_pos hv] at hmem
  simp only at hmem
  obtain ⟨h1, h2, h3⟩ := validP_iff.1 hv
  have hs := valid_small hv
  have iv := elim_inv (ups_mover m (wid m)) hs.lens (wid m) (Nat.le_refl _)
  rw [← elim_by] at iv
  have in2 := iv.small2 hs (Nat.le_refl _)
  have hd2 := iv.den_small2 hs (Nat.le_refl _)
  generalize elim m (wid m) = f at *
  obtain ⟨c, hcn, hc, rfl⟩ := nulls_mem f (wid m) (wid m) v hmem
  have ok : ∀ k c, k < f.pivots.length → c < wid m → (makeP (-(Lin.at_ (Lin.row f.rows k) c)) f.den).2 = 0 := fun k c hk hc => by
    have := in2 k c hk hc
    exact makeP_ok (by omega) hd2 iv.den0
  obtain ⟨q1', q2'⟩ := nvec_q iv ok hcn f.pivots.length (Nat.le_refl _)
  refine ⟨nvec_len f (wid m) c f.pivots.length, nX f c f.pivots.length, f.den, iv.den0, fun r hr => ?_, fun k p hp => ⟨allV_at q1' hp, iv.den0, q2' k p hp⟩⟩
  rw [nX_sum iv hcn hc (Lin.at_ r) f.pivots.length (Nat.le_refl _), van_sum iv hcn (iv.van_lt hcn) hr]
  omega
theorem null_count {m : List (List Int)} (hv : validP m = true) : (nullP m).1.length + rankP m (wid m) = wid m ∧ (nullP m).2 = 0 := by
  have hs := valid_small hv
  have iv := elim_inv (ups_mover m (wid m)) hs.lens (wid m) (Nat.le_refl _)
  rw [← elim_by] at iv
  unfold nullP
  rw [if_pos hv]
  exact ⟨nulls_rank iv, rfl⟩
theorem Ker.sol {m : List (List Int)} {Z : Nat → Int} (h : Ker m Z) (D : Int) : SolQ m (List.replicate m.length 0) Z D := fun i r b hi hb => by
  have : b = 0 := List.eq_of_mem_replicate (List.mem_of_getElem? hb)
  rw [h r (List.mem_of_getElem? hi), this, Int.mul_zero]
theorem zeros_given {s : Sy} (hv : validS s = true) : givH s (List.replicate s.rs.length 0) = 0 := by
  have hr : rangedP s.rs (List.replicate s.rs.length 0) = true := by
    unfold rangedP
    rw [List.all_eq_true]
    rintro ⟨r, n⟩ hx
    have := List.eq_of_mem_replicate (List.of_mem_zip hx).2
    subst this
    simp [ranP]
  unfold givH
  rw [if_pos hv, if_pos (by simp), if_pos hr]
section
variable {s : Sy} (hv : validS s = true)
include hv
theorem free_facts {h : List Int} (hg : givH s h = 0) : (freeP s).2 = 0 ∧ ((speedsP s h).2 = 21 → (freeP s).1.length ≠ 0) ∧ ((speedsP s h).2 = 0 → (freeP s).1.length = 0) := by
  have ok := validS_ok hv
  obtain ⟨tv, tw⟩ := ok.tr_valid
  obtain ⟨_, hz, hr⟩ := givH_zero hg
  obtain ⟨n1, n2⟩ := null_count tv
  have hl : h.length = (trS s).length := by rw [hz, ok.tr_len]
  have hw := rangedP_within hz hr
  unfold freeP speedsP
  rw [if_pos hv, if_pos hg]
  refine ⟨n2, fun e => ?_, fun e => ?_⟩
  · have := ((solve_free tv hl hw).1 e).2
    omega
  · have := ((solve_ok tv hl hw).1 e).2
    omega
theorem free_len {x : List (Int × Int)} (hx : x ∈ (freeP s).1) : x.length = s.bs.length ∧ ∃ Z D, D ≠ 0 ∧ Ker (trS s) Z ∧ ∀ (k : Nat) (f : Int × Int), x[k]? = some f → Val f (Z k) D := by
  have ok := validS_ok hv
  obtain ⟨tv, tw⟩ := ok.tr_valid
  unfold freeP at hx
  rw [if_pos hv] at hx
  have := null_val tv hx
  rwa [tw] at this
theorem free_go {x : List (Int × Int)} (hx : x ∈ (freeP s).1) : (chkM s (List.replicate s.rs.length 0) x).2 = 5 ∨ chkM s (List.replicate s.rs.length 0) x = (true, 0) := by
  have ok := validS_ok hv
  obtain ⟨hl, Z, D, hD, hZ, hX⟩ := free_len hv hx
  have hg := zeros_given hv
  have ha := allV_of hX
  rcases chkM_err hg ha hl with e | e
  · refine .inr (Prod.ext ((chkM_iff hg ha hl e hD hX).2 ?_) e)
    have := hZ.sol D
    rwa [ok.tr_len] at this
  · exact .inl e
/-- A free motion added changes nothing. -/
theorem free_add {h : List Int} (hg : givH s h = 0) {v S : List (Int × Int)} (hlv : v.length = s.bs.length) (hlS : S.length = s.bs.length) {Zv Zx : Nat → Int} {Dv Dx : Int} (hDv : Dv ≠ 0) (hDx : Dx ≠ 0) (hk : Ker (trS s) Zx)
    (h1 : ∀ (k : Nat) (f : Int × Int), v[k]? = some f → Val f (Zv k) Dv) (h2 : ∀ (k : Nat) (f : Int × Int), S[k]? = some f → Val f (Zv k * Dx + Zx k * Dv) (Dv * Dx)) (e1 : (chkM s h v).2 = 0) (e2 : (chkM s h S).2 = 0) : (chkM s h v).1 = (chkM s h S).1 := by
  rw [Bool.eq_iff_iff, chkM_iff hg (allV_of h1) hlv e1 hDv h1, chkM_iff hg (allV_of h2) hlS e2 (Int.mul_ne_zero hDv hDx) h2]
  have key : ∀ (r : List Int), r ∈ trS s → sumN (fun k => Lin.at_ r k * (Zv k * Dx + Zx k * Dv)) (wid (trS s)) = sumN (fun k => Lin.at_ r k * Zv k) (wid (trS s)) * Dx := fun r hr => by
    rw [sum_two (Lin.at_ r) Zv Zx Dx Dv, hk r hr, Int.zero_mul, Int.add_zero]
  constructor
  · intro hs i r b hi hb
    rw [key r (List.mem_of_getElem? hi), hs i r b hi hb]
    ac_rfl
  · intro hs i r b hi hb
    have := hs i r b hi hb
    rw [key r (List.mem_of_getElem? hi)] at this
    refine cancel (c := Dx) hDx ?_
    rw [this]
    ac_rfl
end
end Go.Proofs.Ytifmgjieplmbnaa.T
