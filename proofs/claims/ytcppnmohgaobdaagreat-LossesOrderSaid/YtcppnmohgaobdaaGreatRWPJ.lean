import Derived.Test.YtcppnmohgaobdaaGreatRTB
import Derived.Test.YtcppnmohgaobdaaGreatRWRJ
import Derived.Test.YtcppnmohgaobdaaGreatRWRS
import Derived.Test.YtcppnmohgaobdaaGreatRWH
import Derived.Test.YtcppnmohgaobdaaGreatRWN
set_option linter.all false
section
namespace Go.Proofs.YtcppnmohgaobdaaGreat.T
open Go Go.RowKit Lin
theorem indexFuncFr (l : List (Int × Int)) (g : FuncId) (caps : List D) (p : Int × Int → Bool) (hl : l.length ≤ 1000000) (hp : ∀ x ∈ l, PRet Tryz.prog g ((frD x :: caps).map ufa) (bool (p x))) : PRet Tryz.prog 72 [frs l, .fn g caps] (int (idx p l 0)) := by
  refine PRet.intro 1 fun t => ACall.enter tab_ok Tryz.func72 rfl rfl Tryz.ntmps72 (by simp) ?_
  simp only [enterTM]
  have hla := frC_len l
  have ha2 : (frC l).length / 2 = l.length := by omega
  ((refine ggb0 ha2 ?_))
  ((repeat refine AW_seq ?_))
  refine AW_block ?_
  refine AW_loop_w (fun k : Nat => ⟨[(0, frs l), (1, .fn g caps), (7, int l.length), (8, int k)], [], t⟩) (fun k => l.length - k) (fun k => k ≤ l.length ∧ idx p l 0 = idx p (l.drop k) k) 0 ⟨Nat.zero_le _, rfl⟩ (by (simp (disch := omega) only [StLe, tmLe, hpLe_refl, hpLe, bl, bb, bt, zDs, zD, eqCells, simprocAttr])) fun k ⟨hk, hi⟩ => ?_
  by_cases hlt : k < l.length
  · obtain ⟨x, hx⟩ : ∃ x, l[k]? = some x := ⟨_, List.getElem?_eq_getElem hlt⟩
    have hm := List.mem_of_getElem? hx
    have hd : l.drop k = x :: l.drop (k + 1) := by
      obtain ⟨h1, h2⟩ := List.getElem?_eq_some_iff.1 hx
      rw [List.drop_eq_getElem_cons h1, h2]
    rw [hd] at hi
    have hra := frC_read l k x hx
    have hc := hp x hm
    ((refine ggb0 (F := _∧_) ⟨@Int.ofNat_lt, hlt⟩ ?_))
    ((repeat refine AW_seq ?_))
    refine AW_block ?_
    cases hpx : p x
    · rw [hpx] at hc
      ((refine ggb0 (F := _∧_∧_) ⟨ha2, hlt, hra⟩ ?_))
      ((refine wka1 hc ?_))
      ((refine gga0 ?_))
      refine ⟨k + 1, ⟨hlt, by rw [hi]; simp [idx, hpx]⟩, by omega, ?_⟩
      (simp (disch := omega) only [StLe, tmLe, hpLe_refl, hpLe, bl, bb, bt, zDs, zD, eqCells, simprocAttr])
    · rw [hpx] at hc
      ((refine ggb0 (F := _∧_∧_) ⟨ha2, hlt, hra⟩ ?_))
      ((refine wka1 hc ?_))
      ((refine gga0 ?_))
      ((repeat refine AW_seq ?_); (refine wta ?_); simp (disch := omega) only [retQ, resD, oneD, rsv, rs, rsL, rsL_eq_map, List.map_map, bb, bt, zDs, zD, eqCells, simprocAttr, Tryz.results72, hi, idx, hpx])
  · ((refine ggb0 (F := _∧_) ⟨@Int.ofNat_lt, hlt⟩ ?_))
    ((repeat refine AW_seq ?_); (refine wta ?_); simp (disch := omega) only [retQ, resD, oneD, rsv, rs, rsL, rsL_eq_map, List.map_map, bb, bt, zDs, zD, eqCells, simprocAttr, Tryz.results72, hi])
    rw [List.drop_eq_nil_of_le (by omega)]; rfl
def allV (l : List (Int × Int)) : Bool := l.all fun x => vfrac x.1 x.2
def dotF : List Int → List (Int × Int) → Int × Int → (Int × Int) × Int
  | n :: r, f :: x, s => if (mulP (n, 1) f).2 = 0 then (if (addP s (mulP (n, 1) f).1).2 = 0 then dotF r x (addP s (mulP (n, 1) f).1).1 else ((0, 0), (addP s (mulP (n, 1) f).1).2)) else ((0, 0), (mulP (n, 1) f).2)
  | _, _, s => (s, 0)
def prodA (x : List (Int × Int)) (acc : List (Int × Int)) : List (List Int) → List (Int × Int) × Int
  | [] => (acc, 0)
  | r :: m => if (dotF r x (0, 1)).2 = 0 then prodA x (acc ++ [(dotF r x (0, 1)).1]) m else ([], (dotF r x (0, 1)).2)
def prodP (m : List (List Int)) (x : List (Int × Int)) : List (Int × Int) × Int := if validP m = true ∧ allV x = true then (if x.length = wid m then prodA x [] m else ([], 3)) else ([], 1)
theorem madeP_valid {a d : Nat} {s : Bool} (hd : 0 < d) (h : (madeP a s d).2 = 0) : vfrac (madeP a s d).1.1 (madeP a s d).1.2 = true := by
  have hg : 0 < Nat.gcd a d := Nat.gcd_pos_of_pos_right _ hd
  have hc := Nat.coprime_div_gcd_div_gcd hg
  have hp : 0 < d / Nat.gcd a d := Nat.div_pos (Nat.le_of_dvd hd (Nat.gcd_dvd_right _ _)) hg
  have e : madeP a s d = signP s (a / Nat.gcd a d) (d / Nat.gcd a d) := by unfold madeP; rw [if_neg (by omega)]
  rw [e] at h ⊢
  generalize a / Nat.gcd a d = n at *
  generalize d / Nat.gcd a d = k at *
  unfold signP at h ⊢
  split at h
  · simp at h
  · rename_i hs
    rw [if_neg hs]
    have hc' : Nat.gcd n k = 1 := hc
    unfold vfrac
    cases s
    · simp [hc']; omega
    · simp [hc']; omega
theorem mulR_valid {a b : Int × Int} (ha : vfrac a.1 a.2 = true) (hb : vfrac b.1 b.2 = true) (h : (mulR a b).2 = 0) : vfrac (mulR a b).1.1 (mulR a b).1.2 = true := by
  obtain ⟨a1, _⟩ := fr_bounds ha
  obtain ⟨b1, _⟩ := fr_bounds hb
  exact madeP_valid (Nat.mul_pos (by omega) (by omega)) h
theorem addR_valid {a b : Int × Int} (ha : vfrac a.1 a.2 = true) (hb : vfrac b.1 b.2 = true) (h : (addR a b).2 = 0) : vfrac (addR a b).1.1 (addR a b).1.2 = true := by
  obtain ⟨a1, _⟩ := fr_bounds ha
  obtain ⟨b1, _⟩ := fr_bounds hb
  have hp : 0 < a.2.natAbs * b.2.natAbs := Nat.mul_pos (by omega) (by omega)
  unfold addR at h ⊢
  split at h
  · rename_i h1; rw [if_pos h1]; exact madeP_valid hp h
  · rename_i h1
    rw [if_neg h1]
    split at h
    · rename_i h2; rw [if_pos h2]; exact madeP_valid hp h
    · rename_i h2; rw [if_neg h2]; exact madeP_valid hp h
theorem mulP_ok {a b : Int × Int} (ha : vfrac a.1 a.2 = true) (hb : vfrac b.1 b.2 = true) : mulP a b = mulR a b := by unfold mulP; rw [if_pos ⟨ha, hb⟩]
theorem addP_ok {a b : Int × Int} (ha : vfrac a.1 a.2 = true) (hb : vfrac b.1 b.2 = true) : addP a b = addR a b := by unfold addP; rw [if_pos ⟨ha, hb⟩]
theorem vfrac_one {n : Int} (h : -1152921504606846976 ≤ n ∧ n ≤ 1152921504606846976) : vfrac n 1 = true := by
  unfold vfrac; simp; omega
end Go.Proofs.YtcppnmohgaobdaaGreat.T
end
section
namespace Go.Proofs.YtcppnmohgaobdaaGreat.T
open Go Go.RowKit Lin
end Go.Proofs.YtcppnmohgaobdaaGreat.T
end

