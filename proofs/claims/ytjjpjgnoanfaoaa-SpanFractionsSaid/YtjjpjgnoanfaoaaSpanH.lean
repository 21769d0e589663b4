/- Package span's hull of a list of quotients over this seat's program. -/
import Derived.Test.YtjjpjgnoanfaoaaSpanC
set_option linter.all false
namespace Go.Proofs.Ytjjpjgnoanfaoaa
open Go.RowKit

def hullGo (lo hi : Int) : List (Int × Int × Int) → T3
  | [] => (lo, hi, 0)
  | x :: l => if (scaledS x.1 x.2.1 x.2.2).2.2 then hullGo (min lo (scaledS x.1 x.2.1 x.2.2).1) (max hi (scaledS x.1 x.2.1 x.2.2).2.1) l else (0, 0, 5)
def hullS (l : List (Int × Int × Int)) : T3 := hullGo 1152921504606846976 (-1152921504606846976) l

/-- The numbers of a list that hull takes. -/
def okTriple (x : Int × Int × Int) : Prop :=
  -1152921504606846976 ≤ x.1 ∧ x.1 ≤ 1152921504606846976 ∧ -1152921504606846976 ≤ x.2.1 ∧ x.2.1 ≤ 1152921504606846976 ∧ -1152921504606846976 ≤ x.2.2 ∧ x.2.2 ≤ 1152921504606846976 ∧ x.2.2 ≠ 0

/-- A block holds a list of triples. -/
def Holds3 (w : World) (b : Nat) (l : List (Int × Int × Int)) : Prop :=
  ∀ k (h : k < l.length), w.cell? ⟨b, k * 3, none⟩ = some (.int .i64 l[k].1) ∧ w.cell? ⟨b, k * 3 + 1, none⟩ = some (.int .i64 l[k].2.1) ∧ w.cell? ⟨b, k * 3 + 2, none⟩ = some (.int .i64 l[k].2.2)

set_option maxHeartbeats 400000 in
theorem span_hull (b : Nat) (l : List (Int × Int × Int)) (w : World) (hl : l.length ≤ 100) (hb : b < w.heap.size) (hx : Hid (∀ k (h : k < l.length), okTriple l[k])) (hc : Hid (Holds3 w b l)) :
    Calls Try.prog 74 #[.slice (some ⟨b, 0, none⟩) l.length l.length] w fun e w' =>
      e = .returned (.tuple #[.agg #[.int .i64 (hullS l).1, .int .i64 (hullS l).2.1], .int .i64 (hullS l).2.2]) ∧ Below w.heap.size w w' := by
  go_enter Try.func74, Try.ntmps74
  go_wp2
  go_loopw [13] (fun i wr => ∃ (k : Nat) (lo hi : Int), k ≤ l.length ∧ i = .int .i64 (k : Int) ∧ Hid (hullS l = hullGo lo hi (l.drop k)) ∧ Below w.heap.size w wr ∧ w.heap.size + 2 ≤ wr.heap.size ∧
      wr.cell? ⟨w.heap.size + 1, 0, none⟩ = some (.int .i64 lo) ∧ wr.cell? ⟨w.heap.size + 1, 1, none⟩ = some (.int .i64 hi) ∧ wr.frozen? ⟨w.heap.size + 1, 0, none⟩ = false ∧ wr.frozen? ⟨w.heap.size + 1, 1, none⟩ = false ∧
      wr.cell? ⟨w.heap.size, 0, none⟩ = some (.int .i64 0) ∧ wr.cell? ⟨w.heap.size, 1, none⟩ = some (.int .i64 0) ∧ wr.frozen? ⟨w.heap.size, 0, none⟩ = false ∧ wr.frozen? ⟨w.heap.size, 1, none⟩ = false)
    (fun i _ => l.length - (intOf i).toNat)
  case atStart =>
    refine ⟨0, _, _, Nat.zero_le _, rfl, Lib.hid rfl, by (repeat' (first | (with_reducible exact Below.refl _ _) | (with_reducible assumption) | (with_reducible refine Below.alloc ?_ ?_ _) | (with_reducible refine Below.drew ?_) | (with_reducible refine bdrewN ?_ _) | (with_reducible refine Below.setCell ?_ ?_ _) | go_size)), by go_size, ?_, ?_, ?_, ?_, ?_, ?_, ?_, ?_⟩
    all_goals go_simp
  case round =>
    obtain ⟨k, lo, hi, hk, rfl, H, hB, hz, c0, c1, f0, f1, d0, d1, g0, g1⟩ := hrel
    obtain ⟨hk1, hk2⟩ := kf2 hz
    by_cases hlt : k < l.length
    · obtain ⟨a0, a1, a2⟩ := hc.out k hlt
      have q := hx.out k hlt
      obtain ⟨x, hxe⟩ : ∃ x, l[k] = x := ⟨_, rfl⟩
      rw [hxe] at a0 a1 a2 q
      obtain ⟨q1, q2, q3, q4, q5, q6, q7⟩ := q
      rw [← hB.cell (p := ⟨b, _, none⟩) hb] at a0 a1 a2
      have HX := Lib.hid hxe
      clear hxe
      have hd : l.drop k = x :: l.drop (k + 1) := by rw [List.drop_eq_getElem_cons hlt, HX.out]
      cases hs : (scaledS x.1 x.2.1 x.2.2).2.2
      · have e : hullS l = (0, 0, 5) := by rw [H.out, hd, hullGo, hs, if_neg (by decide)]
        have HE := Lib.hid e
        clear e hd
        go_wp2_with (first | (go_at_call 138; refine (span_scaled x.1 x.2.1 x.2.2 q1 q2 q3 q4 q5 q6 q7 _).mono ?_; rintro e w' ⟨rfl, n, rfl⟩))
        refine bodyPost_ret (by simp only [results, Try.results74]; go_simp; try rfl) rfl ?_
        exact ⟨by rw [HE.out], by (repeat' (first | (with_reducible exact Below.refl _ _) | (with_reducible assumption) | (with_reducible refine Below.alloc ?_ ?_ _) | (with_reducible refine Below.drew ?_) | (with_reducible refine bdrewN ?_ _) | (with_reducible refine Below.setCell ?_ ?_ _) | go_size))⟩
      · have e : hullS l = hullGo (min lo (scaledS x.1 x.2.1 x.2.2).1) (max hi (scaledS x.1 x.2.1 x.2.2).2.1) (l.drop (k + 1)) := by rw [H.out, hd, hullGo, hs, if_pos rfl]
        have HE := Lib.hid e
        clear e hd
        go_wp2_with (first | (go_at_call 138; refine (span_scaled x.1 x.2.1 x.2.2 q1 q2 q3 q4 q5 q6 q7 _).mono ?_; rintro e w' ⟨rfl, n, rfl⟩))
        go_roundw
        case rel =>
          refine ⟨k + 1, _, _, by omega, by go_num, HE, by (repeat' (first | (with_reducible exact Below.refl _ _) | (with_reducible assumption) | (with_reducible refine Below.alloc ?_ ?_ _) | (with_reducible refine Below.drew ?_) | (with_reducible refine bdrewN ?_ _) | (with_reducible refine Below.setCell ?_ ?_ _) | go_size)), by go_size, ?_, ?_, ?_, ?_, ?_, ?_, ?_, ?_⟩
          all_goals go_simp
        case measure => simp [intOf]; omega
    · have e : hullS l = (lo, hi, 0) := by rw [H.out, List.drop_eq_nil_of_le (by omega), hullGo]
      have HE := Lib.hid e
      clear e
      go_wp2
      refine bodyPost_ret (by simp only [results, Try.results74]; go_simp; try rfl) rfl ?_
      exact ⟨by rw [HE.out], by (repeat' (first | (with_reducible exact Below.refl _ _) | (with_reducible assumption) | (with_reducible refine Below.alloc ?_ ?_ _) | (with_reducible refine Below.drew ?_) | (with_reducible refine bdrewN ?_ _) | (with_reducible refine Below.setCell ?_ ?_ _) | go_size))⟩

def cells3 (l : List (Int × Int × Int)) : List Value := l.flatMap fun x => [.int .i64 x.1, .int .i64 x.2.1, .int .i64 x.2.2]
theorem cells3_at (l : List (Int × Int × Int)) : ∀ k (h : k < l.length), (cells3 l)[k * 3]? = some (.int .i64 l[k].1) ∧ (cells3 l)[k * 3 + 1]? = some (.int .i64 l[k].2.1) ∧ (cells3 l)[k * 3 + 2]? = some (.int .i64 l[k].2.2) := by
  induction l with
  | nil => intro k h; simp at h
  | cons x l ih =>
    intro k h
    cases k with
    | zero => simp [cells3]
    | succ k =>
      obtain ⟨h0, h1, h2⟩ := ih k (by simpa using h)
      have e : cells3 (x :: l) = .int .i64 x.1 :: .int .i64 x.2.1 :: .int .i64 x.2.2 :: cells3 l := by simp [cells3]
      rw [e, show (k + 1) * 3 = k * 3 + 1 + 1 + 1 by omega, show k * 3 + 1 + 1 + 1 + 1 = (k * 3 + 1) + 1 + 1 + 1 by omega, show k * 3 + 1 + 1 + 1 + 2 = (k * 3 + 2) + 1 + 1 + 1 by omega]
      simp only [List.getElem?_cons_succ, List.getElem_cons_succ]
      exact ⟨h0, h1, h2⟩
theorem holds3_of {w : World} {b : Nat} {l : List (Int × Int × Int)} (hc : ∀ j, w.cell? ⟨b, j, none⟩ = (cells3 l)[j]?) : Holds3 w b l := by
  intro k h
  rw [hc, hc, hc]
  exact cells3_at l k h
end Go.Proofs.Ytjjpjgnoanfaoaa
