import Derived.Test.YtpcakodemleoiaaGreatHTB
import Derived.Test.YtpcakodemleoiaaGreatHWE
import Derived.Test.YtpcakodemleoiaaGreatHRefJ
set_option linter.all false
namespace Go.Proofs.YtpcakodemleoiaaGreat.T
open Go Go.RowKit Lin
mutual
def vOf : D → Value
  | .v x => x
  | .agg cs => .agg (vsOf cs).toArray
  | .tup cs => .tuple (vsOf cs).toArray
  | .fn f cs => .func (.func f) #[] (vsOf cs).toArray
  | _ => undef
def vsOf : List D → List Value
  | [] => []
  | d :: ds => vOf d :: vsOf ds
end
mutual
def noMem : D → Bool
  | .v _ => true
  | .agg cs => Y5m cs
  | .tup cs => Y5m cs
  | .fn _ cs => Y5m cs
  | _ => false
def Y5m : List D → Bool
  | [] => true
  | d :: ds => noMem d && Y5m ds
end
mutual
theorem vOf_eq {F : Mem} {G : Ghost} : ∀ (d : D) (u : Value), noMem d = true → Rep F G d u → u = vOf d
  | .v x, u, _, h => by simp only [Rep] at h; simp only [vOf]; exact h
  | .agg cs, u, hn, h => by simp only [Rep, noMem] at h hn; obtain ⟨vs, rfl, hL⟩ := h; simp only [vOf]; rw [Y7d cs vs hn hL]
  | .tup cs, u, hn, h => by simp only [Rep, noMem] at h hn; obtain ⟨vs, rfl, hL⟩ := h; simp only [vOf]; rw [Y7d cs vs hn hL]
  | .fn f cs, u, hn, h => by simp only [Rep, noMem] at h hn; obtain ⟨vs, rfl, hL⟩ := h; simp only [vOf]; rw [Y7d cs vs hn hL]
  | .sl .., u, hn, _ => by simp [noMem] at hn
  | .rp .., u, hn, _ => by simp [noMem] at hn
  | .own .., u, hn, _ => by simp [noMem] at hn
  | .ptr .., u, hn, _ => by simp [noMem] at hn
  | .any, u, hn, _ => by simp [noMem] at hn
theorem Y7d {F : Mem} {G : Ghost} : ∀ (ds : List D) (us : List Value), Y5m ds = true → RepL F G ds us → us = vsOf ds
  | [], us, _, h => by simpa only [RepL, vsOf] using h
  | d :: ds, us, hn, h => by
    simp only [RepL, Y5m, Bool.and_eq_true] at h hn
    obtain ⟨u, us', rfl, h1, h2⟩ := h
    simp only [vsOf]
    rw [vOf_eq d u hn.1 h1, Y7d ds us' hn.2 h2]
end
mutual
theorem Yew {F : Mem} {G : Ghost} : ∀ (d : D), noMem d = true → Rep F G d (vOf d)
  | .v x, _ => by simp only [Rep, vOf]
  | .agg cs, hn => by simp only [Rep, noMem, vOf] at hn ⊢; exact ⟨_, rfl, Y6r cs hn⟩
  | .tup cs, hn => by simp only [Rep, noMem, vOf] at hn ⊢; exact ⟨_, rfl, Y6r cs hn⟩
  | .fn f cs, hn => by simp only [Rep, noMem, vOf] at hn ⊢; exact ⟨_, rfl, Y6r cs hn⟩
  | .sl .., hn => by simp [noMem] at hn
  | .rp .., hn => by simp [noMem] at hn
  | .own .., hn => by simp [noMem] at hn
  | .ptr .., hn => by simp [noMem] at hn
  | .any, hn => by simp [noMem] at hn
theorem Y6r {F : Mem} {G : Ghost} : ∀ (ds : List D), Y5m ds = true → RepL F G ds (vsOf ds)
  | [], _ => by simp only [RepL, vsOf]
  | d :: ds, hn => by
    simp only [RepL, Y5m, vsOf, Bool.and_eq_true] at hn ⊢
    exact ⟨_, _, rfl, Yew d hn.1, Y6r ds hn.2⟩
end
theorem PRet.of_plain {P : Program} {f : FuncId} (ds : List D) (d : D) {us : Array Value} {u : Value} (hc : Y4p P f) (h1 : Y5m ds = true) (h2 : noMem d = true) (hus : (vsOf ds).toArray = us) (hu : vOf d = u)
    (h : ∀ w, Calls P f us w fun e w' => e = .returned u ∧ Below w.heap.size w w') : PRet P f ds d := by
  subst hus; subst hu
  exact PRet.of_calls (us := vsOf ds) hc (fun F G vs hL => Y7d ds vs h1 hL) (fun F => Yew d h2) h
abbrev uD (n : Nat) : D := .agg [word (uh n), word (ul n)]
theorem Y17 (n : Int) (h : -9223372036854775808 ≤ n ∧ n ≤ 9223372036854775807) : PRet Tryz.prog 70 [int n] (word n.natAbs) :=
  PRet.of_plain _ _ ⟨_, Tryz.func70, rfl, rfl⟩ rfl rfl rfl rfl fun w => (Yae n h.1 h.2 w).mono fun _ _ => Y6c
theorem Y3w (x y : Nat) (h : x < 18446744073709551616 ∧ y < 18446744073709551616) : PRet Tryz.prog 71 [word x, word y] (uD (x * y)) :=
  PRet.of_plain _ _ ⟨_, Tryz.func71, rfl, rfl⟩ rfl rfl rfl rfl fun w => ref_Mul x y h.1 h.2 w
theorem Yf7 (a b : Nat) (h : a + b < 340282366920938463463374607431768211456) : PRet Tryz.prog 98 [uD a, uD b] (uD (a + b)) :=
  PRet.of_plain _ _ ⟨_, Tryz.func98, rfl, rfl⟩ rfl rfl rfl rfl fun w => Ydk (IsU.split (by omega)) (IsU.split (by omega)) h w
theorem Y6v (a b : Nat) (h : b ≤ a ∧ a < 340282366920938463463374607431768211456) : PRet Tryz.prog 97 [uD a, uD b] (uD (a - b)) :=
  PRet.of_plain _ _ ⟨_, Tryz.func97, rfl, rfl⟩ rfl rfl rfl rfl fun w => Y3v (IsU.split (by omega)) (IsU.split (by omega)) (by omega) w
theorem Yaf (a b : Nat) (h : a < 340282366920938463463374607431768211456 ∧ b < 340282366920938463463374607431768211456) : PRet Tryz.prog 72 [uD a, uD b] (bool (decide (a < b))) :=
  PRet.of_plain _ _ ⟨_, Tryz.func72, rfl, rfl⟩ rfl rfl rfl rfl fun w => Y5g (IsU.split h.1) (IsU.split h.2) w
theorem refDiv0 (a b : Nat) (h : a < 340282366920938463463374607431768211456 ∧ b < 340282366920938463463374607431768211456 ∧ 0 < b) (w : World) : Calls Tryz.prog 118 #[.agg #[.int .u64 (uh a), .int .u64 (ul a)], .agg #[.int .u64 (uh b), .int .u64 (ul b)]] w fun e w' =>
      e = .returned (.tuple #[.agg #[.int .u64 (uh (a / b)), .int .u64 (ul (a / b))], .agg #[.int .u64 (uh (a % b)), .int .u64 (ul (a % b))]]) ∧ Below w.heap.size w w' := by
  have ha := IsU.split h.1
  have hb := IsU.split h.2.1
  by_cases h1 : uh a = 0
  · by_cases h2 : uh b = 0
    · obtain ⟨a1, a2, a3, a4, a5⟩ := ha
      obtain ⟨b1, b2, b3, b4, b5⟩ := hb
      have := ref_Div_small (al := ul a) (bl := ul b) a3 a4 (by omega) b4 w
      have k1 : ul a = (a : Int) ∧ ul b = (b : Int) := by omega
      have q1 := Nat.div_le_self a b
      have q2 := Nat.mod_le a b
      have e1 : ul a / ul b = ul (a / b) ∧ uh (a / b) = 0 := by
        rw [k1.1, k1.2, ← Int.natCast_ediv]
        generalize a / b = x at *
        unfold ul uh
        omega
      have e2 : ul a % ul b = ul (a % b) ∧ uh (a % b) = 0 := by
        rw [k1.1, k1.2, ← Int.natCast_emod]
        generalize a % b = x at *
        unfold ul uh
        omega
      rw [e1.1, e2.1] at this
      rw [h1, h2, e1.2, e2.2]
      exact this
    · exact Y7k ha hb h.2.2 (.inr ⟨by simpa using h1, by simpa using h2⟩) w
  · exact Y7k ha hb h.2.2 (.inl (by simpa using h1)) w
theorem Yf9 (a b : Nat) (h : a < 340282366920938463463374607431768211456 ∧ b < 340282366920938463463374607431768211456 ∧ 0 < b) : PRet Tryz.prog 118 [uD a, uD b] (.tup [uD (a / b), uD (a % b)]) :=
  PRet.of_plain _ _ ⟨_, Tryz.func118, rfl, rfl⟩ rfl rfl rfl rfl fun w => refDiv0 a b h w
theorem neg_mul_sg (a b : Int) : -(a * b) = sg (decide (a < 0) == decide (b < 0)) ((a.natAbs : Int) * b.natAbs) := by
  rw [Ybh a b]
  unfold sg
  cases decide (a < 0) <;> cases decide (b < 0) <;> simp
set_option maxHeartbeats 1000000 in
theorem cross (a b c d e : Int) (ha : -9223372036854775807 ≤ a ∧ a ≤ 9223372036854775807) (hb : -9223372036854775807 ≤ b ∧ b ≤ 9223372036854775807) (hc : -9223372036854775807 ≤ c ∧ c ≤ 9223372036854775807) (hd : -9223372036854775807 ≤ d ∧ d ≤ 9223372036854775807) (he : -9223372036854775807 ≤ e ∧ e ≤ 9223372036854775807) (he0 : e ≠ 0)
    (q : Int) (hq : a * d - b * c = q * e) (hq' : -9223372036854775807 ≤ q ∧ q ≤ 9223372036854775807) : PRet Tryz.prog 147 [int a, int b, int c, int d, int e] (int q) := by
  refine PRet.intro 1 fun t => ACall.enter tab_ok Tryz.func147 rfl rfl Tryz.ntmps147 (by simp) ?_
  simp only [Y06]
  ((refine wqa ?_))
  ((repeat refine Y01 ?_); (refine Y05 tab_ok fun KR hKR => ?_)); ((refine wra ?_))
  ((refine wka1 (Y17 a (by omega)) ?_))
  ((refine wra ?_))
  ((refine wka1 (Y17 d (by omega)) ?_))
  ((refine wka1 (Y3w a.natAbs d.natAbs (by omega)) ?_))
  ((refine wra ?_)); ((refine wea ?_); (try clear hKR KR))
  ((repeat refine Y01 ?_); (refine Y05 tab_ok fun KR hKR => ?_)); ((refine wra ?_))
  ((refine wka1 (Y17 b (by omega)) ?_))
  ((refine wra ?_))
  ((refine wka1 (Y17 c (by omega)) ?_))
  ((refine wka1 (Y3w b.natAbs c.natAbs (by omega)) ?_))
  ((refine wra ?_)); ((refine wea ?_); (try clear hKR KR))
  ((refine wqa ?_))
  have hs1 := Ybh a d
  have hs2 := neg_mul_sg b c
  have hA1 : a.natAbs * d.natAbs ≤ 9223372036854775807 * 9223372036854775807 := Nat.mul_le_mul (by omega) (by omega)
  have hC1 : b.natAbs * c.natAbs ≤ 9223372036854775807 * 9223372036854775807 := Nat.mul_le_mul (by omega) (by omega)
  rw [← Int.natCast_mul] at hs1 hs2
  have hsum : sg (decide (a < 0) != decide (d < 0)) ((a.natAbs * d.natAbs : Nat) : Int) + sg (decide (b < 0) == decide (c < 0)) ((b.natAbs * c.natAbs : Nat) : Int) = q * e := by rw [← hs1, ← hs2]; omega
  clear hs1 hs2 hq
  generalize a.natAbs * d.natAbs = A at *
  generalize b.natAbs * c.natAbs = C at *
  generalize (decide (a < 0) != decide (d < 0)) = first at *
  generalize (decide (b < 0) == decide (c < 0)) = second at *
  ((refine wqa ?_))
  ((refine wqa ?_))
  refine Yer (α := Nat × Bool) (fun p => ⟨[(4, int e), (15, .ptr 2 (t + 1 + 1 + 1) 0), (16, bool p.2)], [none, none, some ⟨97, t + 1 + 1 + 1, [word (uh p.1), word (ul p.1)]⟩], t + 1 + 1 + 1⟩) (fun p => sg p.2 (p.1 : Int) = q * e ∧ p.1 ≤ 2 * (9223372036854775807 * 9223372036854775807)) ?_ ?_
  · cases hfs : (first == second)
    · ((refine wqb hfs ?_))
      ((refine wia ?_))
      by_cases hlt : A < C
      · ((repeat refine Y01 ?_); (refine Y05 tab_ok fun KR hKR => ?_)); ((refine wra ?_))
        ((refine wka1 (Yaf A C (by omega)) ?_))
        ((refine wra ?_)); ((refine wea ?_); (try clear hKR KR))
        have hd1 : decide (A < C) = true := by simpa using hlt
        ((refine wib hd1 ?_))
        ((repeat refine Y01 ?_); (refine Y05 tab_ok fun KR hKR => ?_)); ((refine wra ?_))
        ((refine wka1 (Y6v C A (by omega)) ?_))
        ((refine wra ?_)); ((refine wea ?_); (try clear hKR KR))
        refine ⟨(C - A, second), ⟨?_, by show C - A ≤ _; omega⟩, ?_⟩
        · rw [← hsum]; revert hfs; unfold sg; simp only; cases first <;> cases second <;> simp <;> omega
        · (simp (disch := omega) only [StLe, tmLe, Y03, hpLe, bl, bb, bt, zDs, zD, Y00, simprocAttr])
      · ((repeat refine Y01 ?_); (refine Y05 tab_ok fun KR hKR => ?_)); ((refine wra ?_))
        ((refine wka1 (Yaf A C (by omega)) ?_))
        ((refine wra ?_)); ((refine wea ?_); (try clear hKR KR))
        have hd1 : decide (A < C) = false := by simpa using hlt
        ((refine wib hd1 ?_))
        ((repeat refine Y01 ?_); (refine Y05 tab_ok fun KR hKR => ?_)); ((refine wra ?_))
        ((refine wka1 (Y6v A C (by omega)) ?_))
        ((refine wra ?_)); ((refine wea ?_); (try clear hKR KR))
        refine ⟨(A - C, first), ⟨?_, by show A - C ≤ _; omega⟩, ?_⟩
        · rw [← hsum]; revert hfs; unfold sg; simp only; cases first <;> cases second <;> simp <;> omega
        · (simp (disch := omega) only [StLe, tmLe, Y03, hpLe, bl, bb, bt, zDs, zD, Y00, simprocAttr])
    · ((refine wqb hfs ?_))
      ((refine wia ?_))
      ((repeat refine Y01 ?_); (refine Y05 tab_ok fun KR hKR => ?_)); ((refine wra ?_))
      ((refine wka1 (Yf7 A C (by omega)) ?_))
      ((refine wra ?_)); ((refine wea ?_); (try clear hKR KR))
      refine ⟨(A + C, first), ⟨?_, by show A + C ≤ _; omega⟩, ?_⟩
      · rw [← hsum]; revert hfs; unfold sg; simp only; cases first <;> cases second <;> simp <;> omega
      · (simp (disch := omega) only [StLe, tmLe, Y03, hpLe, bl, bb, bt, zDs, zD, Y00, simprocAttr])
  · rintro ⟨z, neg⟩ ⟨hz, hzl⟩
    simp only at hz hzl ⊢
    obtain ⟨h1, h2⟩ := Yf1 hz (by omega) he0
    have h3 : z = q.natAbs * e.natAbs := by rw [← Int.natCast_mul] at h1; omega
    have h4 : z / e.natAbs = q.natAbs := by rw [h3]; exact Nat.mul_div_cancel _ (by omega)
    have huh : uh e.natAbs = 0 := by unfold uh; omega
    have hul : ul e.natAbs = e.natAbs := by unfold ul; omega
    have hulq : ul q.natAbs = q.natAbs := by unfold ul; omega
    have hdv := Yf9 z e.natAbs (by omega)
    simp only [uD, huh, hul, h4] at hdv
    ((repeat refine Y01 ?_); (refine Y0a tab_ok Y08 2 fun KR hKR => ?_); simp only [List.replicate_succ, List.replicate_zero, List.append_nil, List.nil_append, List.cons_append, List.length_cons, List.length_nil, Nat.reduceAdd])
    ((refine wda ?_))
    ((first | refine Y19 fun KK hKK => ?_ | refine Y1a rfl fun KK hKK => ?_); simp (disch := omega) only [bb, bt, zDs, zD, Y00, simprocAttr, goCDS, Y0e, argsZ, argsD, ufa, uf]; refine PGive.ret (Y17 e (by omega)) ?_; simp (disch := omega) only [bb, bt, zDs, zD, Y00, simprocAttr, Y0x]; refine hKK _ _ _ ?_; clear hKK KK)
    ((refine wda ?_))
    ((first | refine Y19 fun KK hKK => ?_ | refine Y1a rfl fun KK hKK => ?_); simp (disch := omega) only [bb, bt, zDs, zD, Y00, simprocAttr, goCDS, Y0e, argsZ, argsD, ufa, uf]; refine PGive.ret (hdv) ?_; simp (disch := omega) only [bb, bt, zDs, zD, Y00, simprocAttr, Y0x]; refine hKK _ _ _ ?_; clear hKK KK)
    ((refine wda ?_))
    ((refine Y0n ?_); simp only [List.reverse_cons, List.reverse_nil, List.nil_append, List.cons_append]; (refine hKR _ _ (by first | rfl | kernel_rfl) ?_); (try clear hKR KR); (repeat (with_reducible first | refine q1 ?_ | refine q2 ?_ | refine q3 ?_ | refine q4 ?_ | refine q5 ?_ | refine q6 ?_ | (refine q7 ?_ ?_; (focus (with_unfolding_all rfl))))))
    ((refine wqa ?_))
    unfold sg at h2
    cases hx : (neg != decide (e < 0))
    · rw [hx] at h2
      simp only [Bool.false_eq_true, ↓reduceIte] at h2
      ((refine wib hx ?_))
      ((refine wsa ?_))
      ((refine wqb hulq ?_))
      ((repeat refine Y01 ?_); (refine wta ?_); simp (disch := omega) only [retQ, resD, oneD, rsv, rs, rsL, Y02, List.map_map, bb, bt, zDs, zD, Y00, simprocAttr, Tryz.results147])
      exact congrArg int h2.symm
    · rw [hx] at h2
      simp only [↓reduceIte] at h2
      ((refine wib hx ?_))
      ((refine wqb hulq ?_))
      ((repeat refine Y01 ?_); (refine wta ?_); simp (disch := omega) only [retQ, resD, oneD, rsv, rs, rsL, Y02, List.map_map, bb, bt, zDs, zD, Y00, simprocAttr, Tryz.results147])
      exact congrArg int h2.symm
end Go.Proofs.YtpcakodemleoiaaGreat.T

