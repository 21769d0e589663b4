import Derived.Test.YtpbpafmgkdihlaaGreatDoorQTO
import Derived.Laws.OwnMore
import Derived.Laws.Strings
set_option linter.all false
namespace Go.Proofs.YtpbpafmgkdihlaaGreatDoor.T
open Go Go.RowKit
def Y4h (ps : Nat → Option (Nat × Nat)) (cells : List D) : List (Nat × D) → Option (List D)
 | [] => some cells
 | (k, d) :: rest => match ps k, Y6l d with
  | some (off, sz), some cs => if cs.length = sz then match Y9t cells off cs with
   | some cells' => Y4h ps cells' rest
   | none => none
   else none
  | _, _ => none
def binI (op : BinOp) (k : IntKind) (a b : Int) : Option D :=
 match op with
 | .add => some (.v (.int k (k.wrap (a + b))))
 | .sub => some (.v (.int k (k.wrap (a - b))))
 | .mul => some (.v (.int k (k.wrap (a * b))))
 | .quo => if b = 0 then none else some (.v (.int k (k.wrap (a.tdiv b))))
 | .rem => if b = 0 then none else some (.v (.int k (a.tmod b)))
 | .eql => some (.v (.bool (a == b)))
 | .neq => some (.v (.bool (a != b)))
 | .lss => some (.v (.bool (a < b)))
 | .leq => some (.v (.bool (a ≤ b)))
 | .gtr => some (.v (.bool (a > b)))
 | .geq => some (.v (.bool (a ≥ b)))
 | .and => some (.v (.int k (k.wrap (BitVec.ofInt k.bits a &&& BitVec.ofInt k.bits b).toNat)))
 | .or => some (.v (.int k (k.wrap (BitVec.ofInt k.bits a ||| BitVec.ofInt k.bits b).toNat)))
 | .xor => some (.v (.int k (k.wrap (BitVec.ofInt k.bits a ^^^ BitVec.ofInt k.bits b).toNat)))
 | .shl => if b < 0 then none else some (.v (.int k (k.wrap (a * 2 ^ min b.toNat k.bits))))
 | .shr => if b < 0 then none else some (.v (.int k (a.fdiv (2 ^ min b.toNat k.bits))))
 | _ => none
theorem Y8b (a b : ByteArray) : (a.toList == b.toList) = decide (a = b) := by
 rw [ByteArray.toList_eq, ByteArray.toList_eq, Bool.eq_iff_iff]
 simp only [beq_iff_eq, decide_eq_true_eq]
 constructor
 ·intro h; cases a; cases b; simp only [ByteArray.mk.injEq]; exact Array.toList_inj.1 h
 ·intro h; rw [h]
theorem Yd6 (a b : ByteArray) : (a == b) = decide (a = b) := by
 cases a with
 | mk a => cases b with
  | mk b =>
   show (a == b) = _
   rw [Bool.eq_iff_iff]
   simp
def Y93 : Value → Value → Option Bool
 | .string a, .string b => some (decide (a = b))
 | .int k a, .int k' b => if k = k' then some (a == b) else none
 | _, _ => none
def Yah (k : Value) : List D → Option (Option Value)
 | [] => some none
 | .v k' :: .v x :: ds => match Y93 k k' with
  | some true => some (some x)
  | some false => Yah k ds
  | none => none
 | _ => none
def mput (k x : Value) : List D → List D
 | .v k' :: .v y :: ds => if Y93 k k' = some true then .v k :: .v x :: ds else .v k' :: .v y :: mput k x ds
 | _ => [.v k, .v x]
def Ydr : TK → Value → Bool
 | .str, .string _ => true
 | .int k, .int k' _ => decide (k' = k)
 | _, _ => false
def Yaj (kt : TK) (z : List Value) (H : Hp) (m k : D) (co : Bool) : Option D :=
 match m, k, z with
 | .mp b g, .v kv, [z] => match H[b]? with
  | some (some bl) => if bl.g = g ∧ Ydr kt kv = true then (Yah kv bl.cells).map fun r => if co = true then .tup [.v (r.getD z), .v (.bool r.isSome)] else .v (r.getD z) else none
  | _ => none
 | _, _, _ => none
def Yag (kt : TK) (H : Hp) (m k x : D) : Option Wr :=
 match m, k, x with
 | .mp b g, .v kv, .v xv => match H[b]? with
  | some (some bl) => if bl.g = g ∧ Ydr kt kv = true then (Yah kv bl.cells).map fun _ => .upd b ⟨bl.ty, bl.g, mput kv xv bl.cells⟩ else none
  | _ => none
 | _, _, _ => none
def Yl4 (x ix : D) : Option D :=
 match x, ix with
 | .v (.string s), .v (.int _ n) => if 0 ≤ n then (s[n.toNat]?).map fun b => .v (.int .u8 b.toNat) else none
 | _, _ => none
def Y7n (i : TI) : Nat × Nat := match i.kind with | .map k e => (k, e) | _ => (0, 0)
def Y01 : List Bool → List D → List D → Option Bool
 | [], [], [] => some true
 | true :: ks, .v (.int k a) :: xs, .v (.int k' b) :: ys => if k = k' then (Y01 ks xs ys).map fun r => (a == b) && r else none
 | false :: ks, .v (.string a) :: xs, .v (.string b) :: ys => (Y01 ks xs ys).map fun r => decide (a = b) && r
 | _, _, _ => none
def binD (i : TI) (op : BinOp) (x y : D) : Option D :=
 match x, y with
 | .agg xs, .agg ys => if i.eqs ≠ [] then match op with
  | .eql => (Y01 i.eqs xs ys).map fun r => .v (.bool r)
  | .neq => (Y01 i.eqs xs ys).map fun r => .v (.bool (!r))
  | _ => none
  else none
 | .v (.int k a), .v (.int k' b) => if k = k' then binI op k a b else match op with
  | .shl | .shr => binI op k a b
  | _ => none
 | .v (.bool a), .v (.bool b) => match op, i.kind with
  | .eql, .bool => some (.v (.bool (a == b)))
  | .neq, .bool => some (.v (.bool (a != b)))
  | _, _ => none
 | .v (.string a), .v (.string b) => match op with
  | .eql => some (.v (.bool (decide (a = b))))
  | .neq => some (.v (.bool (!decide (a = b))))
  | _ => none
 | _, _ => none
def unD (op : UnOp) (x : D) : Option D :=
 match op, x with
 | .neg, .v (.int k n) => some (.v (.int k (k.wrap (0 - n))))
 | .not, .v (.bool b) => some (.v (.bool !b))
 | _, _ => none
def Yma (s d : TI) (x : D) : Option D :=
 match d.kind, x with
 | .int k, .v (.int _ n) => some (.v (.int k (k.wrap n)))
 | .str, .v (.string _b) => match s.kind with
  | .str => some x
  | _ => none
 | _, _ => none
def lenD (i : TI) (H : Hp) (x : D) : Option D :=
 match i.kind, x with
 | .str, .v (.string s) => some (.v (.int .i64 s.size))
 | .slice _, .sl sz cs _ => if 0 < sz then some (.v (.int .i64 (cs.length / sz : Nat))) else none
 | .slice _, .own _ b g _ n => match H[b]? with
  | some (some bl) => if bl.g = g then some (.v (.int .i64 n)) else none
  | _ => none
 | _, _ => none
def Yci (i : TI) (f : Nat) (x : D) : Option D :=
 match i.parts[f]?, x with
 | some (off, sz, ag), .agg cs => match Yfe cs off sz with
  | some ds => if ag then some (.agg ds) else match ds with
   | [d] => some d
   | _ => none
  | none => none
 | _, _ => none
def Y7t (i : TI) (H : Hp) (f : Nat) (x : D) : Option D :=
 match i.parts[f]?, x with
 | some (off, _, _), .rp cs o => some (.rp cs (o + off))
 | some (off, _, _), .ptr b g o => match H[b]? with
  | some (some bl) => if bl.g = g then some (.ptr b g (o + off)) else none
  | _ => none
 | _, _ => none
def Yaf (H : Hp) (x : D) : Option D :=
 match x with
 | .rp cs o => some (.rp cs o)
 | .ptr b g o => match H[b]? with
  | some (some bl) => if bl.g = g then some (.ptr b g o) else none
  | _ => none
 | _ => none
def Y7o (i : TI) (H : Hp) (x ix : D) : Option D :=
 match x, ix with
 | .sl sz cs _, .v (.int _ n) => if sz = i.esz ∧ 0 ≤ n ∧ n.toNat * sz < cs.length then some (.rp cs (n.toNat * sz)) else none
 | .own sz b g lo m, .v (.int _ n) => match H[b]? with
  | some (some bl) => if bl.g = g ∧ sz = i.esz ∧ 0 ≤ n ∧ n.toNat < m then some (.ptr b g (lo + n.toNat * sz)) else none
  | _ => none
 | _, _ => none
def Y84 (i : TI) (len : Nat) (H : Hp) (x ix : D) : Option D :=
 match x, ix with
 | .rp cs o, .v (.int _ n) => if 0 ≤ n ∧ n.toNat < len then some (.rp cs (o + n.toNat * i.esz)) else none
 | .ptr b g o, .v (.int _ n) => match H[b]? with
  | some (some bl) => if bl.g = g ∧ 0 ≤ n ∧ n.toNat < len then some (.ptr b g (o + n.toNat * i.esz)) else none
  | _ => none
 | _, _ => none
def Yak (i : TI) (H : Hp) (x : D) : Option D :=
 match rdP H i.sz x with
 | some ds => if i.agg then some (.agg ds) else match ds with
  | [d] => some d
  | _ => none
 | none => none
def Y79 (i : TI) (H : Hp) (p x : D) : Option Wr :=
 match p, Y6l x with
 | .ptr b g off, some cs => match H[b]? with
  | some (some bl) => if bl.g = g ∧ cs.length = i.sz then (Y9t bl.cells off cs).map fun es => .upd b ⟨bl.ty, bl.g, es⟩ else none
  | _ => none
 | _, _ => none
def Y2y (H : Hp) : D → Option (Nat × List D)
 | .sl sz cs _ => some (sz, cs)
 | .own sz b g lo n => match H[b]? with
  | some (some bl) => if bl.g = g ∧ lo + n * sz ≤ bl.cells.length then some (sz, (bl.cells.drop lo).take (n * sz)) else none
  | _ => none
 | _ => none
def Y1y (H : Hp) : D → Bool
 | .sl _ _ _ => true
 | .own _ b g _ _ => match H[b]? with
  | some (some bl) => bl.g == g
  | _ => false
 | _ => false
def appD (_i e : TI) (et nid sp : Nat) (H : Hp) (s x : D) : Option (D × Wr) :=
  match Y2y H x with
  | some (sz', xs) => if xs = [] then (if 0 < sz' ∧ Y1y H s = true then some (s, .no) else none) else if sz' = e.sz ∧ 0 < e.sz ∧ xs.all Y26 = true then match s with
    | .sl sz cs true => if 0 < sz ∧ (cs.length + xs.length) * e.bytes ≤ 140737488355328 ∧ cs.length + xs.length ≤ 4611686018427387903 then
        if cs = [] then some (.own e.sz nid (sp) 0 (xs.length / e.sz), .put nid ⟨et, sp, xs⟩)
        else if sz = e.sz then some (.own e.sz nid (sp) 0 ((cs.length + xs.length) / e.sz), .put nid ⟨et, sp, cs ++ xs⟩) else none
      else none
    | .own sz b g lo n => match H[b]? with
      | some (some bl) => if bl.g = g ∧ lo = 0 ∧ n * sz = bl.cells.length ∧ sz = e.sz ∧ bl.ty = et ∧ (bl.cells.length + xs.length) * e.bytes ≤ 140737488355328 ∧ bl.cells.length + xs.length ≤ 4611686018427387903 then
          some (.own sz b (sp) 0 (n + xs.length / e.sz), .put b ⟨et, sp, bl.cells ++ xs⟩)
        else if bl.g = g ∧ lo = 0 ∧ sz = 1 ∧ e.sz = 1 ∧ bl.ty = et ∧ n + xs.length ≤ bl.cells.length then
          some (.own 1 b g 0 (n + xs.length), .upd b ⟨bl.ty, bl.g, bl.cells.take n ++ xs ++ bl.cells.drop (n + xs.length)⟩)
        else none
      | _ => none
    | _ => none
    else none
  | none => none
def Ybh (e : TI) (H : Hp) (d s : D) : Option (D × Wr) :=
  match d, Y2y H s with
  | .own sz b g lo n, some (sz', xs) => match H[b]? with
    | some (some bl) => if bl.g = g ∧ sz = e.sz ∧ sz' = e.sz ∧ 0 < e.sz ∧ 0 < n ∧ xs ≠ [] ∧ xs.all Y26 = true ∧ lo + n * sz ≤ bl.cells.length then
        some (.v (.int .i64 (min (xs.length / sz) n : Nat)), .upd b ⟨bl.ty, bl.g, bl.cells.take lo ++ xs.take (min (xs.length / sz) n * sz) ++ bl.cells.drop (lo + min (xs.length / sz) n * sz)⟩)
      else none
    | _ => none
  | _, _ => none
def Y52 : Option D → Option (Option Nat)
 | none => some none
 | some (.v (.int _ n)) => if 0 ≤ n then some (some n.toNat) else none
 | _ => none
def Y7c (i : TI) (H : Hp) (x : D) (lo hi mx : Option D) : Option D :=
  match Y52 lo, Y52 hi, Y52 mx, x with
  | some l, some h, some m, .sl sz cs full =>
    if sz = i.esz ∧ 0 < sz then
      let l := l.getD 0
      match h, m with
      | some h, some m => if l ≤ h ∧ h ≤ m ∧ m * sz ≤ cs.length then some (.sl sz ((cs.drop (l * sz)).take ((h - l) * sz)) (h == m)) else none
      | some h, none => if l ≤ h ∧ h * sz ≤ cs.length then some (.sl sz ((cs.drop (l * sz)).take ((h - l) * sz)) false) else none
      | none, none => if l * sz ≤ cs.length then some (.sl sz (cs.drop (l * sz)) full) else none
      | _, _ => none
    else none
  | some l, some h, some none, .own sz b g lo n => match H[b]? with
    | some (some bl) => if bl.g = g ∧ sz = i.esz then
        let l := l.getD 0
        let h := h.getD n
        if l < h ∧ h ≤ n then some (.own sz b g (lo + l * sz) (h - l)) else if l = h ∧ h ≤ n then some (.sl sz [] false) else none
      else none
    | _ => none
  | _, _, _, _ => none
def Ypf (e : TI) (et nid sp : Nat) (l c : D) : Option (D × Wr) :=
  match l, c with
  | .v (.int _ n), .v (.int _ m) => if n = m ∧ 0 ≤ n ∧ n * e.bytes ≤ 140737488355328 ∧ n ≤ 4611686018427387903 ∧ 0 < e.sz then
      some (.own e.sz nid (sp) 0 n.toNat, .put nid ⟨et, sp, (List.replicate n.toNat e.zero).flatten⟩)
    else if 0 ≤ n ∧ n ≤ m ∧ m * e.bytes ≤ 140737488355328 ∧ m ≤ 4611686018427387903 ∧ 0 < e.sz then
      some (.own e.sz nid (sp) 0 n.toNat, .put nid ⟨et, sp, (List.replicate m.toNat e.zero).flatten⟩) else none
  | _, _ => none
def nilD (i : TI) (op : BinOp) (H : Hp) (x : D) : Option D :=
 match i.kind, Y2y H x with
 | .slice _, some (sz, cs) => if 0 < sz ∧ cs ≠ [] then match op with
  | .eql => some (.v (.bool false))
  | .neq => some (.v (.bool true))
  | _ => none
  else none
 | _, _ => none
def Yam : Operand → Bool
 | .const (.slice none 0 0) => true
 | _ => false
def Y22 (i : TI) : Nat := match i.kind with | .slice e => e | _ => 0
def Y7i : List D → Option (List Value)
 | [] => some []
 | .v x :: ds => (Y7i ds).map (x :: ·)
 | _ => none
def mkI (i : TI) (T : TypeId) (x : D) : Option D :=
 match i.kind, x with
 | .int _, .v u => some (.v (.iface T u))
 | .str, .v u => some (.v (.iface T u))
 | .struct, .agg cs => (Y7i cs).map fun vs => .v (.iface T (.agg vs.toArray))
 | _, _ => none
def opA (tab : Tab) (ρ : TypeId → Operand → D) (nid sp : Nat) (H : Hp) (o : Oper) : Option (D × Wr) :=
 match o.op with
 | .move x => some (ρ o.type x, .no)
 | .assign x => some (ρ o.type x, .no)
 | .pick c a b => match ρ 0 c with
  | .v (.bool q) => some (if q then ρ o.type a else ρ o.type b, .no)
  | _ => none
 | .alloc T => (tab T).map fun i => (.ptr nid (sp) 0, .put nid ⟨T, sp, i.zero⟩)
 | .box T x => (Y6l (ρ T x)).map fun cs => (.ptr nid (sp) 0, .put nid ⟨T, sp, cs⟩)
 | .build T parts => match tab T with
  | some i => match i.kind with
   | .struct => (Y4h (fun k => (i.parts[k]?).map fun p => (p.1, p.2.1)) i.zero (parts.toList.map fun p => (p.1, ρ 0 p.2))).map fun cs => (.agg cs, .no)
   | .arr _ _ => (Y4h (fun k => some (k * i.esz, i.esz)) i.zero (parts.toList.map fun p => (p.1, ρ 0 p.2))).map fun cs => (.agg cs, .no)
   | _ => none
  | none => none
 | .buildSlice T n parts => match tab T with
  | some i => match i.kind, tab (Y22 i) with
   | .slice _, some e => if n * e.sz ≤ 65536 ∧ 0 < e.sz ∧ (0 < n ∨ parts.size = 0) then (Y4h (fun k => some (k * e.sz, e.sz)) (List.replicate n e.zero).flatten (parts.toList.map fun p => (p.1, ρ (Y22 i) p.2))).map fun cs => (.sl e.sz cs true, .no) else none
   | _, _ => none
  | none => none
 | .load T a => match tab T with
  | some i => (Yak i H (ρ 0 a)).map fun d => (d, .no)
  | none => none
 | .store T a x => match tab T with
  | some i => (Y79 i H (ρ 0 a) (ρ T x)).map fun wr => (.any, wr)
  | none => none
 | .fieldAddr T x f => match tab T with
  | some i => match i.kind with
   | .struct => (Y7t i H f (ρ 0 x)).map fun d => (d, .no)
   | _ => none
  | none => none
 | .nilCheck x => (Yaf H (ρ 0 x)).map fun d => (d, .no)
 | .field T x f => match tab T with
  | some i => match i.kind with
   | .struct => (Yci i f (ρ T x)).map fun d => (d, .no)
   | _ => none
  | none => none
 | .indexAddr T x ix => match tab T with
  | some i => match i.kind with
   | .slice _ => (Y7o i H (ρ T x) (ρ 0 ix)).map fun d => (d, .no)
   | .arr len _ => (Y84 i len H (ρ T x) (ρ 0 ix)).map fun d => (d, .no)
   | _ => none
  | none => none
 | .binOp op T x y _ => match tab T with
  | some i => (if Yam y = true then nilD i op H (ρ T x) else binD i op (ρ T x) (ρ T y)).map fun d => (d, .no)
  | none => none
 | .unOp op _ x => (unD op (ρ 0 x)).map fun d => (d, .no)
 | .convert s s' x => match tab s, tab s' with
  | some i, some j => (Yma i j (ρ s x)).map fun d => (d, .no)
  | _, _ => none
 | .extract x ix => match ρ 0 x with
  | .tup ds => (ds[ix]?).map fun d => (d, .no)
  | _ => none
 | .makeFunc (.func f) first caps => if first = #[] then some (.fn f (caps.toList.map (ρ 0)), .no) else none
 | .makeSlice T l c => match tab T with
  | some i => match i.kind, tab (Y22 i) with
   | .slice _, some e => Ypf e (Y22 i) nid sp (ρ 0 l) (ρ 0 c)
   | _, _ => none
  | none => none
 | .index T x ix => match tab T with
  | some i => match i.kind with
   | .str => (Yl4 (ρ T x) (ρ 0 ix)).map fun d => (d, .no)
   | _ => none
  | none => none
 | .makeMap T none => some (.mp nid sp, .put nid ⟨T, sp, []⟩)
 | .lookup T m k co => match tab T with
  | some i => match i.kind, tab (Y7n i).1, tab (Y7n i).2 with
   | .map _ _, some ik, some ie => if ie.agg = false then (Yaj ik.kind ie.zv H (ρ 0 m) (ρ 0 k) co).map fun d => (d, .no) else none
   | _, _, _ => none
  | none => none
 | .mapUpdate T m k x => match tab T with
  | some i => match i.kind, tab (Y7n i).1 with
   | .map _ _, some ik => (Yag ik.kind H (ρ 0 m) (ρ 0 k) (ρ 0 x)).map fun wr => (.any, wr)
   | _, _ => none
  | none => none
 | .slice T x lo hi mx => match tab T with
  | some i => match i.kind with
   | .slice _ => (Y7c i H (ρ T x) (lo.map (ρ 0)) (hi.map (ρ 0)) (mx.map (ρ 0))).map fun d => (d, .no)
   | _ => none
  | none => none
 | .makeInterface T x => match tab T with
  | some i => (mkI i T (ρ T x)).map fun d => (d, .no)
  | none => none
 | .call { callee := .builtin .len, args := ⟨[x]⟩, argTypes := ⟨[s]⟩ } => match tab s with
  | some i => (lenD i H (ρ s x)).map fun d => (d, .no)
  | none => none
 | .call { callee := .builtin .append, args := ⟨[s, x]⟩, argTypes := ⟨[u, u']⟩ } => match tab u with
  | some i => match i.kind, tab (Y22 i) with
   | .slice _, some e => if u = u' then appD i e (Y22 i) nid sp H (ρ u s) (ρ u x) else none
   | _, _ => none
  | none => none
 | .call { callee := .builtin .min, args := ⟨[x, y]⟩, argTypes := _ } => match ρ 0 x, ρ 0 y with
  | .v (.int k a), .v (.int _ b) => some (.v (.int k (if b < a then b else a)), .no)
  | _, _ => none
 | .call { callee := .builtin .max, args := ⟨[x, y]⟩, argTypes := _ } => match ρ 0 x, ρ 0 y with
  | .v (.int k a), .v (.int _ b) => some (.v (.int k (if b > a then b else a)), .no)
  | _, _ => none
 | .call { callee := .builtin .copy, args := ⟨[s, x]⟩, argTypes := ⟨[u, u']⟩ } => match tab u with
  | some i => match i.kind, tab (Y22 i) with
   | .slice _, some e => Ybh e H (ρ u s) (ρ u' x)
   | _, _ => none
  | none => none
 | _ => none
def Sound (w0 : World) (F : Mem) (G : Ghost) (H : Hp) (tk : Nat) (r : Result Next) (d : D) (wr : Wr) : Prop :=
 ∃ nx u F' G' w', r = .ok nx w' ∧ (nx = .value u ∨ nx = .skip ∧ u = undef) ∧ F.le F' ∧ (∀ b o, b < w0.heap.size → F' b o = F b o) ∧ Gs wr G G' ∧ Rel w0 F' G' (wr.on H) tk w' ∧ Rep F' G' d u
def Y3m (P : Program) (F : Mem) (G : Ghost) (w : World) (s : Sem Value) (d : D) : Prop := ∃ u, s.run P w = .ok u w ∧ Rep F G d u
theorem Sound.of_gives {P : Program} {w0 : World} {F : Mem} {G : Ghost} {H : Hp} {tk : Nat} {w : World} (R : Rel w0 F G H tk w) {s : Sem Value} {d : D} (h : Y3m P F G w s d) :
    Sound w0 F G H tk (Sem.run P (do pure (Next.value (← s))) w) d .no := by
  obtain ⟨u, hu, hd⟩ := h
  exact ⟨.value u, u, F, G, w, by simp [hu], .inl rfl, .refl _, fun _ _ _ => rfl, .refl _ _, R, hd⟩
section
variable {P : Program} {w0 : World} {F : Mem} {G : Ghost} {H : Hp} {tk : Nat} {w : World}
theorem Yjs {F : Mem} {G : Ghost} {d : D} {vs : List Value} (h : RepL F G [d] vs) : Rep F G d (vs.headD undef) := by
 simp only [RepL] at h
 obtain ⟨u, us, rfl, h1, _⟩ := h
 exact h1
theorem Yc6 (R : Rel w0 F G H tk w) {t : TypeId} {i : TI} (ok : TI.Ok P t i) {x d : D} {u : Value} (hx : Rep F G x u) (h : Yak i H x = some d) : Y3m P F G w (Instr.loadAt t u) d := by
 unfold Yak at h
 cases hr : T.rdP H i.sz x with
 | none => rw [hr] at h; cases h
 | some ds =>
  rw [hr] at h
  obtain ⟨b, o, vs, rfl, hc, hL, hl⟩ := R.rdP hx hr
  obtain ⟨info, z, hi, hs, _⟩ := ok.info
  obtain ⟨dd, hdd, _, hag, _⟩ := ok.und
  have hvl : vs.length = info.size := by rw [hL.length, hl, hs]
  simp only at h
  by_cases ha : i.agg = true
  ·rw [if_pos ha] at h; cases h
   refine ⟨_, Y5c hi hdd b o vs hvl hc (fun e => by rw [hag, ha] at e; cases e), ?_⟩
   rw [hag, if_pos ha]
   simp only [Rep]
   exact ⟨vs, rfl, hL⟩
  ·rw [if_neg ha] at h
   split at h
   ·cases h
    refine ⟨_, Y5c hi hdd b o vs hvl hc (fun _ => by rw [hL.length]; rfl), ?_⟩
    rw [hag, if_neg ha]
    exact Yjs hL
   ·cases h
theorem Y2e (b o n : Nat) : (⟨b, o, none⟩ : Addr).add n = ⟨b, o + n, none⟩ := by unfold Addr.add; split <;> simp_all
theorem Yie {t : TypeId} {i : TI} (ok : TI.Ok P t i) (hd : i.kind = .struct) {x d : D} {u : Value} {f : Nat} (R : Rel w0 F G H tk w) (hx : Rep F G x u) (h : Y7t i H f x = some d) :
    Y3m P F G w (Instr.fieldAt t u f) d := by
  unfold Y7t at h
  obtain ⟨fs, hu, hlen, hp⟩ := ok.struct hd
  cases hpf : i.parts[f]? with
  | none => rw [hpf] at h; cases h
  | some q =>
    have hlt : f < fs.size := by rw [← hlen]; exact (List.getElem?_eq_some_iff.1 hpf).1
    obtain ⟨info, dd, h1, h2, h3, h4⟩ := hp f fs[f] (by simp [hlt])
    rw [hpf] at h4; cases h4
    rw [hpf] at h
    have run : ∀ b o, (Instr.fieldAt t (.pointer (some ⟨b, o, none⟩)) f).run P w = .ok (.pointer (some ⟨b, o + fs[f].offset, none⟩)) w := fun b o => by
      simp [Instr.fieldAt, run_underlying hu, hlt, Instr.sureAddr, fieldPlace, sizeOf, typeInfo, h1, h2, Y2e]
    cases x with
    | rp cs o =>
      simp only at h; cases h
      simp only [Rep] at hx
      obtain ⟨blk, off, vs, rfl, hc, hL⟩ := hx
      refine ⟨_, run _ _, ?_⟩
      simp only [Rep]
      exact ⟨blk, off, vs, by rw [Nat.add_assoc], hc, hL⟩
    | ptr b g o =>
      simp only at h
      simp only [Rep] at hx
      obtain ⟨_, p, hp, hg, hx⟩ := hx
      have hg' : p.g = g ∧ d = .ptr b g (o + fs[f].offset) := by
        split at h
        · rename_i bl hb
          split at h
          · cases h
            rename_i hgl
            obtain ⟨p', hp', hl⟩ := R.own b bl hb
            rw [hp] at hp'; cases hp'
            exact ⟨by rw [hl.1, hgl], rfl⟩
          · cases h
        · cases h
      obtain ⟨hg', rfl⟩ := hg'
      obtain ⟨hpm, hx⟩ := hx hg'
      cases hr : p.r with
      | none => rw [hr] at hx; exact hx.elim
      | some rs =>
        obtain ⟨r, s⟩ := rs
        rw [hr] at hx
        subst hx
        refine ⟨_, run _ _, ?_⟩
        simp only [Rep]
        exact ⟨rfl, p, hp, hg, fun _ => ⟨hpm, by rw [hr]⟩⟩
    | _ => cases h
theorem Ysw {x d : D} {u : Value} (R : Rel w0 F G H tk w) (hx : Rep F G x u) (h : Yaf H x = some d) : (∃ a, u = .pointer (some a)) ∧ Rep F G d u := by
 cases x with
 | rp cs o =>
  simp only [Yaf] at h
  cases h
  refine ⟨?_, hx⟩
  simp only [Rep] at hx
  obtain ⟨blk, off, vs, rfl, _⟩ := hx
  exact ⟨_, rfl⟩
 | ptr b g o =>
  simp only [Yaf] at h
  split at h
  ·rename_i bl hb
   split at h
   ·rename_i hgl
    cases h
    refine ⟨?_, hx⟩
    simp only [Rep] at hx
    obtain ⟨_, p, hp, hg, hx⟩ := hx
    obtain ⟨p', hp', hl⟩ := R.own b bl hb
    rw [hp] at hp'; cases hp'
    obtain ⟨hpm, hx⟩ := hx (by rw [hl.1, hgl])
    cases hr : p.r with
    | none => rw [hr] at hx; exact hx.elim
    | some rs =>
     obtain ⟨r, s⟩ := rs
     rw [hr] at hx
     exact ⟨_, hx⟩
   ·cases h
  ·cases h
 | _ => simp only [Yaf] at h; cases h
theorem Yid {t : TypeId} {i : TI} (ok : TI.Ok P t i) (hd : i.kind = .struct) {x d : D} {u : Value} {f : Nat} (hx : Rep F G x u) (h : Yci i f x = some d) : Y3m P F G w (Instr.field t u f) d := by
 unfold Yci at h
 obtain ⟨fs, hu, hlen, hp⟩ := ok.struct hd
 cases hpf : i.parts[f]? with
 | none => rw [hpf] at h; cases h
 | some q =>
  have hlt : f < fs.size := by rw [← hlen]; exact (List.getElem?_eq_some_iff.1 hpf).1
  obtain ⟨info, dd, h1, h2, h3, h4⟩ := hp f fs[f] (by simp [hlt])
  rw [hpf] at h4; cases h4
  rw [hpf] at h
  cases x with
  | agg cs =>
   simp only at h
   simp only [Rep] at hx
   obtain ⟨vs, rfl, hL⟩ := hx
   cases hrd : Yfe cs fs[f].offset info.size with
   | none => rw [hrd] at h; cases h
   | some ds =>
    rw [hrd] at h
    obtain ⟨rfl, hle, hl⟩ := Yde hrd
    have hagg : (isAgg fs[f].type).run P w = .ok (Y95 dd) w := by
     unfold isAgg
     simp only [Sem.run_bind, run_underlying h3, Result.andThen_ok]
     cases dd <;> rfl
    have hL' := (hL.drop fs[f].offset).take info.size
    have hvl : vs.length = cs.length := hL.length
    simp only at h
    by_cases ha : Y95 dd = true
    ·rw [if_pos ha] at h; cases h
     refine ⟨.agg ((vs.drop fs[f].offset).take info.size).toArray, ?_, ?_⟩
     ·simp [Instr.field, run_underlying hu, hlt, asAgg, part, hagg, ha, sizeOf, typeInfo, h1]
     ·simp only [Rep]; exact ⟨_, rfl, hL'⟩
    ·rw [if_neg ha] at h
     have ha' : Y95 dd = false := by simpa using ha
     split at h
     ·rename_i e he
      cases h
      rw [he] at hL'
      have h1s : info.size = 1 := by rw [← hl, he]; rfl
      obtain ⟨v, hv⟩ : ∃ v, vs[fs[f].offset]? = some v := ⟨vs[fs[f].offset]'(by omega), by simp⟩
      refine ⟨v, ?_, ?_⟩
      ·simp [Instr.field, run_underlying hu, hlt, asAgg, part, hagg, ha', hv]
      ·have : (vs.drop fs[f].offset).take info.size = [v] := by
        rw [h1s]
        obtain ⟨hlt', he'⟩ := List.getElem?_eq_some_iff.1 hv
        rw [List.drop_eq_getElem_cons hlt', he']; rfl
       rw [this] at hL'
       exact Yjs hL'
     ·cases h
  | _ => cases h
theorem Rel.own_some (R : Rel w0 F G H tk w) {sz b g lo n : Nat} {u : Value} {bl : Blk} (hx : Rep F G (.own sz b g lo n) u) (hb : H[b]? = some (some bl)) (hg : bl.g = g) :
    ((∃ a, u = .slice a 0 0) ∧ n = 0 ∧ lo = 0 ∧ bl.cells = [] ∧ G[b]? = some ⟨none, g, false⟩) ∨
    ∃ r size cap vs junk, G[b]? = some ⟨some (r, size), g, false⟩ ∧ u = .slice (some ⟨r, lo, none⟩) n cap ∧ n ≤ cap ∧ cap ≤ maxLen ∧ lo + cap * sz = size ∧ w0.heap.size ≤ r ∧
      w.heap[r]? = some (.cells (vs ++ junk).toArray bl.ty (0, 0)) ∧ vs.length + junk.length = size ∧ RepL F G bl.cells vs := by
  simp only [Rep] at hx
  obtain ⟨_, p, hp, hle, hx⟩ := hx
  obtain ⟨p', hp', hl⟩ := R.own b bl hb
  rw [hp] at hp'; cases hp'
  obtain ⟨hg', hl⟩ := hl
  have hpg : p.g = g := by omega
  obtain ⟨hpm, hx⟩ := hx hpg
  cases hr : p.r with
  | none =>
    rw [hr] at hx hl
    obtain ⟨⟨a, rfl⟩, rfl, rfl⟩ := hx
    refine .inl ⟨⟨a, rfl⟩, rfl, rfl, hl.2, ?_⟩
    rw [hp, ← hpg]; cases p; simp_all
  | some rs =>
    obtain ⟨r, s⟩ := rs
    rw [hr] at hx hl
    rw [hpm] at hl
    obtain ⟨cap, rfl, h1, h2, h3⟩ := hx
    obtain ⟨k1, k2, vs, junk, k3, k4, k5⟩ := hl
    refine .inr ⟨r, s, cap, vs, junk, ?_, rfl, h1, h2, h3, k1, k3, k4, k5⟩
    rw [hp, ← hpg]; cases p; simp_all
theorem Yi7 (R : Rel w0 F G H tk w) {t e : TypeId} {i : TI} (ok : TI.Ok P t i) (hd : i.kind = .slice e) {x ix d : D} {u k : Value} (hx : Rep F G x u) (hk : Rep F G ix k) (h : Y7o i H x ix = some d) : Y3m P F G w (Instr.indexAt t u k) d := by
 obtain ⟨hu, info, hi, hs, hpos⟩ := ok.slice hd
 unfold Y7o at h
 split at h
 ·rename_i sz cs full kk n
  simp only [Rep] at hk; subst hk
  split at h
  ·cases h
   rename_i hc
   obtain ⟨h1, h2, h3⟩ := hc
   simp only [Rep] at hx
   obtain ⟨a, len, cap, rfl, hl, hcap, _, hcs⟩ := hx
   rcases hcs with rfl | ⟨blk, off, vs, rfl, hF, hL⟩
   ·simp at h3
   have hn : n.toNat < len := by rw [← hl] at h3; exact Nat.lt_of_mul_lt_mul_right h3
   have hb : 0 ≤ n ∧ n < (len : Int) := ⟨h2, by omega⟩
   refine ⟨.pointer (some ⟨blk, off + n.toNat * sz, none⟩), ?_, ?_⟩
   ·simp [Instr.indexAt, asIntOf, run_underlying hu, hb, sizeOf, typeInfo, hi, Y2e, hs, h1]
   ·simp only [Rep]
    exact ⟨blk, off, vs, rfl, hF, hL⟩
  ·cases h
 ·rename_i sz b g lo m kk n
  simp only [Rep] at hk; subst hk
  split at h
  ·rename_i bl hb
   split at h
   ·cases h
    rename_i hc
    obtain ⟨h1, h2, h3, h4⟩ := hc
    rcases R.own_some hx hb h1 with ⟨_, rfl, _⟩ | ⟨r, size, cap, vs, junk, hG, rfl, hcap, _, hsz, _⟩
    ·omega
    have hbd : 0 ≤ n ∧ n < (m : Int) := ⟨h3, by omega⟩
    refine ⟨.pointer (some ⟨r, lo + n.toNat * sz, none⟩), ?_, ?_⟩
    ·simp [Instr.indexAt, asIntOf, run_underlying hu, hbd, sizeOf, typeInfo, hi, Y2e, hs, h2]
    ·simp only [Rep]
     exact ⟨rfl, _, hG, Nat.le_refl _, fun _ => ⟨rfl, rfl⟩⟩
   ·cases h
  ·cases h
 ·cases h
theorem Yix (R : Rel w0 F G H tk w) {t e : TypeId} {i : TI} {len : Nat} (ok : TI.Ok P t i) (hd : i.kind = .arr len e) {x ix d : D} {u k : Value} (hx : Rep F G x u) (hk : Rep F G ix k) (h : Y84 i len H x ix = some d) : Y3m P F G w (Instr.indexAt t u k) d := by
 obtain ⟨hu, info, hi, hs, hpos⟩ := ok.arr hd
 unfold Y84 at h
 split at h
 ·rename_i cs o kk n
  simp only [Rep] at hk; subst hk
  split at h
  ·cases h
   rename_i hc
   simp only [Rep] at hx
   obtain ⟨blk, off, vs, rfl, hF, hL⟩ := hx
   have hb : 0 ≤ n ∧ n < (len : Int) := ⟨hc.1, by omega⟩
   refine ⟨.pointer (some ⟨blk, off + o + n.toNat * i.esz, none⟩), ?_, ?_⟩
   ·simp [Instr.indexAt, Instr.sureAddr, asIntOf, run_underlying hu, hb, sizeOf, typeInfo, hi, Y2e, hs]
   ·simp only [Rep]
    exact ⟨blk, off, vs, by rw [Nat.add_assoc], hF, hL⟩
  ·cases h
 ·rename_i b g o kk n
  simp only [Rep] at hk; subst hk
  split at h
  ·rename_i bl hb
   split at h
   ·cases h
    rename_i hc
    obtain ⟨h1, h2, h3⟩ := hc
    have hbd : 0 ≤ n ∧ n < (len : Int) := ⟨h2, by omega⟩
    simp only [Rep] at hx
    obtain ⟨_, p, hp, hg, hx⟩ := hx
    obtain ⟨p', hp', hl⟩ := R.own b bl hb
    rw [hp] at hp'; cases hp'
    obtain ⟨hm, hx⟩ := hx (by rw [← h1]; exact hl.1)
    cases hpr : p.r with
    | none => rw [hpr] at hx; exact hx.elim
    | some rs =>
     obtain ⟨r, s⟩ := rs
     rw [hpr] at hx
     simp only at hx
     subst hx
     refine ⟨.pointer (some ⟨r, o + n.toNat * i.esz, none⟩), ?_, ?_⟩
     ·simp [Instr.indexAt, Instr.sureAddr, asIntOf, run_underlying hu, hbd, sizeOf, typeInfo, hi, Y2e, hs]
     ·simp only [Rep]
      exact ⟨rfl, p, hp, hg, fun e => ⟨hm, by rw [hpr]⟩⟩
   ·cases h
  ·cases h
 ·cases h
theorem Ypk (R : Rel w0 F G H tk w) {t ty : TypeId} {i : TI} (ok : TI.Ok P t i) {x d : D} {u : Value} (hx : Rep F G x u) (h : lenD i H x = some d) : Y3m P F G w (Builtin.len_ #[t] ty #[u]) d := by
 unfold lenD at h
 split at h
 ·rename_i s hd
  cases h
  simp only [Rep] at hx; subst hx
  have hu := ok.str hd
  exact ⟨_, by simp [Builtin.len_, run_underlying hu, goInt], Y1e _ _ _⟩
 ·rename_i e sz cs full hd
  split at h
  ·cases h
   rename_i hpos
   simp only [Rep] at hx
   obtain ⟨a, len, cap, rfl, hl, _⟩ := hx
   have hu := (ok.slice hd).1
   refine ⟨.int .i64 len, by simp [Builtin.len_, run_underlying hu, goInt], ?_⟩
   rw [← hl, Nat.mul_div_cancel _ hpos]
   exact Y1e _ _ _
  ·cases h
 ·rename_i e sz b g lo n hd
  have hu := (ok.slice hd).1
  split at h
  ·rename_i bl hb
   split at h
   ·cases h
    rename_i hg
    rcases R.own_some hx hb hg with ⟨⟨a, rfl⟩, rfl, _⟩ | ⟨r, size, cap, vs, junk, hG, rfl, _⟩
    ·exact ⟨_, by simp [Builtin.len_, run_underlying hu, goInt], Y1e _ _ _⟩
    ·exact ⟨_, by simp [Builtin.len_, run_underlying hu, goInt], Y1e _ _ _⟩
   ·cases h
  ·cases h
 ·cases h
theorem Ys0 {op : UnOp} {x d : D} {u : Value} (hx : Rep F G x u) (h : unD op x = some d) : Y3m P F G w (Op.unary op u) d := by
 unfold unD at h
 split at h
 ·cases h
  simp only [Rep] at hx; subst hx
  exact ⟨_, by simp [Op.unary, Op.intArith], Y1e _ _ _⟩
 ·cases h
  simp only [Rep] at hx; subst hx
  exact ⟨_, by simp [Op.unary], Y1e _ _ _⟩
 ·cases h
theorem Ym9 {s t : TypeId} {i j : TI} (oi : TI.Ok P s i) (oj : TI.Ok P t j) {x d : D} {u : Value} (hx : Rep F G x u) (h : Yma i j x = some d) : Y3m P F G w (convert s t u) d := by
 obtain ⟨ds, hs, _⟩ := oi.und
 unfold Yma at h
 split at h
 ·rename_i k k' n hd
  cases h
  simp only [Rep] at hx; subst hx
  have ht := oj.int hd
  exact ⟨_, by simp [convert, run_underlying hs, run_underlying ht, Conv.intToInt], Y1e _ _ _⟩
 ·rename_i b hd
  split at h
  ·rename_i hd'
   cases h
   simp only [Rep] at hx; subst hx
   have ht := oj.str hd
   have hs := oi.str hd'
   exact ⟨_, by simp [convert, run_underlying hs, run_underlying ht], Y1e _ _ _⟩
  ·cases h
 ·cases h
theorem Ye8 {d : D} {ds : List D} {u : Value} {ix : Nat} (hx : Rep F G (.tup ds) u) (h : ds[ix]? = some d) : Y3m P F G w (Instr.extract u ix) d := by
 simp only [Rep] at hx
 obtain ⟨vs, rfl, hL⟩ := hx
 obtain ⟨v, hv, hr⟩ := hL.get h
 exact ⟨v, by simp [Instr.extract, hv], hr⟩
end
section
variable {P : Program} {w0 : World} {F : Mem} {G : Ghost} {H : Hp} {tk : Nat} {w : World}
theorem Yug {op : BinOp} {k : IntKind} {a b : Int} {d : D} (t : TypeId) (h : binI op k a b = some d) : Y3m P F G w (binOp op t (.int k a) (.int k b)) d := by
  unfold binI at h
  split at h <;> first
    | (cases h; exact ⟨_, by simp [binOp, Op.intArith, Op.intCmp, Op.intBits], Y1e _ _ _⟩)
    | (split at h
       · cases h
       · cases h; rename_i hb; exact ⟨_, by simp [binOp, Op.intDiv, Op.shift, hb], Y1e _ _ _⟩)
    | cases h
theorem Ycq {op : BinOp} {k k' : IntKind} {a b : Int} {d : D} (t : TypeId) (ho : op = .shl ∨ op = .shr) (h : binI op k a b = some d) : Y3m P F G w (binOp op t (.int k a) (.int k' b)) d := by
 rcases ho with rfl | rfl
 ·simp only [binI] at h
  split at h
  ·cases h
  ·cases h; rename_i hb; exact ⟨_, by simp [binOp, Op.shift, hb], Y1e _ _ _⟩
 ·simp only [binI] at h
  split at h
  ·cases h
  ·cases h; rename_i hb; exact ⟨_, by simp [binOp, Op.shift, hb], Y1e _ _ _⟩
theorem Y7w (dp : Nat) (xs0 ys0 : Array Value) : ∀ (fs : List Field) (n : Nat) (xs ys : List D) (r : Bool),
    (∀ (k : Nat) (f : Field), fs[k]? = some f → f.name ≠ "_" ∧ f.offset = n + k ∧ ∃ kk, P.underlying f.type = some (.int kk)) →
    RepL F G xs (xs0.toList.drop n) → RepL F G ys (ys0.toList.drop n) → Y01 (List.replicate fs.length true) xs ys = some r → (Op.eqFields (dp + 1) xs0 ys0 fs).run P w = .ok r w
  | [], n, xs, ys, r, _, hx, hy, h => by
    cases xs <;> cases ys <;> simp [Y01] at h
    subst h; rfl
  | f :: fs, n, [], ys, r, _, _, _, h => by simp [List.replicate_succ, Y01] at h
  | f :: fs, n, x :: xs, [], r, hf, hx, hy, h => by
    rw [List.length_cons, List.replicate_succ] at h
    unfold Y01 at h; split at h <;> simp_all
  | f :: fs, n, x :: xs, y :: ys, r, hf, hx, hy, h => by
    simp only [RepL] at hx hy
    obtain ⟨u, us, ex, hxu, hxs⟩ := hx
    obtain ⟨v, vs, ey, hyv, hys⟩ := hy
    have gx : xs0[n]? = some u := by
      have := congrArg (·[0]?) ex
      simpa using this
    have gy : ys0[n]? = some v := by
      have := congrArg (·[0]?) ey
      simpa using this
    have dx : xs0.toList.drop (n + 1) = us := by rw [← List.drop_drop, ex]; rfl
    have dy : ys0.toList.drop (n + 1) = vs := by rw [← List.drop_drop, ey]; rfl
    obtain ⟨h1, h2, kk, h3⟩ := hf 0 f (by simp)
    rw [Nat.add_zero] at h2
    have ih := fun r' => Y7w dp xs0 ys0 fs (n + 1) xs ys r' (fun k g hg => by
      have := hf (k + 1) g (by simpa using hg)
      refine ⟨this.1, by rw [this.2.1]; omega, this.2.2⟩) (by rw [dx]; exact hxs) (by rw [dy]; exact hys)
    have nag : (isAgg f.type).run P w = .ok false w := by
      unfold isAgg
      simp only [Sem.run_bind, run_underlying h3, Result.andThen_ok]
      rfl
    have pu : (part f.type xs0 f.offset).run P w = .ok u w := by simp [part, nag, h2, gx]
    have pv : (part f.type ys0 f.offset).run P w = .ok v w := by simp [part, nag, h2, gy]
    rw [List.length_cons, List.replicate_succ] at h
    unfold Y01 at h
    split at h
    · simp_all
    · rename_i ks0 k a xs1 k' b ys1 e0 e1 e2
      cases e1; cases e2
      obtain ⟨_, rfl⟩ := List.cons.inj e0
      split at h
      · rename_i hkk
        subst hkk
        simp only [Rep] at hxu hyv
        subst hxu; subst hyv
        cases hq : Y01 (List.replicate fs.length true) xs ys with
        | none => rw [hq] at h; cases h
        | some q' =>
          rw [hq] at h; cases h
          simp only [Op.eqFields, h1, ne_eq, not_false_eq_true, if_true, Sem.run_bind, pu, pv, run_equalIn_int w dp f.type k kk a b h3, Result.andThen_ok]
          cases hab : (a == b)
          · simp
          · simp only [Bool.not_true, Bool.false_eq_true, if_false, Bool.true_and]
            exact ih q' hq
      · cases h
    · rename_i e0 _ _
      exact absurd e0 (by simp)
    · cases h
theorem Yb2 : ∀ (n : Nat) (ks : List Bool) (xs ys : List D) (r : Bool), Y01 (List.replicate n true ++ ks) xs ys = some r → n ≤ xs.length ∧ n ≤ ys.length ∧ ∃ a b, Y01 (List.replicate n true) (xs.take n) (ys.take n) = some a ∧ Y01 ks (xs.drop n) (ys.drop n) = some b ∧ r = (a && b)
 | 0, ks, xs, ys, r, h => ⟨Nat.zero_le _, Nat.zero_le _, true, r, by simp [Y01], by simpa using h, by simp⟩
 | n + 1, ks, xs, ys, r, h => by
  rw [List.replicate_succ, List.cons_append] at h
  unfold Y01 at h
  split at h
  ·simp_all
  ·rename_i ks0 k a xs1 k' b ys1 e0
   obtain ⟨_, rfl⟩ := List.cons.inj e0
   split at h
   ·rename_i hkk
    subst hkk
    cases hq : Y01 (List.replicate n true ++ ks) xs1 ys1 with
    | none => rw [hq] at h; cases h
    | some q =>
     rw [hq] at h; cases h
     obtain ⟨i1, i2, p, q', i3, i4, rfl⟩ := Yb2 n ks xs1 ys1 q hq
     refine ⟨by simp; omega, by simp; omega, (a == b) && p, q', ?_, by simpa using i4, by simp [Bool.and_assoc]⟩
     rw [List.replicate_succ, List.take_succ_cons, List.take_succ_cons]
     simp [Y01, i3]
   ·cases h
  ·rename_i e0
   exact absurd e0 (by simp)
  ·cases h
theorem Yba {F : Mem} {G : Ghost} : ∀ (n : Nat) {ds : List D} {us : List Value}, RepL F G ds us → RepL F G (ds.take n) (us.take n)
 | 0, ds, us, _ => by simp only [List.take_zero, RepL]
 | n + 1, [], us, h => by simp only [RepL] at h; subst h; simp [RepL]
 | n + 1, d :: ds, us, h => by
  simp only [RepL] at h
  obtain ⟨u, us', rfl, h1, h2⟩ := h
  simp only [List.take_succ_cons, RepL]
  exact ⟨u, _, rfl, h1, Yba n h2⟩
theorem Ybc {F : Mem} {G : Ghost} : ∀ (n : Nat) {ds : List D} {us : List Value}, RepL F G ds us → RepL F G (ds.drop n) (us.drop n)
 | 0, ds, us, h => by simpa using h
 | n + 1, [], us, h => by simp only [RepL] at h; subst h; simp [RepL]
 | n + 1, d :: ds, us, h => by
  simp only [RepL] at h
  obtain ⟨u, us', rfl, h1, h2⟩ := h
  simp only [List.drop_succ_cons]
  exact Ybc n h2
theorem Y4p (dp : Nat) (xs0 ys0 : Array Value) : ∀ (fs : List Field) (n : Nat) (ks : List Bool) (xs ys : List D) (r : Bool), eqsL P n fs ks →
    RepL F G xs (xs0.toList.drop n) → RepL F G ys (ys0.toList.drop n) → Y01 ks xs ys = some r → (Op.eqFields (dp + 2) xs0 ys0 fs).run P w = .ok r w
  | [], n, ks, xs, ys, r, hl, hx, hy, h => by
    simp only [eqsL] at hl
    subst hl
    cases xs <;> cases ys <;> simp [Y01] at h
    subst h; rfl
  | f :: fs, n, ks, xs, ys, r, hl, hx, hy, h => by
    simp only [eqsL] at hl
    obtain ⟨h1, h2, hl⟩ := hl
    have key : ∀ (u v : Value) (q q' : Bool), (part f.type xs0 f.offset).run P w = .ok u w → (part f.type ys0 f.offset).run P w = .ok v w → (Op.equalIn (dp + 2) f.type u v).run P w = .ok q w → (Op.eqFields (dp + 2) xs0 ys0 fs).run P w = .ok q' w → r = (q && q') → (Op.eqFields (dp + 2) xs0 ys0 (f :: fs)).run P w = .ok r w := fun u v q q' pu pv hq hq' e => by
      simp only [Op.eqFields, h1, ne_eq, not_false_eq_true, if_true, Sem.run_bind, pu, pv, hq, Result.andThen_ok]
      cases q
      · simp [e]
      · simp only [Bool.not_true, Bool.false_eq_true, if_false]
        rw [hq', e]; simp
    have cell : ∀ {ds : List D} {as : Array Value} {d : D} {ds' : List D}, RepL F G ds (as.toList.drop n) → ds = d :: ds' → ∃ u, as[n]? = some u ∧ Rep F G d u ∧ RepL F G ds' (as.toList.drop (n + 1)) := fun {ds as d ds'} hr e => by
      subst e
      simp only [RepL] at hr
      obtain ⟨u, us, ex, hxu, hxs⟩ := hr
      refine ⟨u, ?_, hxu, ?_⟩
      · have := congrArg (·[0]?) ex
        simpa using this
      · rw [← List.drop_drop, ex]; exact hxs
    rcases hl with ⟨ks', kk, rfl, h3, hl⟩ | ⟨ks', rfl, h3, hl⟩ | ⟨gs, info, ks', h3, h4, h5, h6, h7, rfl, hl⟩
    · have nag : (isAgg f.type).run P w = .ok false w := by
        unfold isAgg
        simp only [Sem.run_bind, run_underlying h3, Result.andThen_ok]
        rfl
      unfold Y01 at h
      split at h
      · simp_all
      · rename_i ks0 k a xs1 k' b ys1 e0
        obtain ⟨_, rfl⟩ := List.cons.inj e0
        split at h
        · rename_i hkk
          subst hkk
          cases hq : Y01 ks' xs1 ys1 with
          | none => rw [hq] at h; cases h
          | some q' =>
            rw [hq] at h; cases h
            obtain ⟨u, gu, ru, rx⟩ := cell hx rfl
            obtain ⟨v, gv, rv, ry⟩ := cell hy rfl
            simp only [Rep] at ru rv
            subst ru; subst rv
            exact key (.int k a) (.int k b) (a == b) q' (by simp [part, nag, h2, gu]) (by simp [part, nag, h2, gv]) (run_equalIn_int w (dp + 1) f.type k kk a b h3) (Y4p dp xs0 ys0 fs (n + 1) ks' xs1 ys1 q' hl rx ry hq) rfl
        · cases h
      · rename_i e0
        exact absurd e0 (by simp)
      · cases h
    · have nag : (isAgg f.type).run P w = .ok false w := by
        unfold isAgg
        simp only [Sem.run_bind, run_underlying h3, Result.andThen_ok]
        rfl
      unfold Y01 at h
      split at h
      · simp_all
      · rename_i e0
        exact absurd e0 (by simp)
      · rename_i ks0 a xs1 b ys1 e0
        obtain ⟨_, rfl⟩ := List.cons.inj e0
        cases hq : Y01 ks' xs1 ys1 with
        | none => rw [hq] at h; cases h
        | some q' =>
          rw [hq] at h; cases h
          obtain ⟨u, gu, ru, rx⟩ := cell hx rfl
          obtain ⟨v, gv, rv, ry⟩ := cell hy rfl
          simp only [Rep] at ru rv
          subst ru; subst rv
          exact key (.string a) (.string b) (decide (a = b)) q' (by simp [part, nag, h2, gu]) (by simp [part, nag, h2, gv]) (by rw [run_equalIn_string w (dp + 1) f.type a b h3, Y8b]) (Y4p dp xs0 ys0 fs (n + 1) ks' xs1 ys1 q' hl rx ry hq) rfl
      · cases h
    · obtain ⟨l1, l2, a, b, e1, e2, rfl⟩ := Yb2 gs.size ks' xs ys r h
      have hc : P.cellsOf f.type = gs.size := by simp [Program.cellsOf, h5, h6]
      have ext : ∀ as : Array Value, (as.extract n (n + gs.size)).toList = (as.toList.drop n).take gs.size := fun as => by
        rw [Array.toList_extract]
        simp [List.extract]
      have pu : ∀ as : Array Value, (part f.type as f.offset).run P w = .ok (.agg (as.extract n (n + gs.size))) w := fun as => by
        simp [part, isAgg, run_underlying h3, run_sizeOf w h5, hc, h2]
      have hfo : P.fieldsOf f.type = gs := by simp [Program.fieldsOf, h3]
      have hq : (Op.equalIn (dp + 2) f.type (.agg (xs0.extract n (n + gs.size))) (.agg (ys0.extract n (n + gs.size)))).run P w = .ok a w := by
        rw [run_equalIn_struct w (dp + 1) f.type _ _ (by rw [hfo]; exact h3) h4, hfo]
        refine Y7w (F := F) (G := G) dp _ _ gs.toList 0 (xs.take gs.size) (ys.take gs.size) a (fun k g hg => by simpa using Yk5 h7 k g hg) ?_ ?_ (by simpa using e1)
        · rw [List.drop_zero, ext]; exact Yba _ hx
        · rw [List.drop_zero, ext]; exact Yba _ hy
      refine key _ _ a b (pu xs0) (pu ys0) hq (Y4p dp xs0 ys0 fs (n + gs.size) ks' (xs.drop gs.size) (ys.drop gs.size) b hl ?_ ?_ e2) rfl
      · rw [← List.drop_drop]; exact Ybc _ hx
      · rw [← List.drop_drop]; exact Ybc _ hy
theorem Y56 : Op.maxDepth = 9999 + 1 := rfl
theorem Yrd {t : TypeId} {i : TI} (ok : TI.Ok P t i) {op : BinOp} {x y d : D} {u v : Value} {ox oy : Operand} (hx : Rep F G x u) (hy : Rep F G y v) (h : binD i op x y = some d) :
    Y3m P F G w (do eqGuard op t ox oy u v; binOp op t u v) d := by
  unfold binD at h
  split at h
  · rename_i xs ys
    simp only [Rep] at hx hy
    obtain ⟨us, rfl, hxs⟩ := hx
    obtain ⟨vs, rfl, hys⟩ := hy
    split at h
    · rename_i he
      obtain ⟨dd, hu, hk1, hk2, hpp, heq⟩ := ok.und
      clear hk1 hk2 hpp
      obtain ⟨h1, h2, h3⟩ := heq he
      unfold Yzv at h3
      split at h3
      · rename_i fs
        have hfo : P.fieldsOf t = fs := by simp [Program.fieldsOf, hu]
        have run : ∀ r, Y01 i.eqs xs ys = some r → (Op.equal t (.agg us.toArray) (.agg vs.toArray)).run P w = .ok r w := fun r hr => by
          unfold Op.equal
          rw [Y56, run_equalIn_struct w 9999 t _ _ (by rw [hfo]; exact hu) h1, hfo]
          exact Y4p 9997 _ _ fs.toList 0 i.eqs xs ys r h3 (by simpa using hxs) (by simpa using hys) hr
        split at h
        · cases hr : Y01 i.eqs xs ys with
          | none => rw [hr] at h; cases h
          | some r => rw [hr] at h; cases h; exact ⟨_, by simp [eqGuard, h2, binOp, run r hr], Y1e _ _ _⟩
        · cases hr : Y01 i.eqs xs ys with
          | none => rw [hr] at h; cases h
          | some r => rw [hr] at h; cases h; exact ⟨_, by simp [eqGuard, h2, binOp, run r hr], Y1e _ _ _⟩
        · cases h
      · exact h3.elim
    · cases h
  · rename_i k a k' b
    simp only [Rep] at hx hy
    subst hx; subst hy
    have hg : ∀ op', (eqGuard op' t ox oy (.int k a) (.int k' b)).run P w = .ok () w := fun op' => by cases op' <;> simp [eqGuard]
    have fin : Y3m P F G w (binOp op t (.int k a) (.int k' b)) d → Y3m P F G w (do eqGuard op t ox oy (.int k a) (.int k' b); binOp op t (.int k a) (.int k' b)) d := fun ⟨u, h1, h2⟩ => ⟨u, by simp [hg, h1], h2⟩
    split at h
    · rename_i hk; subst hk
      exact fin (Yug t h)
    · split at h
      · exact fin (Ycq t (.inl rfl) h)
      · exact fin (Ycq t (.inr rfl) h)
      · cases h
  · rename_i a b
    simp only [Rep] at hx hy
    subst hx; subst hy
    split at h
    · rename_i hd; cases h; have hu := ok.bool hd
      exact ⟨_, by simp [eqGuard, binOp, Op.equal, Y56, run_equalIn_bool' w _ t a b hu], Y1e _ _ _⟩
    · rename_i hd; cases h; have hu := ok.bool hd
      exact ⟨_, by simp [eqGuard, binOp, Op.equal, Y56, run_equalIn_bool' w _ t a b hu]; cases a <;> cases b <;> rfl, Y1e _ _ _⟩
    · cases h
  · rename_i a b
    simp only [Rep] at hx hy
    subst hx; subst hy
    split at h
    · cases h; exact ⟨_, by rw [← Y8b]; simp [eqGuard, binOp, Op.stringOp], Y1e _ _ _⟩
    · cases h; exact ⟨_, by rw [← Y8b]; simp [eqGuard, binOp, Op.stringOp], Y1e _ _ _⟩
    · cases h
  · cases h
theorem Ypb {ty : TypeId} {ts : Array TypeId} {k k' : IntKind} {a b : Int} {u v : Value} (hx : Rep F G (.v (.int k a)) u) (hy : Rep F G (.v (.int k' b)) v) : Y3m P F G w (Builtin.min_ ts ty #[u, v]) (.v (.int k (if b < a then b else a))) := by
 simp only [Rep] at hx hy
 subst hx; subst hy
 exact ⟨_, by simp [Builtin.min_, Builtin.min2], Y1e _ _ _⟩
theorem Ypc {ty : TypeId} {ts : Array TypeId} {k k' : IntKind} {a b : Int} {u v : Value} (hx : Rep F G (.v (.int k a)) u) (hy : Rep F G (.v (.int k' b)) v) : Y3m P F G w (Builtin.max_ ts ty #[u, v]) (.v (.int k (if b > a then b else a))) := by
 simp only [Rep] at hx hy
 subst hx; subst hy
 exact ⟨_, by simp [Builtin.max_, Builtin.max2], Y1e _ _ _⟩
end
section
variable {P : Program} {w0 : World} {F : Mem} {G : Ghost} {H : Hp} {tk : Nat} {w : World}
def Does (w0 : World) (F : Mem) (G : Ghost) (H : Hp) (tk : Nat) (r : Result Value) (d : D) (wr : Wr) : Prop :=
 ∃ u F' G' w', r = .ok u w' ∧ F.le F' ∧ (∀ b o, b < w0.heap.size → F' b o = F b o) ∧ Gs wr G G' ∧ Rel w0 F' G' (wr.on H) tk w' ∧ Rep F' G' d u
theorem Sound.of_does {s : Sem Value} {d : D} {wr : Wr} (h : Does w0 F G H tk (s.run P w) d wr) : Sound w0 F G H tk (Sem.run P (do pure (Next.value (← s))) w) d wr := by
 obtain ⟨u, F', G', w', hr, h1, h2, h3, h4, h5⟩ := h
 exact ⟨.value u, u, F', G', w', by simp [hr], .inl rfl, h1, h2, h3, h4, h5⟩
theorem Does.of_gives (R : Rel w0 F G H tk w) {s : Sem Value} {d : D} (h : Y3m P F G w s d) : Does w0 F G H tk (s.run P w) d .no := by
 obtain ⟨u, hu, hd⟩ := h
 exact ⟨u, F, G, w, hu, .refl _, fun _ _ _ => rfl, .refl _ _, R, hd⟩
theorem Yjn (R : Rel w0 F G H tk w) {nid : Nat} (hb : nid ≤ H.length) {p : Pl} (hn : G[nid]? = some p) {sp : Nat} (hsp : sp ≤ tk) (hlt : p.g < sp) {ty : TypeId} {cs : List D} {vs : List Value} (hL : RepL F G cs vs) :
    Does w0 F G H tk (.ok (.pointer (some ⟨w.heap.size, 0, none⟩)) (w.alloc (.cells vs.toArray ty))) (.ptr nid (sp) 0) (.put nid ⟨ty, sp, cs⟩) := by
  refine ⟨_, F, _, _, rfl, .refl _, fun _ _ _ => rfl, Gs.set hn (.inr hlt), R.new (Nat.le_refl _) hsp hb hn hlt hL, ?_⟩
  simp only [Rep]
  exact ⟨rfl, _, by rw [List.getElem?_set_self (List.getElem?_eq_some_iff.1 hn).1], Nat.le_refl _, fun _ => ⟨rfl, rfl⟩⟩
theorem TI.Ok.zero_L {t : TypeId} {i : TI} (ok : TI.Ok P t i) (F : Mem) (G : Ghost) : RepL F G i.zero i.zv := Ykn F G _ _ (by rw [ok.lens.1, ok.lens.2])
theorem Yms (R : Rel w0 F G H tk w) {nid : Nat} (hb : nid ≤ H.length) {p : Pl} (hn : G[nid]? = some p) {sp : Nat} (hsp : sp ≤ tk) (hlt : p.g < sp) {t : TypeId} {i : TI} (ok : TI.Ok P t i) :
    Does w0 F G H tk ((Instr.alloc t true (.tuple #[])).run P w) (.ptr nid (sp) 0) (.put nid ⟨t, sp, i.zero⟩) := by
  obtain ⟨info, z, hi, hs, _, hz, hzv⟩ := ok.info
  have : (Instr.alloc t true (.tuple #[])).run P w = .ok (.pointer (some ⟨w.heap.size, 0, none⟩)) (w.alloc (.cells i.zv.toArray t)) := by
    simp [Instr.alloc, zeroValue, typeInfo, hi, hz, newVar, newRow, ← hzv]
  rw [this]
  exact Yjn R hb hn hsp hlt (ok.zero_L F G)
theorem Yud (R : Rel w0 F G H tk w) {nid : Nat} (hb : nid ≤ H.length) {p : Pl} (hn : G[nid]? = some p) {sp : Nat} (hsp : sp ≤ tk) (hlt : p.g < sp) {t : TypeId} {x : D} {u : Value} {cs : List D} (hx : Rep F G x u) (hc : Y6l x = some cs) :
    Does w0 F G H tk ((Instr.box t u).run P w) (.ptr nid (sp) 0) (.put nid ⟨t, sp, cs⟩) := by
  obtain ⟨hL, _⟩ := hx.cells hc
  have : (Instr.box t u).run P w = .ok (.pointer (some ⟨w.heap.size, 0, none⟩)) (w.alloc (.cells u.cells.toList.toArray t)) := by
    simp [Instr.box, newVar, newRow]
  rw [this]
  exact Yjn R hb hn hsp hlt hL
theorem Ygb (off : Nat) : ∀ (vs : List Value) (k : Nat) (cells : Array Value), off + k + vs.length ≤ cells.size →
    ((vs.zipIdx k).foldl (fun cs (p : Value × Nat) => cs.setIfInBounds (off + p.2) p.1) cells).toList = cells.toList.take (off + k) ++ vs ++ cells.toList.drop (off + k + vs.length)
  | [], k, cells, h => by simp
  | v :: vs, k, cells, h => by
    simp only [List.length_cons] at h
    simp only [List.zipIdx_cons, List.foldl_cons]
    rw [Ygb off vs (k + 1) _ (by simp; omega)]
    have hk : off + k < cells.toList.length := by simp; omega
    simp only [Array.toList_setIfInBounds]
    rw [List.set_eq_take_append_cons_drop, if_pos hk, ← Nat.add_assoc]
    have e1 : (cells.toList.take (off + k) ++ v :: cells.toList.drop (off + k + 1)).take (off + k + 1) = cells.toList.take (off + k) ++ [v] := by
      rw [List.take_append, List.length_take, Nat.min_eq_left (by omega), List.take_of_length_le (by simp; omega)]
      simp [Nat.add_sub_cancel_left]
    have e2 : (cells.toList.take (off + k) ++ v :: cells.toList.drop (off + k + 1)).drop (off + k + 1 + vs.length) = cells.toList.drop (off + k + (vs.length + 1)) := by
      rw [List.drop_append, List.length_take, Nat.min_eq_left (by omega), List.drop_of_length_le (by simp; omega), List.nil_append]
      have : off + k + 1 + vs.length - (off + k) = vs.length + 1 := by omega
      rw [this, List.drop_succ_cons, List.drop_drop]
      congr 1; omega
    rw [e1, e2]; simp
theorem Y9m (place : Nat → Option (Nat × Nat)) : ∀ (ps : List (Nat × D)) (qs : List (Nat × Value)) (cells cells' : List D) (vs : Array Value), ps.map (·.1) = qs.map (·.1) → RepL F G (ps.map (·.2)) (qs.map (·.2)) →
    RepL F G cells vs.toList → Y4h place cells ps = some cells' → ∃ vs', Instr.fill place vs qs = some vs' ∧ RepL F G cells' vs'.toList
  | [], [], cells, cells', vs, _, _, hc, h => by simp only [Y4h] at h; cases h; exact ⟨vs, rfl, hc⟩
  | [], q :: qs, _, _, _, h, _, _, _ => by simp at h
  | p :: ps, [], _, _, _, h, _, _, _ => by simp at h
  | (k, d) :: ps, (k', u) :: qs, cells, cells', vs, hk, hr, hc, h => by
    simp only [List.map_cons, List.cons.injEq] at hk
    obtain ⟨rfl, hk⟩ := hk
    simp only [List.map_cons, RepL] at hr
    obtain ⟨u', us', e, hdu, hrest⟩ := hr
    simp only [List.cons.injEq] at e
    obtain ⟨rfl, rfl⟩ := e
    unfold Y4h at h
    split at h
    · rename_i off sz cs hp hcs
      split at h
      · rename_i hlen
        split at h
        · rename_i cells1 hw
          obtain ⟨rfl, hle⟩ := Y9s hw
          obtain ⟨hL, _⟩ := hdu.cells hcs
          have hl1 : u.cells.size = cs.length := by rw [← Array.length_toList, hL.length]
          have hl2 : vs.size = cells.length := by rw [← Array.length_toList, hc.length]
          have hfold : (u.cells.zipIdx.foldl (fun cs (p : Value × Nat) => cs.setIfInBounds (off + p.2) p.1) vs).toList = vs.toList.take off ++ u.cells.toList ++ vs.toList.drop (off + cs.length) := by
            rw [← Array.foldl_toList, Array.toList_zipIdx, Ygb off u.cells.toList 0 vs (by simp; omega)]
            simp [hl1]
          obtain ⟨vs', h1, h2⟩ := Y9m place ps qs _ cells' (u.cells.zipIdx.foldl (fun cs (p : Value × Nat) => cs.setIfInBounds (off + p.2) p.1) vs) hk hrest (by
            rw [hfold]
            exact ((hc.take off).append hL).append (hc.drop _)) h
          refine ⟨vs', ?_, h2⟩
          simp only [Instr.fill, hp]
          rw [if_neg (by simp; omega)]
          exact h1
        · cases h
      · cases h
    · cases h
theorem Y7j {ρ : Operand → D} {σ : Operand → Value} (h : ∀ x, Rep F G (ρ x) (σ x)) : ∀ l : List (Nat × Operand), (l.map fun p => (p.1, ρ p.2)).map (·.1) = (l.map fun p => (p.1, σ p.2)).map (·.1) ∧ RepL F G ((l.map fun p => (p.1, ρ p.2)).map (·.2)) ((l.map fun p => (p.1, σ p.2)).map (·.2))
 | [] => ⟨rfl, by simp [RepL]⟩
 | p :: l => by
  obtain ⟨h1, h2⟩ := Y7j h l
  refine ⟨by simp, ?_⟩
  simp only [List.map_cons, RepL]
  exact ⟨_, _, rfl, h p.2, h2⟩
theorem Yl5 {fs : List Field} (w : World) (h : ∀ f ∈ fs, ∃ info, P.info? f.type = some info) : ∃ ps, (fs.mapM fun f => do pure (f.offset, ← sizeOf f.type) : Sem (List (Nat × Nat))).run P w = .ok ps w ∧ ps.length = fs.length ∧ ∀ (k : Nat) (f : Field) (info : TypeInfo), fs[k]? = some f → P.info? f.type = some info → ps[k]? = some (f.offset, info.size) := by
 induction fs with
 | nil => exact ⟨[], by simp, rfl, fun k f info hf => by simp at hf⟩
 | cons f fs ih =>
  obtain ⟨ps, h1, h2, h3⟩ := ih fun g hg => h g (List.mem_cons_of_mem _ hg)
  obtain ⟨info, hi⟩ := h f (by simp)
  refine ⟨(f.offset, info.size) :: ps, ?_, by simp [h2], fun k g info' hg hi' => ?_⟩
  ·simp [List.mapM_cons, sizeOf, typeInfo, hi] at h1 ⊢
   rw [h1]; rfl
  ·cases k with
   | zero => simp at hg; subst hg; rw [hi] at hi'; cases hi'; rfl
   | succ k => simpa using h3 k g info' (by simpa using hg) hi'
theorem Yaw {p q : Nat → Option (Nat × Nat)} (h : ∀ k, p k = q k) : ∀ (ps : List (Nat × D)) (cells : List D), Y4h p cells ps = Y4h q cells ps
 | [], _ => rfl
 | (k, d) :: r, cells => by unfold Y4h; rw [h k]; simp only [Yaw h r]
theorem Yiq {t : TypeId} {i : TI} (ok : TI.Ok P t i) (hd : i.kind = .struct) {ρ : Operand → D} {σ : Operand → Value} (hρ : ∀ x, Rep F G (ρ x) (σ x)) {parts : Array (Nat × Operand)} {cs : List D}
    (h : Y4h (fun k => (i.parts[k]?).map fun p => (p.1, p.2.1)) i.zero (parts.toList.map fun p => (p.1, ρ p.2)) = some cs) : Y3m P F G w (Instr.build t (parts.map fun (i, x) => (i, σ x))) (.agg cs) := by
  obtain ⟨info, z, hi, hs, hb, hz, hzv⟩ := ok.info
  obtain ⟨fs, hu, hlen, hp⟩ := ok.struct hd
  obtain ⟨ps, r1, r2, r3⟩ := Yl5 (P := P) (fs := fs.toList) w fun f hf => by
    obtain ⟨k, hk⟩ := List.getElem?_of_mem hf
    obtain ⟨info, _, h1, _⟩ := hp k f (by simpa using hk)
    exact ⟨info, h1⟩
  have hpl : ∀ k : Nat, (i.parts[k]?).map (fun p : Nat × Nat × Bool => (p.1, p.2.1)) = ps.toArray[k]? := fun k => by
    rcases Nat.lt_or_ge k fs.size with hk | hk
    · obtain ⟨info, dd, h1, h2, h3, h4⟩ := hp k fs[k] (by simp [hk])
      rw [h4]
      simp only [Option.map_some, List.getElem?_toArray]
      exact (r3 k fs[k] info (by simp [hk]) h1).symm
    · rw [List.getElem?_eq_none (by omega)]
      simp [List.getElem?_eq_none (show ps.length ≤ k by rw [r2]; simpa using hk)]
  rw [Yaw hpl] at h
  obtain ⟨e1, e2⟩ := Y7j hρ parts.toList
  obtain ⟨vs', f1, f2⟩ := Y9m (fun k => ps.toArray[k]?) _ _ i.zero cs z.cells e1 e2 (by rw [hzv]; exact ok.zero_L F G) h
  have hmap : (parts.map fun (i, x) => (i, σ x)).toList = parts.toList.map fun p => (p.1, σ p.2) := by simp
  have r1' : (fs.mapM fun f => do pure (f.offset, ← sizeOf f.type) : Sem (Array (Nat × Nat))).run P w = .ok ps.toArray w := by
    rw [Array.mapM_eq_mapM_toList]
    simp only [Sem.run_map, r1, Result.andThen_ok]
  refine ⟨.agg vs', ?_, ?_⟩
  · simp only [Instr.build, zeroValue, Sem.run_bind, typeInfo, run_program, Result.andThen_ok, hi, Sem.run_pure, hz, run_underlying hu, r1', hmap, f1]
  · simp only [Rep]
    exact ⟨vs'.toList, by simp, f2⟩
theorem Yrb {t e : TypeId} {i : TI} {n : Nat} (ok : TI.Ok P t i) (hd : i.kind = .arr n e) {ρ : Operand → D} {σ : Operand → Value} (hρ : ∀ x, Rep F G (ρ x) (σ x)) {parts : Array (Nat × Operand)} {cs : List D}
    (h : Y4h (fun k => some (k * i.esz, i.esz)) i.zero (parts.toList.map fun p => (p.1, ρ p.2)) = some cs) : Y3m P F G w (Instr.build t (parts.map fun (i, x) => (i, σ x))) (.agg cs) := by
  obtain ⟨info, z, hi, hs, hb, hz, hzv⟩ := ok.info
  obtain ⟨hu, einfo, hei, hes, _⟩ := ok.arr hd
  obtain ⟨e1, e2⟩ := Y7j hρ parts.toList
  obtain ⟨vs', f1, f2⟩ := Y9m (fun k => some (k * i.esz, i.esz)) _ _ i.zero cs z.cells e1 e2 (by rw [hzv]; exact ok.zero_L F G) h
  have hmap : (parts.map fun (i, x) => (i, σ x)).toList = parts.toList.map fun p => (p.1, σ p.2) := by simp
  rw [← hes] at f1
  refine ⟨.agg vs', ?_, ?_⟩
  · simp only [Instr.build, zeroValue, Sem.run_bind, typeInfo, run_program, Result.andThen_ok, hi, Sem.run_pure, hz, run_underlying hu, sizeOf, hei, hmap, f1]
  · simp only [Rep]
    exact ⟨vs'.toList, by simp, f2⟩
theorem Ycu (z : Array Value) (hz : 0 < z.size) : ∀ n, ((Array.range (n * z.size)).map (fun i => z[i % z.size]!)).toList = (List.replicate n z.toList).flatten
 | 0 => by simp
 | n + 1 => by
  have ih := Ycu z hz n
  simp only [Array.toList_map, Array.toList_range] at ih ⊢
  rw [Nat.add_mul, Nat.one_mul, List.range_add, List.map_append, ih, List.replicate_succ', List.flatten_append]
  congr 1
  simp only [List.flatten_cons, List.flatten_nil, List.append_nil, List.map_map]
  apply List.ext_getElem
  ·simp
  ·intro j h1 h2
   simp at h1
   simp [Nat.mod_eq_of_lt h1, h1]
theorem Y8p {zs : List D} {vs : List Value} (h : RepL F G zs vs) : ∀ n, RepL F G (List.replicate n zs).flatten (List.replicate n vs).flatten
 | 0 => by simp [RepL]
 | n + 1 => by simp only [List.replicate_succ, List.flatten_cons]; exact h.append (Y8p h n)
theorem Y71 {α : Type} (l : List α) : ∀ n, (List.replicate n l).flatten.length = n * l.length
 | 0 => by simp
 | n + 1 => by simp only [List.replicate_succ, List.flatten_cons, List.length_append, Y71 l n, Nat.add_mul, Nat.one_mul]; omega
theorem Ybi (_R : Rel w0 F G H tk w) {t e : TypeId} {i ie : TI} (ok : TI.Ok P t i) (hd : i.kind = .slice e) (oe : TI.Ok P e ie) {ρ : Operand → D} {σ : Operand → Value} (hρ : ∀ x, Rep F G (ρ x) (σ x)) {n : Nat} {parts : Array (Nat × Operand)} {cs : List D}
    (hsz : n * ie.sz ≤ 65536 ∧ 0 < ie.sz) (hn0' : 0 < n ∨ parts = #[]) (h : Y4h (fun k => some (k * ie.sz, ie.sz)) (List.replicate n ie.zero).flatten (parts.toList.map fun p => (p.1, ρ p.2)) = some cs) :
    ∃ vs : List Value, (Instr.buildSlice t n (parts.map fun (i, x) => (i, σ x))).run P w = .ok (.slice (some ⟨w.heap.size, 0, none⟩) n n) (w.alloc (.cells vs.toArray e)) ∧ RepL F G cs vs ∧ cs.length = n * ie.sz := by
  obtain ⟨info, z, hi, hs, hb, hz, hzv⟩ := oe.info
  obtain ⟨hu, _⟩ := ok.slice hd
  have hzs : z.cells.size = ie.sz := by rw [← Array.length_toList, hzv, oe.lens.1]
  obtain ⟨e1, e2⟩ := Y7j hρ parts.toList
  have hz0 : RepL F G (List.replicate n ie.zero).flatten ((Array.range (n * ie.sz)).map (fun i => z.cells[i % z.cells.size]!)).toList := by
    rw [← hzs, Ycu _ (by omega), hzv]
    exact Y8p (oe.zero_L F G) n
  obtain ⟨vs', f1, f2⟩ := Y9m (fun k => some (k * ie.sz, ie.sz)) _ _ _ cs _ e1 e2 hz0 h
  have hmap : (parts.map fun (i, x) => (i, σ x)).toList = parts.toList.map fun p => (p.1, σ p.2) := by simp
  have hl0 : (List.replicate n ie.zero).flatten.length = n * ie.sz := by rw [Y71, (oe.zero_L F G).length.symm, oe.lens.1]
  have hlen : cs.length = n * ie.sz := by
    rw [← hl0]
    clear f1 f2 e1 e2 hmap hz0 hl0
    generalize (List.replicate n ie.zero).flatten = cells at *
    generalize parts.toList.map (fun p => (p.1, ρ p.2)) = ps at *
    induction ps generalizing cells with
    | nil => simp only [Y4h] at h; cases h; rfl
    | cons p ps ih =>
      obtain ⟨k, d⟩ := p
      unfold Y4h at h
      split at h
      · split at h
        · split at h
          · rename_i cells1 hw
            rw [ih _ h]
            obtain ⟨rfl, hle⟩ := Y9s hw
            simp; omega
          · cases h
        · cases h
      · cases h
  have hrun : (Instr.buildSlice t n (parts.map fun (i, x) => (i, σ x))).run P w = .ok (.slice (some ⟨w.heap.size, 0, none⟩) n n) (w.alloc (.cells vs'.toList.toArray e)) := by
    have hbig : ¬ (16777216 < n * info.size) := by rw [hs]; omega
    have hbig' : ¬ (n * info.size > 2 ^ 24) := by rw [hs]; omega
    by_cases h0 : n * info.size = 0
    · have hn0 : n = 0 := by rw [hs] at h0; rcases Nat.mul_eq_zero.1 h0 with h | h <;> omega
      subst hn0
      have hp0 : parts = #[] := hn0'.resolve_left (by omega)
      subst hp0
      simp [Instr.fill, Array.range_zero'] at f1
      subst f1
      simp [Instr.buildSlice, run_underlying hu, sizeOf, typeInfo, hi, Instr.fill, newRow, Array.range_zero']
    · have f1' : Instr.fill (fun k => some (k * info.size, info.size)) ((Array.range (n * info.size)).map (fun i => z.cells[i % z.cells.size]!)) (parts.map fun (i, x) => (i, σ x)).toList = some vs' := by
        rw [hs, hmap]; exact f1
      simp only [Instr.buildSlice, Sem.run_bind, run_underlying hu, Result.andThen_ok, sizeOf, typeInfo, run_program, hi, Sem.run_pure, if_neg hbig', if_neg h0, Sem.run_ite, zeroValue, hz, f1', newRow, run_newObj]
      simp
  exact ⟨vs'.toList, hrun, f2, hlen⟩
theorem Yb4 (R : Rel w0 F G H tk w) {t e : TypeId} {i ie : TI} (ok : TI.Ok P t i) (hd : i.kind = .slice e) (oe : TI.Ok P e ie) {ρ : Operand → D} {σ : Operand → Value} (hρ : ∀ x, Rep F G (ρ x) (σ x)) {n : Nat} {parts : Array (Nat × Operand)} {cs : List D}
    (hsz : n * ie.sz ≤ 65536 ∧ 0 < ie.sz) (hn0' : 0 < n ∨ parts = #[]) (h : Y4h (fun k => some (k * ie.sz, ie.sz)) (List.replicate n ie.zero).flatten (parts.toList.map fun p => (p.1, ρ p.2)) = some cs) :
    Does w0 F G H tk ((Instr.buildSlice t n (parts.map fun (i, x) => (i, σ x))).run P w) (.sl ie.sz cs true) .no := by
  obtain ⟨vs', hrun, f2, hlen⟩ := Ybi R ok hd oe hρ hsz hn0' h
  rw [hrun]
  have hlv : vs'.length = n * ie.sz := by rw [f2.length, hlen]
  have hF : F.le (F.with_ w.heap.size vs') := Mem.le_with (R.mem.none (Nat.le_refl _))
  refine ⟨_, F.with_ w.heap.size vs', G, _, rfl, hF, fun b o hb => ?_, .refl _ _, R.laid e vs', ?_⟩
  · unfold Mem.with_; rw [if_neg (by have := R.below.size; omega)]
  · simp only [Rep]
    refine ⟨_, n, n, rfl, hlen.symm, Nat.le_refl _, fun _ => rfl, .inr ⟨w.heap.size, 0, vs', rfl, fun j x hx => ?_, RepL.mono hF (.refl _ _) _ _ f2⟩⟩
    unfold Mem.with_; rw [if_pos rfl, Nat.zero_add]; exact hx
end
section
variable {P : Program} {w0 : World} {F : Mem} {G : Ghost} {H : Hp} {tk : Nat} {w : World}
theorem Yl0 (R : Rel w0 F G H tk w) {t : TypeId} {i : TI} (ok : TI.Ok P t i) {p x : D} {u v : Value} {wr : Wr} (hp : Rep F G p u) (hx : Rep F G x v) (h : Y79 i H p x = some wr) :
    ∃ w', (Instr.storeAt t u v).run P w = .ok () w' ∧ Rel w0 F G (wr.on H) tk w' := by
  unfold Y79 at h
  split at h
  · rename_i b g off cs hcs
    split at h
    · rename_i bl hb
      split at h
      · rename_i hc
        obtain ⟨hg, hsz⟩ := hc
        cases hw : Y9t bl.cells off cs with
        | none => rw [hw] at h; cases h
        | some es =>
          rw [hw] at h; cases h
          obtain ⟨rfl, hle⟩ := Y9s hw
          obtain ⟨hL, hone⟩ := hx.cells hcs
          simp only [Rep] at hp
          obtain ⟨_, q, hq, _, hp⟩ := hp
          obtain ⟨q', hq', hl⟩ := R.own b bl hb
          rw [hq] at hq'; cases hq'
          obtain ⟨hqm, hp⟩ := hp (by rw [hl.1, hg])
          obtain ⟨hq1, hl'⟩ := hl
          cases hr : q.r with
          | none => rw [hr] at hp; exact hp.elim
          | some rs =>
            obtain ⟨r, s⟩ := rs
            rw [hr] at hp hl'
            rw [hqm] at hl'
            subst hp
            obtain ⟨_, _, vs, junk, hh, hs, hLv⟩ := hl'
            obtain ⟨info, z, hi, hsi, _⟩ := ok.info
            have hvl : vs.length = bl.cells.length := hLv.length
            have hcl : v.cells.toList.length = cs.length := hL.length
            have hone' : ∀ y ∈ v.cells.toList, y.oneCell' = true := hL.oneCell hone
            have hst := run_storeCells_at (P := P) r off bl.ty v.cells.toList 0 _ w hh (by simp at hcl ⊢; omega) hone'
            have hrow : ((vs ++ junk).toArray.toList.take (off + 0) ++ v.cells.toList ++ (vs ++ junk).toArray.toList.drop (off + 0 + v.cells.toList.length)) = (vs.take off ++ v.cells.toList ++ vs.drop (off + cs.length)) ++ junk := by
              rw [hcl]
              simp only [Nat.add_zero, List.append_assoc]
              rw [List.take_append_of_le_length (by omega), List.drop_append_of_le_length (by omega)]
            rw [hrow] at hst
            refine ⟨w.setRow r ((vs.take off ++ v.cells.toList ++ vs.drop (off + cs.length)) ++ junk).toArray, ?_, ?_⟩
            · have e1 : v.cells.size = info.size := by rw [← Array.length_toList, hcl, hsz, hsi]
              simp only [Instr.storeAt, Instr.sureAddr, storeVar, Sem.run_bind, Sem.run_pure, Result.andThen_ok, sizeOf, typeInfo, run_program, hi, e1, ne_eq, not_true_eq_false, if_false, hst]
            · refine R.setRow hb hq hr hqm (by simp at hcl ⊢; omega) ?_
              exact ((hLv.take off).append hL).append (hLv.drop _)
      · cases h
    · cases h
  · cases h
theorem Y5k (R : Rel w0 F G H tk w) {x : D} {u : Value} {sz : Nat} {xs : List D} (hx : Rep F G x u) (h : Y2y H x = some (sz, xs)) (_h0 : 0 < sz) (hne : xs ≠ []) :
    ∃ a m c vs, u = .slice (some a) m c ∧ m * sz = xs.length ∧ (∀ j v, vs[j]? = some v → w.cell? (a.add j) = some v) ∧ RepL F G xs vs := by
  unfold Y2y at h
  split at h
  · cases h
    simp only [Rep] at hx
    obtain ⟨a, len, cap, rfl, hl, _, _, hcs⟩ := hx
    obtain ⟨blk, off, vs, rfl, hF, hL⟩ := hcs.resolve_left hne
    exact ⟨_, len, cap, vs, rfl, hl, fun j v hv => by rw [Y2e]; exact R.mem _ _ _ (hF j v hv), hL⟩
  · rename_i sz b g lo n
    split at h
    · rename_i bl hb
      split at h
      · cases h
        rename_i hc
        obtain ⟨hg, hle⟩ := hc
        rcases R.own_some hx hb hg with ⟨_, rfl, _⟩ | ⟨r, size, cap, vs, junk, hG, rfl, hcap, _, hsz, hr, hh, hlen, hL⟩
        · simp at hne
        · have hvl : vs.length = bl.cells.length := hL.length
          refine ⟨_, n, cap, (vs.drop lo).take (n * sz), rfl, by simp; omega, fun j v hv => ?_, (hL.drop lo).take _⟩
          rw [Y2e, cell_of_row w r (lo + j) _ _ _ hh]
          rw [List.getElem?_take] at hv
          split at hv
          · rw [List.getElem?_drop] at hv
            have hlt : lo + j < vs.length := (List.getElem?_eq_some_iff.1 hv).1
            simp only [List.getElem?_toArray]
            rw [List.getElem?_append_left hlt]
            exact hv
          · cases hv
      · cases h
    · cases h
  · cases h
theorem Yif (dp : Nat) {t e : TypeId} (hu : P.underlying t = some (.slice e)) (a : Option Addr) (n c : Nat) : (Op.equalIn (dp + 1) t (.slice a n c) (.slice none 0 0)).run P w = .ok a.isNone w := by
 unfold Op.equalIn
 simp only [Sem.run_bind, run_underlying hu, Result.andThen_ok]
 cases a <;> rfl
theorem Ygg {t e : TypeId} (hu : P.underlying t = some (.slice e)) (a : Option Addr) (n c : Nat) : (Op.equal t (.slice a n c) (.slice none 0 0)).run P w = .ok a.isNone w := by
 unfold Op.equal
 rw [Y56]
 exact Yif 9999 hu a n c
theorem Yg7 (op : BinOp) (t : TypeId) (ox oy : Operand) (a : Option Addr) (n c : Nat) : (eqGuard op t ox oy (.slice a n c) (.slice none 0 0)).run P w = .ok () w := by cases op <;> rfl
theorem Yqj {t e : TypeId} (hu : P.underlying t = some (.slice e)) (ox oy : Operand) (a : Option Addr) (n c : Nat) : (do eqGuard .eql t ox oy (.slice a n c) (.slice none 0 0); binOp .eql t (.slice a n c) (.slice none 0 0) : Sem Value).run P w = .ok (.bool a.isNone) w := by
 simp only [Sem.run_bind, Yg7, Result.andThen_ok]
 show (do pure (Value.bool (← Op.equal t (.slice a n c) (.slice none 0 0))) : Sem Value).run P w = _
 simp only [Sem.run_bind, Ygg hu, Result.andThen_ok, Sem.run_pure]
theorem Yp2 {t e : TypeId} (hu : P.underlying t = some (.slice e)) (ox oy : Operand) (a : Option Addr) (n c : Nat) : (do eqGuard .neq t ox oy (.slice a n c) (.slice none 0 0); binOp .neq t (.slice a n c) (.slice none 0 0) : Sem Value).run P w = .ok (.bool !a.isNone) w := by
 simp only [Sem.run_bind, Yg7, Result.andThen_ok]
 show (do pure (Value.bool (!(← Op.equal t (.slice a n c) (.slice none 0 0)))) : Sem Value).run P w = _
 simp only [Sem.run_bind, Ygg hu, Result.andThen_ok, Sem.run_pure]
theorem Yp0 (R : Rel w0 F G H tk w) {t : TypeId} {i : TI} (ok : TI.Ok P t i) {op : BinOp} {x d : D} {u : Value} {ox oy : Operand} (hx : Rep F G x u) (h : nilD i op H x = some d) :
    Y3m P F G w (do eqGuard op t ox oy u (.slice none 0 0); binOp op t u (.slice none 0 0)) d := by
  unfold nilD at h
  split at h
  · rename_i el sz cs hk hsl
    have hu := (ok.slice hk).1
    split at h
    · rename_i hc
      obtain ⟨a, m, c, vs, rfl, _⟩ := Y5k R hx hsl hc.1 hc.2
      split at h
      · cases h
        exact ⟨_, Yqj hu ox oy (some a) m c, Y1e _ _ _⟩
      · cases h
        exact ⟨_, Yp2 hu ox oy (some a) m c, Y1e _ _ _⟩
      · cases h
    · cases h
  · cases h
theorem Ywr (R : Rel w0 F G H tk w) {t e : TypeId} {i : TI} (ok : TI.Ok P t i) (hk : i.kind = .slice e) {op : BinOp} (ho : op = .eql ∨ op = .neq) {x : D} {u : Value} {ox oy : Operand} (hx : Rep F G x u) (h : Y1y H x = true) :
    ∃ b : Bool, (do eqGuard op t ox oy u (.slice none 0 0); binOp op t u (.slice none 0 0) : Sem Value).run P w = .ok (.bool b) w := by
  have hu := (ok.slice hk).1
  have hu2 : ∃ a n c, u = .slice a n c := by
    unfold Y1y at h
    split at h
    · simp only [Rep] at hx
      obtain ⟨a, len, cap, rfl, _⟩ := hx
      exact ⟨a, len, cap, rfl⟩
    · split at h
      · rename_i bl hbl
        rcases R.own_some hx hbl (by simpa using h) with ⟨⟨a, rfl⟩, _⟩ | ⟨r, size, cap, vs, junk, hG, rfl, _⟩
        · exact ⟨_, _, _, rfl⟩
        · exact ⟨_, _, _, rfl⟩
      · cases h
    · cases h
  obtain ⟨a, n, c, rfl⟩ := hu2
  rcases ho with rfl | rfl
  · exact ⟨_, Yqj hu ox oy a n c⟩
  · exact ⟨_, Yp2 hu ox oy a n c⟩
def Yr9 : Value → Nat
 | .slice _ _ c => c
 | _ => 0
theorem Y7m : maxLen = 9223372036854775807 := rfl
theorem Y6u (R : Rel w0 F G H tk w) {nid : Nat} {p : Pl} (hb : nid ≤ H.length) (hp : G[nid]? = some p) {sp : Nat} (hsp : sp ≤ tk) (hlt : p.g < sp) {w' : World} {e : TypeId} {sz m : Nat} {v' : Value} {all : List Value} {cs : List D} (_hpos : 0 < sz)
    (hown : w'.ownsRow w0.heap.size e sz v' m all) (hm : 0 < m) {row : Option Nat} (hgr : w.grownBy w' row) (hblk : v'.ownBlock = row ∨ v'.ownBlock = some w.heap.size)
    (hrow : row = none ∨ ∃ r s, p.r = some (r, s) ∧ row = some r ∧ ∃ bl, H[nid]? = some (some bl)) (hL : RepL F G cs all) :
    Gs (.put nid ⟨e, sp, cs⟩) G (G.set nid ⟨some ((v'.ownBlock.getD 0), Yr9 v' * sz), sp, false⟩) ∧
    Rel w0 F (G.set nid ⟨some ((v'.ownBlock.getD 0), Yr9 v' * sz), sp, false⟩) (setH H nid ⟨e, sp, cs⟩) tk w' ∧
    Rep F (G.set nid ⟨some ((v'.ownBlock.getD 0), Yr9 v' * sz), sp, false⟩) (.own sz nid (sp) 0 m) v' := by
  have hle := Ghost.le_set (p' := ⟨some ((v'.ownBlock.getD 0), Yr9 v' * sz), sp, false⟩) hp (.inr hlt)
  obtain ⟨hlen, hcase⟩ := hown
  rcases hcase with ⟨_, h0⟩ | ⟨g, cap, cur, rfl, hbg, hh, hmc, hcm, hcur, htake⟩
  · omega
  simp only [Value.ownBlock, Option.getD_some, Yr9] at hle hblk ⊢
  have hroot : ∀ r, row = some r → w0.heap.size ≤ r ∧ ∀ o, F r o = none := fun r hr => by
    rcases hrow with h | ⟨r', s, h1, h2, bl, h3⟩
    · rw [h] at hr; cases hr
    · rw [h2] at hr; cases hr
      obtain ⟨q, hq, hl⟩ := R.own nid bl h3
      rw [hp] at hq; cases hq
      obtain ⟨_, hl⟩ := hl
      rw [h1] at hl
      exact ⟨hl.1, hl.2.1⟩
  have hFg : ∀ o, F g o = none := fun o => by
    rcases hblk with h | h
    · exact (hroot g h.symm).2 o
    · cases h; exact R.mem.none (Nat.le_refl _) o
  refine ⟨Gs.set hp (.inr hlt), ?_, ?_⟩
  · refine R.put (Nat.le_refl _) hsp hb hp (.inr hlt) ⟨hgr.os, hgr.tape, hgr.output, hgr.size, fun k hk => hgr.block k (by have := R.below.size; omega) fun e => ?_⟩ (.refl _) (fun c o x e => ?_) (fun i bi q r s hi hbi hq hrs => ?_) ⟨rfl, ?_⟩
    · have := hroot k e.symm; omega
    · have hlt := R.mem.lt e
      rw [World.cell?_of_block (w := w) (hgr.block c hlt fun e' => by rw [(hroot c e'.symm).2 o] at e; cases e)]
      exact R.mem c o x e
    · obtain ⟨q', hq', hl⟩ := R.own i bi hbi
      rw [hq] at hq'; cases hq'
      obtain ⟨l1, l2⟩ := hl.lt hrs
      have hne : some r ≠ row := fun e => by
        rcases hrow with h | ⟨r', s', h1, h2, bl, h3⟩
        · rw [h] at e; cases e
        · rw [h2] at e; cases e
          exact R.inj i nid bi bl q p _ s _ s' hi hbi h3 hq hp hrs h1 rfl
      refine ⟨hgr.block r l1 hne, ?_, fun r' s' e => ?_⟩
      · obtain ⟨_, h⟩ := hl; rw [hrs] at h; exact h.2.1
      · cases e
        intro e'; subst e'
        rcases hblk with h | h
        · exact hne h
        · cases h; omega
    · have hl := hL.length
      refine ⟨hbg, hFg, all, cur.toList.drop (m * sz), ?_, ?_, RepL.mono (.refl _) (hle _) _ _ hL⟩
      · rw [← htake, List.take_append_drop, Array.toArray_toList]; exact hh
      · rw [hlen, List.length_drop, Array.length_toList, hcur]
        have := Nat.mul_le_mul_right sz hmc
        omega
  · simp only [Rep]
    refine ⟨rfl, _, by rw [List.getElem?_set_self (List.getElem?_eq_some_iff.1 hp).1], Nat.le_refl _, fun _ => ?_⟩
    exact ⟨rfl, cap, rfl, hmc, hcm, by omega⟩
theorem Yul (R : Rel w0 F G H tk w) {t et ty : TypeId} {i e : TI} (ok : TI.Ok P t i) (hd : i.kind = .slice et) (oe : TI.Ok P et e) {nid : Nat} {s x d : D} {wr : Wr} {u v : Value} (hs : Rep F G s u) (hx : Rep F G x v)
    (hb : nid ≤ H.length) {pn : Pl} (hn : G[nid]? = some pn) {sp : Nat} (hput : ∀ b bl, wr = .put b bl → sp ≤ tk ∧ ∀ p, G[b]? = some p → p.g < sp) (h : appD i e et nid sp H s x = some (d, wr)) :
    Does w0 F G H tk ((Builtin.append_ #[t, t] ty #[u, v]).run P w) d wr := by
  obtain ⟨info, z, hi, hsi, hby, hz, hzv⟩ := oe.info
  obtain ⟨hu, _⟩ := ok.slice hd
  have hzs : z.cells.size = e.sz := by rw [← Array.length_toList, hzv, oe.lens.1]
  unfold appD at h
  cases hsl : Y2y H x with
  | none => rw [hsl] at h; cases h
  | some q =>
    obtain ⟨sz', xs⟩ := q
    rw [hsl] at h
    simp only at h
    split at h
    · rename_i hxs
      subst hxs
      split at h
      · cases h
        rename_i hc
        obtain ⟨hpos, hsl2⟩ := hc
        have hv : ∃ b0 c0, v = .slice b0 0 c0 := by
          unfold Y2y at hsl
          split at hsl
          · cases hsl
            simp only [Rep] at hx
            obtain ⟨a, len, cap, rfl, hl, _⟩ := hx
            have : len = 0 := by
              rcases Nat.mul_eq_zero.1 (hl.trans (by simp)) with h | h <;> omega
            subst this
            exact ⟨a, cap, rfl⟩
          · rename_i sz b g lo n
            split at hsl
            · rename_i bl hbl
              split at hsl
              · rename_i hcc
                obtain ⟨e1, e2⟩ := Prod.mk.inj (Option.some.inj hsl)
                have hl0 := congrArg List.length e2
                simp at hl0
                have hn0 : n = 0 := by
                  subst e1
                  have : n * sz = 0 := by omega
                  rcases Nat.mul_eq_zero.1 this with h | h <;> omega
                subst hn0
                rcases R.own_some hx hbl hcc.1 with ⟨⟨a, rfl⟩, _⟩ | ⟨r, size, cap, vs, junk, hG, rfl, _⟩
                · exact ⟨_, _, rfl⟩
                · exact ⟨_, _, rfl⟩
              · cases hsl
            · cases hsl
          · cases hsl
        obtain ⟨b0, c0, rfl⟩ := hv
        have hu2 : ∃ a1 n1 c1, u = .slice a1 n1 c1 ∧ n1 ≤ c1 := by
          unfold Y1y at hsl2
          split at hsl2
          · simp only [Rep] at hs
            obtain ⟨a, len, cap, rfl, _, hl, _⟩ := hs
            exact ⟨a, len, cap, rfl, hl⟩
          · rename_i sz b g lo n
            split at hsl2
            · rename_i bl hbl
              rcases R.own_some hs hbl (by simpa using hsl2) with ⟨⟨a, rfl⟩, _⟩ | ⟨r, size, cap, vs, junk, hG, rfl, hcap, _⟩
              · exact ⟨_, _, _, rfl, Nat.le_refl _⟩
              · exact ⟨_, _, _, rfl, hcap⟩
            · cases hsl2
          · cases hsl2
        obtain ⟨a1, n1, c1, rfl, hle⟩ := hu2
        refine Does.of_gives R ⟨.slice a1 n1 c1, ?_, hs⟩
        cases b0 <;> cases a1 <;> simp [Builtin.append_, run_underlying hu, sizeOf, typeInfo, hi, Builtin.lenOf, hle, Builtin.firstCells, loadCells, loadCellsFrom, storeCells]
      · cases h
    rename_i hxs
    by_cases hc : sz' = e.sz ∧ 0 < e.sz ∧ xs.all Y26 = true
    rotate_left
    · rw [if_neg hc] at h; cases h
    rw [if_pos hc] at h
    obtain ⟨rfl, hpos, hone⟩ := hc
    obtain ⟨a, m, c, vs, rfl, hm, hcells, hL⟩ := Y5k R hx hsl hpos hxs
    have hvl : vs.length = m * e.sz := by rw [hL.length, hm]
    have hone' : ∀ y ∈ vs, y.oneCell' = true := hL.oneCell hone
    have hm0 : 0 < m := by
      rcases Nat.eq_zero_or_pos m with h0 | h0
      · subst h0; simp at hm; exact absurd (List.eq_nil_of_length_eq_zero hm.symm) hxs
      · exact h0
    have hmd : xs.length / e.sz = m := by rw [← hm, Nat.mul_div_cancel _ hpos]
    have hle1 : m ≤ xs.length := by rw [← hm]; exact Nat.le_mul_of_pos_right _ hpos
    have fresh : ∀ (nid : Nat) (pn : Pl) (hb : nid ≤ H.length) (hn : G[nid]? = some pn) (hsp : sp ≤ tk) (hlt : pn.g < sp) (n cap : Nat) (a0 : Option Addr) (olds : List Value) (cs : List D), u = .slice a0 n cap → cap = n → (∀ b, a0 = some b → ∀ j y, olds[j]? = some y → w.cell? (b.add j) = some y) → (a0 = none → n = 0) → RepL F G cs olds → n * e.sz = cs.length →
        (cs.length + xs.length) * e.bytes ≤ 140737488355328 → cs.length + xs.length ≤ 4611686018427387903 →
        Does w0 F G H tk ((Builtin.append_ #[t, t] ty #[u, .slice (some a) m c]).run P w) (.own e.sz nid (sp) 0 ((cs.length + xs.length) / e.sz)) (.put nid ⟨et, sp, cs ++ xs⟩) := fun nid pn hb hn hsp hlt n cap a0 olds cs hu' hcap hold hnil hLo hn0 hby1 hbig => by
      have hnle : n ≤ cs.length := by rw [← hn0]; exact Nat.le_mul_of_pos_right _ hpos
      have hb1 : (n + m) * info.bytes ≤ 140737488355328 := by
        rw [hby]
        exact Nat.le_trans (Nat.mul_le_mul_right _ (by omega)) hby1
      have hge := grownCap_ge w (n + m) cap et
      have hgm := grownCap_le_maxLen w (n + m) cap et (by rw [Y7m]; omega)
      have hrun : (Builtin.append_ #[t, t] ty #[u, .slice (some a) m c]).run P w = .ok (.slice (some ⟨w.heap.size, 0, none⟩) (n + m) (grownCap w (n + m) cap et)) (w.drew.alloc (.cells (olds.toArray ++ vs.toArray ++ Builtin.zeroCells z.cells (grownCap w (n + m) cap et - (n + m))) et)) := by
        subst hu'
        cases a0 with
        | none =>
          have h0 := hnil rfl
          subst h0
          have ho : olds = [] := List.eq_nil_of_length_eq_zero (by rw [hLo.length, ← hn0]; simp)
          subst ho; subst hcap
          have := run_append_nil (P := P) w t ty et info z hu hi hz a m c vs (by rw [hsi]; exact hvl) hcells hm0 (by omega) (by simp only [Nat.zero_add] at hb1; omega)
          simpa using this
        | some b => exact run_append_grow (P := P) w t ty et info z hu hi hz b n cap olds (by rw [hLo.length, hsi, hn0]) (hold b rfl) a m c vs (by rw [hsi]; exact hvl) hcells (by omega) (by omega) (growslice_fits (by omega) hb1)
      have hown : (w.drew.alloc (.cells (olds.toArray ++ vs.toArray ++ Builtin.zeroCells z.cells (grownCap w (n + m) cap et - (n + m))) et)).ownsRow w0.heap.size et e.sz (.slice (some ⟨w.heap.size, 0, none⟩) (n + m) (grownCap w (n + m) cap et)) (n + m) (olds ++ vs) := by
        have hlo : olds.length = n * e.sz := by rw [hLo.length, hn0]
        refine ⟨by rw [List.length_append, hlo, hvl, Nat.add_mul], .inr ⟨w.heap.size, _, _, rfl, R.below.size, heap_alloc_new w.drew _, hge, hgm, ?_, ?_⟩⟩
        · simp only [Array.size_append, List.size_toArray, size_zeroCells, hzs, hlo, hvl, ← Nat.add_mul]
          congr 1
          omega
        · simp only [Array.toList_append, List.append_assoc]
          rw [← List.append_assoc]
          have : (n + m) * e.sz = (olds ++ vs).length := by rw [List.length_append, hlo, hvl, Nat.add_mul]
          rw [this]
          exact List.take_left
      have hlen : cs.length + xs.length = (n + m) * e.sz := by rw [Nat.add_mul, hn0, hm]
      obtain ⟨k1, k2, k3⟩ := Y6u (cs := cs ++ xs) R hb hn hsp hlt hpos hown (by omega) (row := none) ⟨rfl, rfl, rfl, by simp, fun k hk _ => heap_alloc_old w.drew _ hk⟩ (.inr rfl) (.inl rfl) (hLo.append hL)
      refine ⟨_, F, _, _, hrun, .refl _, fun _ _ _ => rfl, k1, k2, ?_⟩
      have e1 : D.own e.sz nid (sp) 0 ((cs.length + xs.length) / e.sz) = D.own e.sz nid (sp) 0 (n + m) := by rw [hlen, Nat.mul_div_cancel _ hpos]
      rw [e1]
      exact k3
    split at h
    · rename_i sz cs
      split at h
      · rename_i hbig
        simp only [Rep] at hs
        obtain ⟨a0, n, cap, hu', hl, hlc, hfull, hcs⟩ := hs
        have hcap := hfull trivial
        obtain ⟨hsz0, hby1, hbig⟩ := hbig
        split at h
        · rename_i hcs0
          subst hcs0
          cases h
          have hn0 : n = 0 := by
            rcases Nat.mul_eq_zero.1 (hl.trans (by simp)) with h | h <;> omega
          subst hn0
          obtain ⟨hsp, hlt⟩ := hput _ _ rfl
          have := fresh nid pn hb hn hsp (hlt _ hn) 0 cap a0 [] [] hu' hcap (fun b hb j y hy => by simp at hy) (fun _ => rfl) (by simp [RepL]) (by simp) hby1 hbig
          simpa using this
        · rename_i hcs0
          split at h
          · rename_i hsz
            subst hsz
            cases h
            obtain ⟨blk, off, vs0, rfl, hF, hL0⟩ := hcs.resolve_left hcs0
            obtain ⟨hsp, hlt⟩ := hput _ _ rfl
            exact fresh nid pn hb hn hsp (hlt _ hn) n cap _ vs0 cs hu' hcap (fun b hb j y hy => by cases hb; rw [Y2e]; exact R.mem _ _ _ (hF j y hy)) (fun e => by cases e) hL0 hl hby1 hbig
          · cases h
      · cases h
    · rename_i sz b g lo n
      split at h
      · rename_i bl hbl
        split at h
        · rename_i hc
          obtain ⟨hg, rfl, hn0, rfl, hty, hby1, hbig⟩ := hc
          cases h
          have hnle : n ≤ bl.cells.length := by rw [← hn0]; exact Nat.le_mul_of_pos_right _ hpos
          have hb1 : (n + m) * e.bytes ≤ 140737488355328 := Nat.le_trans (Nat.mul_le_mul_right _ (by omega)) hby1
          obtain ⟨p, hp, hlies⟩ := R.own b bl hbl
          have hbH : b ≤ H.length := Nat.le_of_lt (List.getElem?_eq_some_iff.1 hbl).1
          have hlen : (bl.cells ++ xs).length = (n + m) * e.sz := by rw [List.length_append, Nat.add_mul, hn0, hm]
          obtain ⟨hsp, hlt⟩ := hput _ _ rfl
          have fin : ∀ (vs0 : List Value) (row : Option Nat), u.ownBlock = row → w.ownsRow w0.heap.size et e.sz u n vs0 → RepL F G bl.cells vs0 → (row = none ∨ ∃ r s, p.r = some (r, s) ∧ row = some r ∧ ∃ bl, H[b]? = some (some bl)) →
              Does w0 F G H tk ((Builtin.append_ #[t, t] ty #[u, .slice (some a) m c]).run P w) (.own e.sz b (sp) 0 (n + xs.length / e.sz)) (.put b ⟨et, sp, bl.cells ++ xs⟩) := fun vs0 row hrow hown hL0 hr => by
            obtain ⟨v', w', h1, h2, h3, h4, h5⟩ := run_append_own_at (P := P) w w0.heap.size t ty et info z e.sz e.bytes hu hi hz hsi hby hzs hpos u n vs0 hown a m c vs hvl hcells hone' (by rw [Y7m]; omega) hb1 R.below.size
            rw [hrow] at h3 h5
            obtain ⟨k1, k2, k3⟩ := Y6u (cs := bl.cells ++ xs) R hbH hp hsp (hlt _ hp) hpos h2 (by omega) h3 h5 hr (hL0.append hL)
            refine ⟨v', F, _, w', h1, .refl _, fun _ _ _ => rfl, k1, k2, ?_⟩
            rw [hmd]
            exact k3
          rcases R.own_some hs hbl hg with ⟨⟨a0, hu0⟩, rfl, _, hnil, hG⟩ | ⟨r, size, cap, vs0, junk, hG, rfl, hcap, hcm, hsz, hbr, hh, hlv, hL0⟩
          · have := fresh b p hbH hp hsp (hlt _ hp) 0 0 a0 [] [] hu0 rfl (fun b hb j y hy => by simp at hy) (fun _ => rfl) (by simp [RepL]) (by simp) (by rw [hnil] at hby1; exact hby1) (by rw [hnil] at hbig; exact hbig)
            rw [hnil]
            simpa using this
          · refine fin vs0 (some r) rfl ⟨by rw [hL0.length, hn0], .inr ⟨r, cap, _, rfl, hbr, by rw [← hty]; exact hh, hcap, hcm, ?_, ?_⟩⟩ hL0 (.inr ⟨r, size, ?_, rfl, bl, hbl⟩)
            · simp; omega
            · rw [hn0, ← hL0.length]; simp
            · rw [hp] at hG; cases hG; rfl
        · split at h
          · rename_i hc
            obtain ⟨hg, rfl, rfl, he1, hty, hroom⟩ := hc
            cases h
            subst hg
            rw [he1, Nat.mul_one] at hvl
            rw [he1, Nat.mul_one] at hm
            rcases R.own_some hs hbl rfl with ⟨_, _, _, hnil, _⟩ | ⟨r, size, cap, vs0, junk, hG, rfl, hcap, hcm, hsz, hbr, hh, hlv, hL0⟩
            · rw [hnil] at hroom
              simp at hroom
              exact absurd hroom.2 hxs
            have hv0 : vs0.length = bl.cells.length := hL0.length
            have hst := run_storeCells_at P r n et vs 0 (vs0 ++ junk).toArray w (by rw [← hty]; exact hh) (by simp; omega) hone'
            simp only [Nat.add_zero] at hst
            have hf := run_firstCells_some (P := P) w 1 m a m c vs (by omega) hcells
            rw [he1] at hsi
            have hrun : (Builtin.append_ #[t, t] ty #[.slice (some ⟨r, 0, none⟩) n cap, .slice (some a) m c]).run P w = .ok (.slice (some ⟨r, 0, none⟩) (n + m) cap) (w.setRow r ((vs0 ++ junk).toArray.toList.take n ++ vs ++ (vs0 ++ junk).toArray.toList.drop (n + vs.length)).toArray) := by
              have hroom' : n + m ≤ cap := by omega
              simp [Builtin.append_, run_underlying hu, sizeOf, typeInfo, hi, hsi, Builtin.lenOf, hroom', hf, Addr.add_lit]
              simp at hst
              simp [hst]
            have hrow : (vs0 ++ junk).toArray.toList.take n ++ vs ++ (vs0 ++ junk).toArray.toList.drop (n + vs.length) = (vs0.take n ++ vs ++ vs0.drop (n + vs.length)) ++ junk := by
              simp only
              rw [List.take_append_of_le_length (by omega), List.drop_append_of_le_length (by omega)]
              simp
            rw [hrow] at hrun
            have hrep : RepL F G (bl.cells.take n ++ xs ++ bl.cells.drop (n + xs.length)) (vs0.take n ++ vs ++ vs0.drop (n + vs.length)) := by
              have e2 : n + xs.length = n + vs.length := by omega
              rw [e2]
              exact ((hL0.take n).append hL).append (hL0.drop _)
            refine ⟨_, F, G, _, hrun, .refl _, fun _ _ _ => rfl, .refl _ _, R.setRow hbl hG rfl rfl (by simp only [List.length_append, List.length_take, List.length_drop]; omega) hrep, ?_⟩
            simp only [Rep]
            refine ⟨rfl, _, hG, Nat.le_refl _, fun _ => ?_⟩
            exact ⟨rfl, cap, by rw [show xs.length = m by omega], by omega, hcm, hsz⟩
          · cases h
      · cases h
    · cases h
theorem Yqv (R : Rel w0 F G H tk w) {t t' et ty : TypeId} {i e : TI} (ok : TI.Ok P t i) (hd : i.kind = .slice et) (oe : TI.Ok P et e) {s x d : D} {wr : Wr} {u v : Value} (hs : Rep F G s u) (hx : Rep F G x v)
    (h : Ybh e H s x = some (d, wr)) : Does w0 F G H tk ((Builtin.copy_ #[t, t'] ty #[u, v]).run P w) d wr := by
  obtain ⟨info, z, hi, hsi, _⟩ := oe.info
  obtain ⟨hu, _⟩ := ok.slice hd
  unfold Ybh at h
  split at h
  · rename_i sz b g lo n sz' xs hsl
    split at h
    · rename_i bl hb
      split at h
      · rename_i hc
        obtain ⟨hg, hz1, hz2, hpos, hn0, hne, hall, hle⟩ := hc
        cases h
        subst hz1
        subst hz2
        obtain ⟨a, m, c, us, rfl, hm, hcells, hL⟩ := Y5k R hx hsl hpos hne
        rcases R.own_some hs hb hg with ⟨_, rfl, _⟩ | ⟨r, size, cap, vs, junk, hG, rfl, hcap, hcm, hsz, hbr, hh, hlv, hL0⟩
        · omega
        · have hmd : xs.length / e.sz = m := by rw [← hm]; exact Nat.mul_div_cancel _ hpos
          rw [hmd]
          let k := min m n * e.sz
          have hk1 : k ≤ xs.length := by rw [← hm]; exact Nat.mul_le_mul_right _ (Nat.min_le_left _ _)
          have hk2 : k ≤ n * e.sz := Nat.mul_le_mul_right _ (Nat.min_le_right _ _)
          have hvl : vs.length = bl.cells.length := hL0.length
          have hul : us.length = xs.length := hL.length
          have htl : (us.take k).length = k := by simp; omega
          have hone' : ∀ y ∈ us.take k, y.oneCell' = true := fun y hy => hL.oneCell hall y (List.mem_of_mem_take hy)
          have hl := run_loadCells_list (P := P) w a (us.take k) fun j y hy => hcells j y (by
            rw [List.getElem?_take] at hy
            split at hy
            · exact hy
            · cases hy)
          rw [htl] at hl
          have hst := run_storeCells_at (P := P) r lo bl.ty (us.take k) 0 _ w hh (by simp; omega) hone'
          have hrow : ((vs ++ junk).toArray.toList.take (lo + 0) ++ us.take k ++ (vs ++ junk).toArray.toList.drop (lo + 0 + (us.take k).length)) = (vs.take lo ++ us.take k ++ vs.drop (lo + k)) ++ junk := by
            rw [htl]
            simp only [Nat.add_zero, List.append_assoc]
            rw [List.take_append_of_le_length (by omega), List.drop_append_of_le_length (by omega)]
          rw [hrow] at hst
          have hp : ∃ p, G[b]? = some p ∧ p.r = some (r, size) ∧ p.m = false := ⟨_, hG, rfl, rfl⟩
          obtain ⟨p, hp, hpr, hpm⟩ := hp
          refine ⟨_, F, G, w.setRow r ((vs.take lo ++ us.take k ++ vs.drop (lo + k)) ++ junk).toArray, ?_, .refl _, fun _ _ _ => rfl, ⟨.refl _ _, fun _ _ => rfl⟩, ?_, Y1e _ _ _⟩
          · have hmin : Nat.min m n * info.size = k := by rw [hsi]
            simp [Builtin.copy_, run_underlying hu, Builtin.lenOf, Builtin.firstCells, sizeOf, typeInfo, hi, hmin, hl, hst, goInt]
          · refine R.setRow hb hp hpr hpm (by simp; omega) ?_
            exact ((hL0.take lo).append (hL.take k)).append (hL0.drop _)
      · cases h
    · cases h
  · cases h
end
section
variable {P : Program} {w0 : World} {F : Mem} {G : Ghost} {H : Hp} {tk : Nat} {w : World}
def RepO (F : Mem) (G : Ghost) : Option D → Option Value → Prop
 | none, none => True
 | some d, some u => Rep F G d u
 | _, _ => False
theorem Y23 {d : Option D} {u : Option Value} {r : Option Nat} (h : RepO F G d u) (hb : Y52 d = some r) : (r = none ∧ u = none) ∨ ∃ k n, r = some n ∧ u = some (.int k (n : Int)) := by
 unfold Y52 at hb
 split at hb
 ·cases hb
  cases u with
  | none => exact .inl ⟨rfl, rfl⟩
  | some u => exact h.elim
 ·rename_i k n
  split at hb
  ·cases hb
   cases u with
   | none => exact h.elim
   | some u =>
    simp only [RepO, Rep] at h
    subst h
    rename_i hn
    exact .inr ⟨k, n.toNat, rfl, by rw [Int.toNat_of_nonneg hn]⟩
  ·cases hb
 ·cases hb
theorem Yo0 {t e : TypeId} (hu : P.underlying t = some (.slice e)) {info : TypeInfo} (hi : P.info? e = some info) (a : Option Addr) (len cap : Nat) {lo hi' mx : Option Value} {l h m : Nat}
    (hl : (l = 0 ∧ lo = none) ∨ ∃ k, lo = some (.int k (l : Int))) (hh : (h = len ∧ hi' = none ∧ mx = none) ∨ ∃ k, hi' = some (.int k (h : Int))) (hm : (m = cap ∧ mx = none) ∨ ∃ k, mx = some (.int k (m : Int)))
    (h1 : l ≤ h) (h2 : h ≤ m) (h3 : m ≤ cap) :
    (Instr.sliceAt t (.slice a len cap) lo hi' mx).run P w = .ok (.slice (if m = l then a else a.map (·.add (l * info.size))) (h - l) (m - l)) w := by
  have b1 : (l : Int) ≤ h := by omega
  have b2 : (h : Int) ≤ m := by omega
  have b3 : (m : Int) ≤ cap := by omega
  have b0 : ∀ x : Nat, (0 : Int) ≤ x := fun x => by omega
  rcases hl with ⟨rfl, rfl⟩ | ⟨kl, rfl⟩ <;> rcases hm with ⟨rfl, rfl⟩ | ⟨km, rfl⟩ <;> rcases hh with ⟨rfl, rfl, hx⟩ | ⟨kh, rfl⟩ <;>
    first
    | (cases hx; done)
    | simp [Instr.sliceAt, Instr.slice, run_underlying hu, Instr.sliceBounds, Instr.sliceBound, asIntOf, sizeOf, typeInfo, hi, h1, h2, h3]
theorem Yh8 (R : Rel w0 F G H tk w) {t e : TypeId} {i : TI} (ok : TI.Ok P t i) (hd : i.kind = .slice e) {x d : D} {lo hi mx : Option D} {u : Value} {lv hv mv : Option Value} (hx : Rep F G x u) (hlo : RepO F G lo lv) (hhi : RepO F G hi hv) (hmx : RepO F G mx mv)
    (h : Y7c i H x lo hi mx = some d) : Y3m P F G w (Instr.sliceAt t u lv hv mv) d := by
  obtain ⟨hu, info, hinf, hs, hpos⟩ := ok.slice hd
  unfold Y7c at h
  split at h
  · rename_i l h' m sz cs full el eh em
    split at h
    · rename_i hc
      obtain ⟨rfl, _⟩ := hc
      simp only [Rep] at hx
      obtain ⟨a, len, cap, rfl, hl, hlc, hfull, hcs⟩ := hx
      have mk : ∀ (l h m : Nat) (full' : Bool), l ≤ h → h ≤ m → m ≤ cap → h ≤ len → (full' = true → m = h) → ((l = 0 ∧ lv = none) ∨ ∃ k, lv = some (.int k (l : Int))) → ((h = len ∧ hv = none ∧ mv = none) ∨ ∃ k, hv = some (.int k (h : Int))) → ((m = cap ∧ mv = none) ∨ ∃ k, mv = some (.int k (m : Int))) →
          Y3m P F G w (Instr.sliceAt t (.slice a len cap) lv hv mv) (.sl i.esz ((cs.drop (l * i.esz)).take ((h - l) * i.esz)) full') := fun l h m full' h1 h2 h3 h4 h5 e1 e2 e3 => by
        refine ⟨_, Yo0 (w := w) hu hinf a len cap e1 e2 e3 h1 h2 h3, ?_⟩
        simp only [Rep]
        have hmul : l * i.esz + (h - l) * i.esz ≤ cs.length := by
          rw [← Nat.add_mul, ← hl]
          exact Nat.mul_le_mul_right _ (by omega)
        refine ⟨_, h - l, m - l, rfl, ?_, by omega, fun e => by have := h5 e; omega, ?_⟩
        · rw [List.length_take, List.length_drop, Nat.min_eq_left (by omega)]
        · by_cases hz : h - l = 0
          · left; rw [hz]; simp
          · right
            have hlen : 0 < len := by omega
            have hne : cs ≠ [] := fun e => by
              subst e
              have := Nat.mul_pos hlen hpos
              simp only [List.length_nil] at hl
              omega
            obtain ⟨blk, off, vs, rfl, hF, hL⟩ := hcs.resolve_left hne
            refine ⟨blk, off + l * i.esz, (vs.drop (l * i.esz)).take ((h - l) * i.esz), ?_, fun j y hy => ?_, (hL.drop _).take _⟩
            · rw [if_neg (by omega), hs]
              simp [Y2e]
            · rw [List.getElem?_take] at hy
              split at hy
              · rw [List.getElem?_drop] at hy
                have := hF _ _ hy
                rwa [Nat.add_assoc]
              · cases hy
      have hdiv : ∀ q, q * i.esz ≤ cs.length → q ≤ len := fun q hq => by
        rw [← hl] at hq
        exact Nat.le_of_mul_le_mul_right hq hpos
      have lcase : (l.getD 0 = 0 ∧ lv = none) ∨ ∃ k, lv = some (.int k ((l.getD 0 : Nat) : Int)) := by
        rcases Y23 hlo el with ⟨rfl, rfl⟩ | ⟨k, n, rfl, rfl⟩
        · exact .inl ⟨rfl, rfl⟩
        · exact .inr ⟨k, rfl⟩
      rcases Y23 hhi eh with ⟨rfl, rfl⟩ | ⟨kh, h0, rfl, rfl⟩ <;> rcases Y23 hmx em with ⟨rfl, rfl⟩ | ⟨km, m0, rfl, rfl⟩ <;> simp only at h
      · split at h
        · cases h
          rename_i hle
          have hll := hdiv _ hle
          have := mk (l.getD 0) len cap full hll hlc (Nat.le_refl _) (Nat.le_refl _) (fun e => hfull e) lcase (.inl ⟨rfl, rfl, rfl⟩) (.inl ⟨rfl, rfl⟩)
          have e1 : (cs.drop (l.getD 0 * i.esz)).take ((len - l.getD 0) * i.esz) = cs.drop (l.getD 0 * i.esz) := by
            apply List.take_of_length_le
            rw [List.length_drop, ← hl, Nat.sub_mul]
            exact Nat.le_refl _
          rw [e1] at this
          exact this
        · cases h
      · cases h
      · split at h
        · cases h
          rename_i hle
          have hll := hdiv _ hle.2
          exact mk (l.getD 0) h0 cap false hle.1 (by omega) (Nat.le_refl _) hll (fun e => by cases e) lcase (.inr ⟨kh, rfl⟩) (.inl ⟨rfl, rfl⟩)
        · cases h
      · split at h
        · cases h
          rename_i hle
          have hll := hdiv _ hle.2.2
          exact mk (l.getD 0) h0 m0 (h0 == m0) hle.1 hle.2.1 (by omega) (by omega) (fun e => (by simpa using e : h0 = m0).symm) lcase (.inr ⟨kh, rfl⟩) (.inr ⟨km, rfl⟩)
        · cases h
    · cases h
  · rename_i l h' sz b g lo0 n el eh em
    split at h
    · rename_i bl hbl
      split at h
      · rename_i hc
        obtain ⟨hg, rfl⟩ := hc
        simp only at h
        split at h
        · cases h
          rename_i hc
          obtain ⟨h1, h2⟩ := hc
          rcases Y23 hmx em with ⟨_, rfl⟩ | ⟨km, m0, e, _⟩
          · rcases R.own_some hx hbl hg with ⟨_, rfl, _⟩ | ⟨r, size, cap, vs, junk, hG, rfl, hcap, hcm, hsz, _⟩
            · omega
            have lcase : (l.getD 0 = 0 ∧ lv = none) ∨ ∃ k, lv = some (.int k ((l.getD 0 : Nat) : Int)) := by
              rcases Y23 hlo el with ⟨rfl, rfl⟩ | ⟨k, n, rfl, rfl⟩
              · exact .inl ⟨rfl, rfl⟩
              · exact .inr ⟨k, rfl⟩
            have hcase : (h'.getD n = n ∧ hv = none ∧ (none : Option Value) = none) ∨ ∃ k, hv = some (.int k ((h'.getD n : Nat) : Int)) := by
              rcases Y23 hhi eh with ⟨rfl, rfl⟩ | ⟨k, n, rfl, rfl⟩
              · exact .inl ⟨rfl, rfl, rfl⟩
              · exact .inr ⟨k, rfl⟩
            refine ⟨_, Yo0 (w := w) hu hinf (some ⟨r, lo0, none⟩) n cap lcase hcase (.inl ⟨rfl, rfl⟩) (by omega) (by omega) (Nat.le_refl _), ?_⟩
            simp only [Rep]
            rw [if_neg (by omega), hs]
            simp only [Option.map_some, Y2e]
            refine ⟨rfl, _, hG, Nat.le_refl _, fun _ => ?_⟩
            refine ⟨rfl, cap - l.getD 0, rfl, by omega, by omega, ?_⟩
            rw [← hsz, Nat.add_assoc, ← Nat.add_mul]
            congr 2; omega
          · cases e
        · split at h
          · cases h
            rename_i hc
            obtain ⟨h1, h2⟩ := hc
            rcases Y23 hmx em with ⟨_, rfl⟩ | ⟨km, m0, e, _⟩
            · have lcase : (l.getD 0 = 0 ∧ lv = none) ∨ ∃ k, lv = some (.int k ((l.getD 0 : Nat) : Int)) := by
                rcases Y23 hlo el with ⟨rfl, rfl⟩ | ⟨k, n, rfl, rfl⟩
                · exact .inl ⟨rfl, rfl⟩
                · exact .inr ⟨k, rfl⟩
              have hcase : (h'.getD n = n ∧ hv = none ∧ (none : Option Value) = none) ∨ ∃ k, hv = some (.int k ((h'.getD n : Nat) : Int)) := by
                rcases Y23 hhi eh with ⟨rfl, rfl⟩ | ⟨k, n, rfl, rfl⟩
                · exact .inl ⟨rfl, rfl, rfl⟩
                · exact .inr ⟨k, rfl⟩
              have fin : ∀ a cap, n ≤ cap → u = .slice a n cap → Y3m P F G w (Instr.sliceAt t u lv hv none) (.sl i.esz [] false) := fun a cap hcap e => by
                subst e
                refine ⟨_, Yo0 (w := w) hu hinf a n cap lcase hcase (.inl ⟨rfl, rfl⟩) (by omega) (by omega) (Nat.le_refl _), ?_⟩
                simp only [Rep]
                exact ⟨_, _, _, rfl, (by rw [h1]; simp), (by omega), (fun e => by cases e), .inl trivial⟩
              rcases R.own_some hx hbl hg with ⟨⟨a, hua⟩, hn0, _⟩ | ⟨r, size, cap, vs, junk, hG, hua, hcap, _⟩
              · subst hn0; exact fin a 0 (Nat.le_refl _) hua
              · exact fin _ cap hcap hua
            · cases e
          · cases h
      · cases h
    · cases h
  · cases h
theorem Ype (R : Rel w0 F G H tk w) {t et : TypeId} {i e : TI} (ok : TI.Ok P t i) (hd : i.kind = .slice et) (oe : TI.Ok P et e) {nid : Nat} {l c d : D} {wr : Wr} {u v : Value} (hl : Rep F G l u) (hc : Rep F G c v)
    (hb : nid ≤ H.length) {pn : Pl} (hnn : G[nid]? = some pn) {sp : Nat} (hput : ∀ b bl, wr = .put b bl → sp ≤ tk ∧ ∀ p, G[b]? = some p → p.g < sp) (h : Ypf e et nid sp l c = some (d, wr)) : Does w0 F G H tk ((Instr.makeSlice t u v).run P w) d wr := by
  obtain ⟨info, z, hi, hsi, hby, hz, hzv⟩ := oe.info
  obtain ⟨hu, _⟩ := ok.slice hd
  have hzs : z.cells.size = e.sz := by rw [← Array.length_toList, hzv, oe.lens.1]
  unfold Ypf at h
  split at h
  · rename_i k n k' m
    have go : 0 ≤ n → n ≤ m → m * e.bytes ≤ 140737488355328 → m ≤ 4611686018427387903 → 0 < e.sz → (D.own e.sz nid sp 0 n.toNat, Wr.put nid ⟨et, sp, (List.replicate m.toNat e.zero).flatten⟩) = (d, wr) → Does w0 F G H tk ((Instr.makeSlice t u v).run P w) d wr := fun h0 hnm h1 h2 hpos h => by
      cases h
      simp only [Rep] at hl hc
      subst hl; subst hc
      have hbi : (info.bytes : Int) * m ≤ 281474976710656 := by rw [hby, Int.mul_comm]; omega
      have hrun := run_make (P := P) w t et info z hu hi hz k k' n m h0 hnm hbi (by omega)
      have hcells : (madeCells z.cells (m.toNat * info.size)).toList = (List.replicate m.toNat e.zv).flatten := by
        rw [hsi, ← hzs, ← hzv]
        exact Ycu z.cells (by omega) m.toNat
      rw [← Array.toArray_toList (xs := madeCells z.cells (m.toNat * info.size)), hcells] at hrun
      rw [hrun]
      have hL := Y8p (oe.zero_L F G) m.toNat
      have hlen : (List.replicate m.toNat e.zv).flatten.length = m.toNat * e.sz := by rw [Y71, oe.lens.1]
      have hlen' : (List.replicate m.toNat e.zero).flatten.length = m.toNat * e.sz := by rw [← hlen, hL.length]
      obtain ⟨hsp, hlt⟩ := hput _ _ rfl
      refine ⟨_, F, _, _, rfl, .refl _, fun _ _ _ => rfl, Gs.set hnn (.inr (hlt _ hnn)), R.new (Nat.le_refl _) hsp hb hnn (hlt _ hnn) hL, ?_⟩
      simp only [Rep]
      refine ⟨rfl, _, by rw [List.getElem?_set_self (List.getElem?_eq_some_iff.1 hnn).1], Nat.le_refl _, fun _ => ?_⟩
      exact ⟨rfl, m.toNat, rfl, by omega, by rw [Y7m]; omega, by rw [hlen]; omega⟩
    split at h
    · rename_i hcc
      obtain ⟨rfl, h0, h1, h2, hpos⟩ := hcc
      exact go h0 (Int.le_refl _) h1 h2 hpos (Option.some.inj h)
    · split at h
      · rename_i hcc
        obtain ⟨h0, hnm, h1, h2, hpos⟩ := hcc
        exact go h0 hnm h1 h2 hpos (Option.some.inj h)
      · cases h
  · cases h
theorem Yi0 {d : TypeDesc} {kd : TK} (hd : Y33 d = kd) {k k' : Value} {b : Bool} (hk : Ydr kd k = true) (h : Y93 k k' = some b) : Instr.sameNow d k k' = some b := by
 unfold Ydr at hk
 split at hk
 ·cases d <;> simp [Y33] at hd
  cases k' <;> simp [Y93] at h
  subst h
  simp [Instr.sameNow, Yd6]
 ·cases d <;> simp [Y33] at hd
  cases k' <;> simp [Y93] at h
  obtain ⟨rfl, rfl⟩ := h
  simp [Instr.sameNow]
 ·cases hk
theorem Yv9 {d : TypeDesc} {kd : TK} (hd : Y33 d = kd) {k : Value} (hk : Ydr kd k = true) : MapKept.IsKey d k := by
 unfold Ydr at hk
 split at hk
 ·cases d <;> simp [Y33] at hd
  trivial
 ·cases d <;> simp [Y33] at hd
  subst hd
  simpa [MapKept.IsKey] using hk
 ·cases hk
theorem Yzg {k k' : Value} (h : Y93 k k' = some true) : k' = k := by
 unfold Y93 at h
 split at h
 ·simp at h; rw [h]
 ·split at h
  ·rename_i hk; subst hk; simp at h; rw [h]
  ·cases h
 ·cases h
theorem Yt5 {k k' : Value} (h : Y93 k k' = some true) (n : Nat) : Instr.sameBits n k k = true := by
 unfold Y93 at h
 split at h
 ·unfold Instr.sameBits; simp [Yd6]
 ·unfold Instr.sameBits; simp
 ·cases h
theorem Ye4 {d : TypeDesc} {kd : TK} (hd : Y33 d = kd) {k : Value} (hk : Ydr kd k = true) (x' : Value) : ∀ (ds : List D) (l : List MapEntry) (i : Nat) (r : Option Value), RepM ds l → Yah k ds = some r →
    (r = none ∧ Instr.findNow d k l i = some none ∧ ∀ born, RepM (mput k x' ds) (l ++ [⟨k, x', born⟩])) ∨
    ∃ j e, r = some e.val ∧ Instr.findNow d k l i = some (some (i + j, e.val)) ∧ l[j]? = some e ∧ e.key = k ∧ Instr.sameBits 10000 k k = true ∧ RepM (mput k x' ds) (l.set j ⟨k, x', e.born⟩)
  | [], l, i, r, hr, h => by
    simp only [RepM] at hr; subst hr
    simp only [Yah] at h; cases h
    exact .inl ⟨rfl, rfl, fun born => by simp only [mput, List.nil_append, RepM]; exact ⟨_, _, rfl, rfl, rfl, rfl⟩⟩
  | .v k0 :: .v y :: ds, l, i, r, hr, h => by
    simp only [RepM] at hr
    obtain ⟨e, es, rfl, rfl, rfl, hr⟩ := hr
    simp only [Yah] at h
    split at h
    · rename_i hq
      cases h
      refine .inr ⟨0, e, rfl, by simp [Instr.findNow, Yi0 hd hk hq], rfl, Yzg hq, Yt5 hq _, ?_⟩
      simp only [mput, if_pos hq, List.set_cons_zero, RepM]
      exact ⟨_, _, rfl, rfl, rfl, hr⟩
    · rename_i hq
      have hne : ¬ Y93 k e.key = some true := by rw [hq]; simp
      rcases Ye4 hd hk x' ds es (i + 1) r hr h with ⟨h1, h2, h3⟩ | ⟨j, e', h1, h2, h3, h4, h5, h6⟩
      · refine .inl ⟨h1, by simp [Instr.findNow, Yi0 hd hk hq, h2], fun born => ?_⟩
        simp only [mput, if_neg hne, List.cons_append, RepM]
        exact ⟨_, _, rfl, rfl, rfl, h3 born⟩
      · refine .inr ⟨j + 1, e', h1, by simp [Instr.findNow, Yi0 hd hk hq, h2]; omega, by simpa using h3, h4, h5, ?_⟩
        simp only [mput, if_neg hne, List.set_cons_succ, RepM]
        exact ⟨_, _, rfl, rfl, rfl, h6⟩
    · cases h
  | [.v _], l, i, r, hr, h => by simp [RepM] at hr
  | .sl .. :: _, l, i, r, hr, h => by simp [RepM] at hr
  | .rp .. :: _, l, i, r, hr, h => by simp [RepM] at hr
  | .own .. :: _, l, i, r, hr, h => by simp [RepM] at hr
  | .ptr .. :: _, l, i, r, hr, h => by simp [RepM] at hr
  | .agg .. :: _, l, i, r, hr, h => by simp [RepM] at hr
  | .tup .. :: _, l, i, r, hr, h => by simp [RepM] at hr
  | .fn .. :: _, l, i, r, hr, h => by simp [RepM] at hr
  | .mp .. :: _, l, i, r, hr, h => by simp [RepM] at hr
  | .any :: _, l, i, r, hr, h => by simp [RepM] at hr
  | .v _ :: .sl .. :: _, l, i, r, hr, h => by simp [RepM] at hr
  | .v _ :: .rp .. :: _, l, i, r, hr, h => by simp [RepM] at hr
  | .v _ :: .own .. :: _, l, i, r, hr, h => by simp [RepM] at hr
  | .v _ :: .ptr .. :: _, l, i, r, hr, h => by simp [RepM] at hr
  | .v _ :: .agg .. :: _, l, i, r, hr, h => by simp [RepM] at hr
  | .v _ :: .tup .. :: _, l, i, r, hr, h => by simp [RepM] at hr
  | .v _ :: .fn .. :: _, l, i, r, hr, h => by simp [RepM] at hr
  | .v _ :: .mp .. :: _, l, i, r, hr, h => by simp [RepM] at hr
  | .v _ :: .any :: _, l, i, r, hr, h => by simp [RepM] at hr
theorem Rel.map_some (R : Rel w0 F G H tk w) {b g : Nat} {u : Value} {bl : Blk} (hx : Rep F G (.mp b g) u) (hb : H[b]? = some (some bl)) (hg : bl.g = g) :
    ∃ p r s es clock, G[b]? = some p ∧ p.r = some (r, s) ∧ p.m = true ∧ u = .map (some r) ∧ w.heap[r]? = some (.map es clock) ∧ RepM bl.cells es.toList := by
  simp only [Rep] at hx
  obtain ⟨_, p, hp, hle, hx⟩ := hx
  obtain ⟨p', hp', hl⟩ := R.own b bl hb
  rw [hp] at hp'; cases hp'
  obtain ⟨hg', hl⟩ := hl
  obtain ⟨hm, r, s, hr, rfl⟩ := hx (by omega)
  rw [hr] at hl
  rw [hm] at hl
  obtain ⟨_, _, es, clock, h1, h2⟩ := hl
  exact ⟨p, r, s, es, clock, hp, hr, hm, rfl, h1, h2⟩
theorem Ylq (R : Rel w0 F G H tk w) {t kt et : TypeId} {i ik ie : TI} (ok : TI.Ok P t i) (hd : i.kind = .map kt et) (okk : TI.Ok P kt ik) (oke : TI.Ok P et ie) (ha : ie.agg = false) {m k d : D} {u v : Value} {co : Bool} (hm : Rep F G m u) (hk : Rep F G k v)
    (h : Yaj ik.kind ie.zv H m k co = some d) : Y3m P F G w (Instr.lookup t u v co) d := by
  have hu := ok.map hd
  obtain ⟨dk, hdk, hkk, _⟩ := okk.und
  obtain ⟨info, z, hi, hz, hzv⟩ := oke.zero1 ha
  unfold Yaj at h
  split at h
  · rename_i b g kv z' hzz
    have hz' : z' = z := by rw [hzv] at hzz; simpa using hzz.symm
    subst hz'
    split at h
    · rename_i bl hb
      split at h
      · rename_i hc
        obtain ⟨hg, hko⟩ := hc
        obtain ⟨p, r, s, es, clock, hp, hr, hpm, rfl, hh, hrep⟩ := R.map_some hm hb hg
        simp only [Rep] at hk
        subst hk
        cases hf : Yah v bl.cells with
        | none => rw [hf] at h; cases h
        | some q =>
          rw [hf] at h
          simp only [Option.map_some, Option.some.injEq] at h
          subst h
          have hck : (Instr.checkKey es.isEmpty 10000 kt v).run P w = .ok () w := MapKept.run_checkKey hdk (Yv9 hkk hko) _ 9999
          rcases Ye4 hkk hko z' bl.cells es.toList 0 q hrep hf with ⟨rfl, h2, _⟩ | ⟨j, e, rfl, h2, _⟩
          · refine ⟨_, by simp [Instr.lookup, run_underlying hu, MapKept.run_getObj_map hh, hck, MapKept.run_findKey hdk h2, zeroValue, typeInfo, hi, hz]; rfl, ?_⟩
            cases co
            · exact Y1e _ _ _
            · simp only [if_true, Rep]; exact ⟨_, rfl, Y86 _ _ [_, _]⟩
          · refine ⟨_, by simp [Instr.lookup, run_underlying hu, MapKept.run_getObj_map hh, hck, MapKept.run_findKey hdk h2, zeroValue, typeInfo, hi, hz]; rfl, ?_⟩
            cases co
            · exact Y1e _ _ _
            · simp only [if_true, Rep]; exact ⟨_, rfl, Y86 _ _ [_, _]⟩
      · cases h
    · cases h
  · cases h
theorem Yp5 (R : Rel w0 F G H tk w) {t kt et : TypeId} {i ik : TI} (ok : TI.Ok P t i) (hd : i.kind = .map kt et) (okk : TI.Ok P kt ik) {m k x : D} {u v y : Value} {wr : Wr} (hm : Rep F G m u) (hk : Rep F G k v) (hx : Rep F G x y)
    (h : Yag ik.kind H m k x = some wr) : ∃ w', (Instr.mapUpdate t u v y).run P w = .ok () w' ∧ Rel w0 F G (wr.on H) tk w' := by
  have hu := ok.map hd
  obtain ⟨dk, hdk, hkk, _⟩ := okk.und
  unfold Yag at h
  split at h
  · rename_i b g kv xv
    split at h
    · rename_i bl hb
      split at h
      · rename_i hc
        obtain ⟨hg, hko⟩ := hc
        obtain ⟨p, r, s, es, clock, hp, hr, hpm, rfl, hh, hrep⟩ := R.map_some hm hb hg
        simp only [Rep] at hk hx
        subst hk; subst hx
        cases hf : Yah v bl.cells with
        | none => rw [hf] at h; cases h
        | some q =>
          rw [hf] at h
          simp only [Option.map_some, Option.some.injEq] at h
          subst h
          have hck : (Instr.checkKey false 10000 kt v).run P w = .ok () w := MapKept.run_checkKey hdk (Yv9 hkk hko) _ 9999
          rcases Ye4 hkk hko y bl.cells es.toList 0 q hrep hf with ⟨rfl, h2, h3⟩ | ⟨j, e, rfl, h2, h3, h4, h5, h6⟩
          · refine ⟨_, by simp [Instr.mapUpdate, run_underlying hu, MapKept.run_getObj_map hh, hck, MapKept.run_findKey hdk h2, MapKept.run_setObj_map _ hh]; rfl, ?_⟩
            exact R.setMap hb hp hr hpm (by simpa using h3 clock)
          · have he : es[j]? = some e := by simpa using h3
            refine ⟨_, by simp [Instr.mapUpdate, run_underlying hu, MapKept.run_getObj_map hh, hck, MapKept.run_findKey hdk h2, MapKept.run_setObj_map _ hh, he, h4, Instr.keyThatStays, h5]; rfl, ?_⟩
            refine R.setMap hb hp hr hpm ?_
            obtain ⟨hlt, hej⟩ := Array.getElem?_eq_some_iff.1 he
            have e2 : (es.modify j fun e => { e with key := v, val := y }).toList = es.toList.set j ⟨v, y, e.born⟩ := by
              rw [Array.toList_modify, List.modify_eq_set, h3]
              rfl
            rw [e2]
            exact h6
      · cases h
    · cases h
  · cases h
theorem Yl3 {t : TypeId} {i : TI} (ok : TI.Ok P t i) (hd : i.kind = .str) {x ix d : D} {u v : Value} (hx : Rep F G x u) (hk : Rep F G ix v) (h : Yl4 x ix = some d) : Y3m P F G w (Instr.index t u v) d := by
 have hu := ok.str hd
 unfold Yl4 at h
 split at h
 ·rename_i s k n
  simp only [Rep] at hx hk
  subst hx; subst hk
  split at h
  ·rename_i h0
   cases hs : s[n.toNat]? with
   | none => rw [hs] at h; cases h
   | some c =>
    rw [hs] at h; cases h
    exact ⟨_, by simp [Instr.index, asIntOf, run_underlying hu, h0, hs], Y1e _ _ _⟩
  ·cases h
 ·cases h
theorem Does.value {s : Sem Value} {d : D} {wr : Wr} (h : Does w0 F G H tk (s.run P w) d wr) : Sound w0 F G H tk (Sem.run P (do pure (Next.value (← s))) w) d wr := Sound.of_does h
theorem Yep {ρ : Operand → D} {σ : Operand → Value} (h : ∀ x, Rep F G (ρ x) (σ x)) (x : Option Operand) : RepO F G (x.map ρ) (x.map σ) := by
 cases x with
 | none => trivial
 | some x => exact h x
theorem Yle {ds : List D} : ∀ {vs us : List Value}, Y7i ds = some vs → RepL F G ds us → us = vs := by
 induction ds with
 | nil => intro vs us h hr; simp only [Y7i, RepL] at h hr; cases h; exact hr
 | cons d ds ih =>
  intro vs us h hr
  cases d with
  | v x =>
   simp only [Y7i, Option.map_eq_some_iff] at h
   obtain ⟨vs', h1, rfl⟩ := h
   simp only [RepL, Rep] at hr
   obtain ⟨u, us', rfl, rfl, hr⟩ := hr
   rw [ih h1 hr]
  | _ => simp [Y7i] at h
theorem Yp8 {T : TypeId} {i : TI} (ok : TI.Ok P T i) {x d : D} {u : Value} (hx : Rep F G x u) (h : mkI i T x = some d) : Y3m P F G w (Instr.makeInterface T u) d := by
 obtain ⟨ds, hu, hk, _⟩ := ok.und
 have hc : ∀ v : Value, (∀ q, ds ≠ .interface q) → (Instr.makeInterface T v).run P w = .ok (.iface T v) w := fun v hq => by
  unfold Instr.makeInterface
  simp only [Sem.run_bind, run_underlying hu, Result.andThen_ok]
  rfl
 unfold mkI at h
 split at h
 ·rename_i k x' hk'
  cases h
  simp only [Rep] at hx
  subst hx
  exact ⟨_, hc _ fun q e => by rw [hk'] at hk; subst e; simp [Y33] at hk, Y1e _ _ _⟩
 ·rename_i x' hk'
  cases h
  simp only [Rep] at hx
  subst hx
  exact ⟨_, hc _ fun q e => by rw [hk'] at hk; subst e; simp [Y33] at hk, Y1e _ _ _⟩
 ·rename_i cs hk'
  obtain ⟨vs, h1, rfl⟩ := Option.map_eq_some_iff.1 h
  simp only [Rep] at hx
  obtain ⟨us, rfl, hx⟩ := hx
  rw [Yle h1 hx]
  exact ⟨_, hc _ fun q e => by rw [hk'] at hk; subst e; simp [Y33] at hk, Y1e _ _ _⟩
 ·cases h
theorem Yfq {tab : Tab} (hT : Tab.Ok P tab) (R : Rel w0 F G H tk w) {ρ : TypeId → Operand → D} {σ : Operand → Value} (hρ : ∀ t x, Rep F G (ρ t x) (σ x)) (hnc : σ (.const (.slice none 0 0)) = .slice none 0 0) {nid : Nat} (hb : nid ≤ H.length) {pn : Pl} (hn : G[nid]? = some pn) {sp : Nat}
    {o : Oper} {d : D} {wr : Wr} (hput : ∀ b bl, wr = .put b bl → sp ≤ tk ∧ ∀ p, G[b]? = some p → p.g < sp) (h : opA tab ρ nid sp H o = some (d, wr)) : Sound w0 F G H tk ((execOp σ o).run P w) d wr := by
  obtain ⟨dst, op, type, pos, after, guard⟩ := o
  cases op with
  | move x => simp only [opA] at h; cases h; exact ⟨_, _, F, G, w, rfl, .inl rfl, .refl _, fun _ _ _ => rfl, .refl _ _, R, hρ _ _⟩
  | assign x => simp only [opA] at h; cases h; exact ⟨_, _, F, G, w, rfl, .inl rfl, .refl _, fun _ _ _ => rfl, .refl _ _, R, hρ _ _⟩
  | pick c a b =>
    simp only [opA] at h
    split at h
    · rename_i t ht
      cases h
      have hc := hρ 0 c
      rw [ht] at hc
      simp only [Rep] at hc
      refine ⟨.value (if t then σ a else σ b), _, F, G, w, by simp [execOp, hc, asBool], .inl rfl, .refl _, fun _ _ _ => rfl, .refl _ _, R, ?_⟩
      cases t
      · exact hρ _ _
      · exact hρ _ _
    · cases h
  | alloc T =>
    simp only [opA] at h
    cases ht : tab T with
    | none => rw [ht] at h; cases h
    | some i => rw [ht] at h; cases h; exact Sound.of_does (Yms R hb hn (hput _ _ rfl).1 ((hput _ _ rfl).2 _ hn) (hT _ _ ht))
  | box T x =>
    simp only [opA] at h
    cases hc : Y6l (ρ T x) with
    | none => rw [hc] at h; cases h
    | some cs => rw [hc] at h; cases h; exact Sound.of_does (Yud R hb hn (hput _ _ rfl).1 ((hput _ _ rfl).2 _ hn) (hρ T x) hc)
  | build T parts =>
    simp only [opA] at h
    cases ht : tab T with
    | none => rw [ht] at h; cases h
    | some i =>
      rw [ht] at h
      simp only at h
      split at h
      · rename_i hd
        cases hf : Y4h (fun k => (i.parts[k]?).map fun p => (p.1, p.2.1)) i.zero (parts.toList.map fun p => (p.1, ρ 0 p.2)) with
        | none => rw [hf] at h; cases h
        | some cs => rw [hf] at h; cases h; exact Sound.of_gives R (Yiq (hT _ _ ht) hd (hρ 0) hf)
      · rename_i len el hd
        cases hf : Y4h (fun k => some (k * i.esz, i.esz)) i.zero (parts.toList.map fun p => (p.1, ρ 0 p.2)) with
        | none => rw [hf] at h; cases h
        | some cs => rw [hf] at h; cases h; exact Sound.of_gives R (Yrb (hT _ _ ht) hd (hρ 0) hf)
      · cases h
  | buildSlice T n parts =>
    simp only [opA] at h
    cases ht : tab T with
    | none => rw [ht] at h; cases h
    | some i =>
      rw [ht] at h
      simp only at h
      split at h
      · rename_i el e hd he
        split at h
        · rename_i hc
          have hel : Y22 i = el := by simp [Y22, hd]
          rw [hel] at he h
          cases hf : Y4h (fun k => some (k * e.sz, e.sz)) (List.replicate n e.zero).flatten (parts.toList.map fun p => (p.1, ρ el p.2)) with
          | none => rw [hf] at h; cases h
          | some cs => rw [hf] at h; cases h; exact Sound.of_does (Yb4 R (hT _ _ ht) hd (hT _ _ he) (hρ el) ⟨hc.1, hc.2.1⟩ (hc.2.2.imp id fun e => Array.eq_empty_of_size_eq_zero e) hf)
        · cases h
      · cases h
  | load T a =>
    simp only [opA] at h
    cases ht : tab T with
    | none => rw [ht] at h; cases h
    | some i =>
      rw [ht] at h
      cases hl : Yak i H (ρ 0 a) with
      | none => simp only [hl] at h; cases h
      | some d' => simp only [hl] at h; cases h; exact Sound.of_gives R (Yc6 R (hT _ _ ht) (hρ 0 a) hl)
  | store T a x =>
    simp only [opA] at h
    cases ht : tab T with
    | none => rw [ht] at h; cases h
    | some i =>
      rw [ht] at h
      cases hs : Y79 i H (ρ 0 a) (ρ T x) with
      | none => simp only [hs] at h; cases h
      | some wr' =>
        simp only [hs] at h; cases h
        obtain ⟨w', h1, h2⟩ := Yl0 R (hT _ _ ht) (hρ 0 a) (hρ T x) hs
        exact ⟨.skip, undef, F, G, w', by simp [execOp, h1], .inr ⟨rfl, rfl⟩, .refl _, fun _ _ _ => rfl, .refl _ _, h2, by simp only [Rep]⟩
  | fieldAddr T x f =>
    simp only [opA] at h
    cases ht : tab T with
    | none => rw [ht] at h; cases h
    | some i =>
      rw [ht] at h
      simp only at h
      split at h
      · rename_i hd
        cases hl : Y7t i H f (ρ 0 x) with
        | none => simp only [hl] at h; cases h
        | some d' => simp only [hl] at h; cases h; exact Sound.of_gives R (Yie (hT _ _ ht) hd R (hρ 0 x) hl)
      · cases h
  | nilCheck x =>
    simp only [opA] at h
    cases hl : Yaf H (ρ 0 x) with
    | none => simp only [hl] at h; cases h
    | some d' =>
      simp only [hl] at h; cases h
      obtain ⟨⟨a, ha⟩, hd⟩ := Ysw R (hρ 0 x) hl
      rw [ha] at hd
      exact ⟨.value (.pointer (some a)), _, F, G, w, by simp [execOp, ha], .inl rfl, .refl _, fun _ _ _ => rfl, .refl _ _, R, hd⟩
  | field T x f =>
    simp only [opA] at h
    cases ht : tab T with
    | none => rw [ht] at h; cases h
    | some i =>
      rw [ht] at h
      simp only at h
      split at h
      · rename_i hd
        cases hl : Yci i f (ρ T x) with
        | none => simp only [hl] at h; cases h
        | some d' => simp only [hl] at h; cases h; exact Sound.of_gives R (Yid (hT _ _ ht) hd (hρ T x) hl)
      · cases h
  | indexAddr T x ix =>
    simp only [opA] at h
    cases ht : tab T with
    | none => rw [ht] at h; cases h
    | some i =>
      rw [ht] at h
      simp only at h
      split at h
      · rename_i el hd
        cases hl : Y7o i H (ρ T x) (ρ 0 ix) with
        | none => simp only [hl] at h; cases h
        | some d' => simp only [hl] at h; cases h; exact Sound.of_gives R (Yi7 R (hT _ _ ht) hd (hρ T x) (hρ 0 ix) hl)
      · rename_i len el hd
        cases hl : Y84 i len H (ρ T x) (ρ 0 ix) with
        | none => simp only [hl] at h; cases h
        | some d' => simp only [hl] at h; cases h; exact Sound.of_gives R (Yix R (hT _ _ ht) hd (hρ T x) (hρ 0 ix) hl)
      · cases h
  | binOp op T x y yt =>
    simp only [opA] at h
    cases ht : tab T with
    | none => rw [ht] at h; cases h
    | some i =>
      rw [ht] at h
      simp only at h
      by_cases hnil : Yam y = true
      · rw [if_pos hnil] at h
        cases hl : nilD i op H (ρ T x) with
        | none => simp only [hl] at h; cases h
        | some d' =>
          simp only [hl] at h; cases h
          have hy : σ y = .slice none 0 0 := by
            unfold Yam at hnil
            split at hnil
            · exact hnc
            · cases hnil
          have := Sound.of_gives (w0 := w0) R (Yp0 (ox := x) (oy := y) R (hT _ _ ht) (hρ T x) hl)
          simpa [execOp, hy] using this
      · rw [if_neg hnil] at h
        cases hl : binD i op (ρ T x) (ρ T y) with
        | none => simp only [hl] at h; cases h
        | some d' => simp only [hl] at h; cases h; exact Sound.of_gives R (Yrd (hT _ _ ht) (hρ T x) (hρ T y) hl)
  | makeInterface T x =>
    simp only [opA] at h
    cases ht : tab T with
    | none => rw [ht] at h; cases h
    | some i =>
      rw [ht] at h
      simp only at h
      cases hl : mkI i T (ρ T x) with
      | none => simp only [hl] at h; cases h
      | some d' => simp only [hl] at h; cases h; exact Sound.of_gives R (Yp8 (hT _ _ ht) (hρ T x) hl)
  | unOp op T x =>
    simp only [opA] at h
    cases hl : unD op (ρ 0 x) with
    | none => simp only [hl] at h; cases h
    | some d' => simp only [hl] at h; cases h; exact Sound.of_gives R (Ys0 (hρ 0 x) hl)
  | convert s t x =>
    simp only [opA] at h
    split at h
    · rename_i i j hs ht
      cases hl : Yma i j (ρ s x) with
      | none => simp only [hl] at h; cases h
      | some d' => simp only [hl] at h; cases h; exact Sound.of_gives R (Ym9 (hT _ _ hs) (hT _ _ ht) (hρ s x) hl)
    · cases h
  | extract t ix =>
    simp only [opA] at h
    split at h
    · rename_i ds hds
      cases hl : ds[ix]? with
      | none => simp only [hl] at h; cases h
      | some d' =>
        simp only [hl] at h; cases h
        have hx := hρ 0 t
        rw [hds] at hx
        exact Sound.of_gives R (Ye8 hx hl)
    · cases h
  | makeFunc fn first caps =>
    cases fn with
    | func f =>
      simp only [opA] at h
      split at h
      · rename_i hf
        subst hf
        cases h
        refine ⟨.value (.func (.func f) #[] (caps.map σ)), _, F, G, w, by simp [execOp, Instr.makeFunc], .inl rfl, .refl _, fun _ _ _ => rfl, .refl _ _, R, ?_⟩
        simp only [Rep]
        refine ⟨caps.toList.map σ, congrArg _ (by apply Array.ext'; simp), RepL.of_get (by simp) fun k d u hd hu => ?_⟩
        rw [List.getElem?_map] at hd hu
        cases hk : caps.toList[k]? with
        | none => rw [hk] at hd; cases hd
        | some x => rw [hk] at hd hu; cases hd; cases hu; exact hρ 0 x
      · cases h
    | _ => simp [opA] at h
  | makeSlice T l c =>
    simp only [opA] at h
    cases ht : tab T with
    | none => rw [ht] at h; cases h
    | some i =>
      rw [ht] at h
      simp only at h
      split at h
      · rename_i el e hd he
        have hel : Y22 i = el := by simp [Y22, hd]
        rw [hel] at he h
        exact Sound.of_does (Ype R (hT _ _ ht) hd (hT _ _ he) (hρ 0 l) (hρ 0 c) hb hn hput h)
      · cases h
  | index T x ix =>
    simp only [opA] at h
    cases ht : tab T with
    | none => rw [ht] at h; cases h
    | some i =>
      rw [ht] at h
      simp only at h
      split at h
      · rename_i hd
        cases hl : Yl4 (ρ T x) (ρ 0 ix) with
        | none => simp only [hl] at h; cases h
        | some d' => simp only [hl] at h; cases h; exact Sound.of_gives R (Yl3 (hT _ _ ht) hd (hρ T x) (hρ 0 ix) hl)
      · cases h
  | makeMap T r =>
    cases r with
    | none =>
      simp only [opA] at h
      cases h
      obtain ⟨hsp, hlt⟩ := hput _ _ rfl
      have hlt' := (List.getElem?_eq_some_iff.1 hn).1
      refine Sound.of_does (s := Instr.makeMap T none) ⟨.map (some w.heap.size), F, _, _, by simp [Instr.makeMap], .refl _, fun _ _ _ => rfl, Gs.set hn (.inr (hlt _ hn)), R.newMap (Nat.le_refl _) hsp hb hn (hlt _ hn), ?_⟩
      simp only [Rep]
      exact ⟨rfl, _, by rw [List.getElem?_set_self hlt'], Nat.le_refl _, fun _ => ⟨rfl, _, _, rfl, rfl⟩⟩
    | some r => simp [opA] at h
  | lookup T m k co =>
    simp only [opA] at h
    cases ht : tab T with
    | none => rw [ht] at h; cases h
    | some i =>
      rw [ht] at h
      simp only at h
      split at h
      · rename_i kt et ik ie hd hk he
        have hm : Y7n i = (kt, et) := by simp [Y7n, hd]
        rw [hm] at hk he
        split at h
        · rename_i ha
          cases hl : Yaj ik.kind ie.zv H (ρ 0 m) (ρ 0 k) co with
          | none => simp only [hl] at h; cases h
          | some d' => simp only [hl] at h; cases h; exact Sound.of_gives R (Ylq R (hT _ _ ht) hd (hT _ _ hk) (hT _ _ he) ha (hρ 0 m) (hρ 0 k) hl)
        · cases h
      · cases h
  | mapUpdate T m k x =>
    simp only [opA] at h
    cases ht : tab T with
    | none => rw [ht] at h; cases h
    | some i =>
      rw [ht] at h
      simp only at h
      split at h
      · rename_i kt et ik hd hk
        have hm : Y7n i = (kt, et) := by simp [Y7n, hd]
        rw [hm] at hk
        cases hl : Yag ik.kind H (ρ 0 m) (ρ 0 k) (ρ 0 x) with
        | none => simp only [hl] at h; cases h
        | some wr' =>
          simp only [hl] at h; cases h
          obtain ⟨w', h1, h2⟩ := Yp5 R (hT _ _ ht) hd (hT _ _ hk) (hρ 0 m) (hρ 0 k) (hρ 0 x) hl
          exact ⟨.skip, undef, F, G, w', by simp [execOp, h1], .inr ⟨rfl, rfl⟩, .refl _, fun _ _ _ => rfl, .refl _ _, h2, by simp only [Rep]⟩
      · cases h
  | slice T x lo hi mx =>
    simp only [opA] at h
    cases ht : tab T with
    | none => rw [ht] at h; cases h
    | some i =>
      rw [ht] at h
      simp only at h
      split at h
      · rename_i el hd
        cases hl : Y7c i H (ρ T x) (lo.map (ρ 0)) (hi.map (ρ 0)) (mx.map (ρ 0)) with
        | none => simp only [hl] at h; cases h
        | some d' => simp only [hl] at h; cases h; exact Sound.of_gives R (Yh8 R (hT _ _ ht) hd (hρ T x) (Yep (hρ 0) lo) (Yep (hρ 0) hi) (Yep (hρ 0) mx) hl)
      · cases h
  | call c =>
    unfold opA at h
    simp only at h
    split at h <;> first
      | (rename_i heq; simp at heq; done)
      | skip
    · rename_i x t heq
      cases heq
      cases ht : tab t with
      | none => rw [ht] at h; cases h
      | some i =>
        rw [ht] at h
        cases hl : lenD i H (ρ t x) with
        | none => simp only [hl] at h; cases h
        | some d' =>
          simp only [hl] at h; cases h
          have := Sound.of_gives R (Ypk (ty := type) R (hT _ _ ht) (hρ t x) hl)
          simpa [execOp, resolve, invoke, builtin] using this
    · rename_i s x t t' heq
      cases heq
      cases ht : tab t with
      | none => rw [ht] at h; cases h
      | some i =>
        rw [ht] at h
        simp only at h
        split at h
        · rename_i el e hd he
          have hel : Y22 i = el := by simp [Y22, hd]
          rw [hel] at he h
          split at h
          · rename_i htt
            subst htt
            have := Sound.of_does (Yul (ty := type) R (hT _ _ ht) hd (hT _ _ he) (hρ t s) (hρ t x) hb hn hput h)
            simpa [execOp, resolve, invoke, builtin] using this
          · cases h
        · cases h
    · rename_i x y ts heq
      cases heq
      split at h
      · rename_i k a k' b ha hb'
        cases h
        have h1 := hρ 0 x; have h2 := hρ 0 y
        rw [ha] at h1; rw [hb'] at h2
        have := Sound.of_gives (P := P) R (Ypb (ty := type) (ts := ts) h1 h2)
        simpa [execOp, resolve, invoke, builtin] using this
      · cases h
    · rename_i x y ts heq
      cases heq
      split at h
      · rename_i k a k' b ha hb'
        cases h
        have h1 := hρ 0 x; have h2 := hρ 0 y
        rw [ha] at h1; rw [hb'] at h2
        have := Sound.of_gives (P := P) R (Ypc (ty := type) (ts := ts) h1 h2)
        simpa [execOp, resolve, invoke, builtin] using this
      · cases h
    · rename_i s x t t' heq
      cases heq
      cases ht : tab t with
      | none => rw [ht] at h; cases h
      | some i =>
        rw [ht] at h
        simp only at h
        split at h
        · rename_i el e hd he
          have hel : Y22 i = el := by simp [Y22, hd]
          rw [hel] at he
          have := Sound.of_does (Yqv (t' := t') (ty := type) R (hT _ _ ht) hd (hT _ _ he) (hρ t s) (hρ t' x) h)
          simpa [execOp, resolve, invoke, builtin] using this
        · cases h
    · cases h
  | _ => simp [opA] at h
end
end Go.Proofs.YtpbpafmgkdihlaaGreatDoor.T
