/- The table of this seat's types: sizes, kinds, places of fields, each held against the program. -/
import Derived.Test.YtcjmknmlfggblaaTO
import Derived.Test.YtcjmknmlfggblaaProg
import Derived.KernelRfl
namespace Go.Proofs.Ytcjmknmlfggblaa.T
open Go Go.RowKit

def T2 : TI := ⟨1, 8, false, [.int .i64 0], [1], (.int .i64), 0, [], false⟩

theorem ok2 : TI.Ok Try.prog 2 T2 := ⟨⟨Try.t2, _, (by kernel_rfl : Try.prog.info? 2 = some Try.t2), rfl, rfl, rfl, rfl⟩, ⟨_, Try.underlying2, rfl, rfl, trivial, fun h => by cases h⟩, ⟨rfl, rfl⟩, fun _ => ⟨Try.t2, _, (by kernel_rfl : Try.prog.info? 2 = some Try.t2), rfl, rfl⟩⟩

def T3 : TI := ⟨1, 8, false, [.int .i64 0], [1], (.int .i64), 0, [], false⟩

theorem ok3 : TI.Ok Try.prog 3 T3 := ⟨⟨Try.t3, _, (by kernel_rfl : Try.prog.info? 3 = some Try.t3), rfl, rfl, rfl, rfl⟩, ⟨_, Try.underlying3, rfl, rfl, trivial, fun h => by cases h⟩, ⟨rfl, rfl⟩, fun _ => ⟨Try.t3, _, (by kernel_rfl : Try.prog.info? 3 = some Try.t3), rfl, rfl⟩⟩

def T4 : TI := ⟨1, 1, false, [.bool false], [1], .bool, 0, [], false⟩

theorem ok4 : TI.Ok Try.prog 4 T4 := ⟨⟨Try.t4, _, (by kernel_rfl : Try.prog.info? 4 = some Try.t4), rfl, rfl, rfl, rfl⟩, ⟨_, Try.underlying4, rfl, rfl, trivial, fun h => by cases h⟩, ⟨rfl, rfl⟩, fun _ => ⟨Try.t4, _, (by kernel_rfl : Try.prog.info? 4 = some Try.t4), rfl, rfl⟩⟩

def T5 : TI := ⟨1, 1, false, [.int .u8 0], [1], (.int .u8), 0, [], false⟩

theorem ok5 : TI.Ok Try.prog 5 T5 := ⟨⟨Try.t5, _, (by kernel_rfl : Try.prog.info? 5 = some Try.t5), rfl, rfl, rfl, rfl⟩, ⟨_, Try.underlying5, rfl, rfl, trivial, fun h => by cases h⟩, ⟨rfl, rfl⟩, fun _ => ⟨Try.t5, _, (by kernel_rfl : Try.prog.info? 5 = some Try.t5), rfl, rfl⟩⟩

def T9 : TI := ⟨1, 16, false, [.string ⟨#[]⟩], [1], .str, 0, [], false⟩

theorem ok9 : TI.Ok Try.prog 9 T9 := ⟨⟨Try.t9, _, (by kernel_rfl : Try.prog.info? 9 = some Try.t9), rfl, rfl, rfl, rfl⟩, ⟨_, Try.underlying9, rfl, rfl, trivial, fun h => by cases h⟩, ⟨rfl, rfl⟩, fun _ => ⟨Try.t9, _, (by kernel_rfl : Try.prog.info? 9 = some Try.t9), rfl, rfl⟩⟩

def T22 : TI := ⟨1, 24, false, [.slice none 0 0], [1], (.slice 24), 1, [], false⟩

theorem ok22 : TI.Ok Try.prog 22 T22 := ⟨⟨Try.t22, _, (by kernel_rfl : Try.prog.info? 22 = some Try.t22), rfl, rfl, rfl, rfl⟩, ⟨_, Try.underlying22, rfl, rfl, ⟨Try.t24, (by kernel_rfl : Try.prog.info? 24 = some Try.t24), rfl, by decide⟩, fun h => by cases h⟩, ⟨rfl, rfl⟩, fun _ => ⟨Try.t22, _, (by kernel_rfl : Try.prog.info? 22 = some Try.t22), rfl, rfl⟩⟩

def T23 : TI := ⟨1, 24, false, [.slice none 0 0], [1], (.slice 24), 1, [], false⟩

theorem ok23 : TI.Ok Try.prog 23 T23 := ⟨⟨Try.t23, _, (by kernel_rfl : Try.prog.info? 23 = some Try.t23), rfl, rfl, rfl, rfl⟩, ⟨_, Try.underlying23, rfl, rfl, ⟨Try.t24, (by kernel_rfl : Try.prog.info? 24 = some Try.t24), rfl, by decide⟩, fun h => by cases h⟩, ⟨rfl, rfl⟩, fun _ => ⟨Try.t23, _, (by kernel_rfl : Try.prog.info? 23 = some Try.t23), rfl, rfl⟩⟩

def T24 : TI := ⟨1, 24, false, [.slice none 0 0], [1], (.slice 3), 1, [], false⟩

theorem ok24 : TI.Ok Try.prog 24 T24 := ⟨⟨Try.t24, _, (by kernel_rfl : Try.prog.info? 24 = some Try.t24), rfl, rfl, rfl, rfl⟩, ⟨_, Try.underlying24, rfl, rfl, ⟨Try.t3, (by kernel_rfl : Try.prog.info? 3 = some Try.t3), rfl, by decide⟩, fun h => by cases h⟩, ⟨rfl, rfl⟩, fun _ => ⟨Try.t24, _, (by kernel_rfl : Try.prog.info? 24 = some Try.t24), rfl, rfl⟩⟩

def T27 : TI := ⟨1, 24, false, [.slice none 0 0], [2], (.slice 32), 2, [], false⟩

theorem ok27 : TI.Ok Try.prog 27 T27 := ⟨⟨Try.t27, _, (by kernel_rfl : Try.prog.info? 27 = some Try.t27), rfl, rfl, rfl, rfl⟩, ⟨_, Try.underlying27, rfl, rfl, ⟨Try.t32, (by kernel_rfl : Try.prog.info? 32 = some Try.t32), rfl, by decide⟩, fun h => by cases h⟩, ⟨rfl, rfl⟩, fun _ => ⟨Try.t27, _, (by kernel_rfl : Try.prog.info? 27 = some Try.t27), rfl, rfl⟩⟩

def T28 : TI := ⟨1, 8, false, [.int .i64 0], [1], (.int .i64), 0, [], false⟩

theorem ok28 : TI.Ok Try.prog 28 T28 := ⟨⟨Try.t28, _, (by kernel_rfl : Try.prog.info? 28 = some Try.t28), rfl, rfl, rfl, rfl⟩, ⟨_, Try.underlying28, rfl, rfl, trivial, fun h => by cases h⟩, ⟨rfl, rfl⟩, fun _ => ⟨Try.t28, _, (by kernel_rfl : Try.prog.info? 28 = some Try.t28), rfl, rfl⟩⟩

def T32 : TI := ⟨2, 16, true, [.int .i64 0, .int .i64 0], [1, 1], .struct, 0, [(0, 1, false), (1, 1, false)], true⟩

theorem ok32 : TI.Ok Try.prog 32 T32 := ⟨⟨Try.t32, _, (by kernel_rfl : Try.prog.info? 32 = some Try.t32), rfl, rfl, rfl, rfl⟩, ⟨_, Try.underlying32, rfl, rfl, ⟨_, _, rfl, ⟨Try.t3, _, (by kernel_rfl : Try.prog.info? 3 = some Try.t3), by decide, Try.underlying3, rfl⟩, ⟨_, _, rfl, ⟨Try.t3, _, (by kernel_rfl : Try.prog.info? 3 = some Try.t3), by decide, Try.underlying3, rfl⟩, rfl⟩⟩, fun _ => ⟨Try.stoodInHeld32, Try.eqGuardType32, rfl, ⟨⟨by decide, rfl, _, Try.underlying3⟩, ⟨⟨by decide, rfl, _, Try.underlying3⟩, trivial⟩⟩⟩⟩, ⟨rfl, rfl⟩, fun h => by cases h⟩

def T43 : TI := ⟨1, 24, false, [.slice none 0 0], [1], (.slice 27), 1, [], false⟩

theorem ok43 : TI.Ok Try.prog 43 T43 := ⟨⟨Try.t43, _, (by kernel_rfl : Try.prog.info? 43 = some Try.t43), rfl, rfl, rfl, rfl⟩, ⟨_, Try.underlying43, rfl, rfl, ⟨Try.t27, (by kernel_rfl : Try.prog.info? 27 = some Try.t27), rfl, by decide⟩, fun h => by cases h⟩, ⟨rfl, rfl⟩, fun _ => ⟨Try.t43, _, (by kernel_rfl : Try.prog.info? 43 = some Try.t43), rfl, rfl⟩⟩

def T68 : TI := ⟨5, 88, true, [.slice none 0 0, .int .i64 0, .slice none 0 0, .slice none 0 0, .bool false], [1, 1, 1, 1, 1], .struct, 0, [(0, 1, false), (1, 1, false), (2, 1, false), (3, 1, false), (4, 1, false)], false⟩

theorem ok68 : TI.Ok Try.prog 68 T68 := ⟨⟨Try.t68, _, (by kernel_rfl : Try.prog.info? 68 = some Try.t68), rfl, rfl, rfl, rfl⟩, ⟨_, Try.underlying68, rfl, rfl, ⟨_, _, rfl, ⟨Try.t22, _, (by kernel_rfl : Try.prog.info? 22 = some Try.t22), by decide, Try.underlying22, rfl⟩, ⟨_, _, rfl, ⟨Try.t3, _, (by kernel_rfl : Try.prog.info? 3 = some Try.t3), by decide, Try.underlying3, rfl⟩, ⟨_, _, rfl, ⟨Try.t24, _, (by kernel_rfl : Try.prog.info? 24 = some Try.t24), by decide, Try.underlying24, rfl⟩, ⟨_, _, rfl, ⟨Try.t24, _, (by kernel_rfl : Try.prog.info? 24 = some Try.t24), by decide, Try.underlying24, rfl⟩, ⟨_, _, rfl, ⟨Try.t4, _, (by kernel_rfl : Try.prog.info? 4 = some Try.t4), by decide, Try.underlying4, rfl⟩, rfl⟩⟩⟩⟩⟩, fun h => by cases h⟩, ⟨rfl, rfl⟩, fun h => by cases h⟩

def T72 : TI := ⟨1, 8, false, [.int .u64 0], [1], (.int .u64), 0, [], false⟩

theorem ok72 : TI.Ok Try.prog 72 T72 := ⟨⟨Try.t72, _, (by kernel_rfl : Try.prog.info? 72 = some Try.t72), rfl, rfl, rfl, rfl⟩, ⟨_, Try.underlying72, rfl, rfl, trivial, fun h => by cases h⟩, ⟨rfl, rfl⟩, fun _ => ⟨Try.t72, _, (by kernel_rfl : Try.prog.info? 72 = some Try.t72), rfl, rfl⟩⟩

def T74 : TI := ⟨2, 16, true, [.int .u64 0, .int .u64 0], [1, 1], .struct, 0, [(0, 1, false), (1, 1, false)], true⟩

theorem ok74 : TI.Ok Try.prog 74 T74 := ⟨⟨Try.t74, _, (by kernel_rfl : Try.prog.info? 74 = some Try.t74), rfl, rfl, rfl, rfl⟩, ⟨_, Try.underlying74, rfl, rfl, ⟨_, _, rfl, ⟨Try.t72, _, (by kernel_rfl : Try.prog.info? 72 = some Try.t72), by decide, Try.underlying72, rfl⟩, ⟨_, _, rfl, ⟨Try.t72, _, (by kernel_rfl : Try.prog.info? 72 = some Try.t72), by decide, Try.underlying72, rfl⟩, rfl⟩⟩, fun _ => ⟨Try.stoodInHeld74, Try.eqGuardType74, rfl, ⟨⟨by decide, rfl, _, Try.underlying72⟩, ⟨⟨by decide, rfl, _, Try.underlying72⟩, trivial⟩⟩⟩⟩, ⟨rfl, rfl⟩, fun h => by cases h⟩

def T83 : TI := ⟨4, 64, true, [.slice none 0 0, .slice none 0 0, .int .i64 0, .bool false], [1, 1, 1, 1], .struct, 0, [(0, 1, false), (1, 1, false), (2, 1, false), (3, 1, false)], false⟩

theorem ok83 : TI.Ok Try.prog 83 T83 := ⟨⟨Try.t83, _, (by kernel_rfl : Try.prog.info? 83 = some Try.t83), rfl, rfl, rfl, rfl⟩, ⟨_, Try.underlying83, rfl, rfl, ⟨_, _, rfl, ⟨Try.t23, _, (by kernel_rfl : Try.prog.info? 23 = some Try.t23), by decide, Try.underlying23, rfl⟩, ⟨_, _, rfl, ⟨Try.t24, _, (by kernel_rfl : Try.prog.info? 24 = some Try.t24), by decide, Try.underlying24, rfl⟩, ⟨_, _, rfl, ⟨Try.t3, _, (by kernel_rfl : Try.prog.info? 3 = some Try.t3), by decide, Try.underlying3, rfl⟩, ⟨_, _, rfl, ⟨Try.t4, _, (by kernel_rfl : Try.prog.info? 4 = some Try.t4), by decide, Try.underlying4, rfl⟩, rfl⟩⟩⟩⟩, fun h => by cases h⟩, ⟨rfl, rfl⟩, fun h => by cases h⟩

def T96 : TI := ⟨1, 8, false, [.int .u64 0], [1], (.int .u64), 0, [], false⟩

theorem ok96 : TI.Ok Try.prog 96 T96 := ⟨⟨Try.t96, _, (by kernel_rfl : Try.prog.info? 96 = some Try.t96), rfl, rfl, rfl, rfl⟩, ⟨_, Try.underlying96, rfl, rfl, trivial, fun h => by cases h⟩, ⟨rfl, rfl⟩, fun _ => ⟨Try.t96, _, (by kernel_rfl : Try.prog.info? 96 = some Try.t96), rfl, rfl⟩⟩

def T102 : TI := ⟨2, 16, true, [.int .u64 0, .int .u64 0], [1, 1], .struct, 0, [(0, 1, false), (1, 1, false)], true⟩

theorem ok102 : TI.Ok Try.prog 102 T102 := ⟨⟨Try.t102, _, (by kernel_rfl : Try.prog.info? 102 = some Try.t102), rfl, rfl, rfl, rfl⟩, ⟨_, Try.underlying102, rfl, rfl, ⟨_, _, rfl, ⟨Try.t72, _, (by kernel_rfl : Try.prog.info? 72 = some Try.t72), by decide, Try.underlying72, rfl⟩, ⟨_, _, rfl, ⟨Try.t72, _, (by kernel_rfl : Try.prog.info? 72 = some Try.t72), by decide, Try.underlying72, rfl⟩, rfl⟩⟩, fun _ => ⟨Try.stoodInHeld102, Try.eqGuardType102, rfl, ⟨⟨by decide, rfl, _, Try.underlying72⟩, ⟨⟨by decide, rfl, _, Try.underlying72⟩, trivial⟩⟩⟩⟩, ⟨rfl, rfl⟩, fun h => by cases h⟩

def T113 : TI := ⟨1, 4, false, [.int .u32 0], [1], (.int .u32), 0, [], false⟩

theorem ok113 : TI.Ok Try.prog 113 T113 := ⟨⟨Try.t113, _, (by kernel_rfl : Try.prog.info? 113 = some Try.t113), rfl, rfl, rfl, rfl⟩, ⟨_, Try.underlying113, rfl, rfl, trivial, fun h => by cases h⟩, ⟨rfl, rfl⟩, fun _ => ⟨Try.t113, _, (by kernel_rfl : Try.prog.info? 113 = some Try.t113), rfl, rfl⟩⟩

def tab : Tab
  | 2 => some T2
  | 3 => some T3
  | 4 => some T4
  | 5 => some T5
  | 9 => some T9
  | 22 => some T22
  | 23 => some T23
  | 24 => some T24
  | 27 => some T27
  | 28 => some T28
  | 32 => some T32
  | 43 => some T43
  | 68 => some T68
  | 72 => some T72
  | 74 => some T74
  | 83 => some T83
  | 96 => some T96
  | 102 => some T102
  | 113 => some T113
  | _ => none

theorem tab_ok : Tab.Ok Try.prog tab := fun t i h => by
  unfold tab at h
  split at h <;> first
    | (cases h; done)
    | (cases h; exact ok2)
    | (cases h; exact ok3)
    | (cases h; exact ok4)
    | (cases h; exact ok5)
    | (cases h; exact ok9)
    | (cases h; exact ok22)
    | (cases h; exact ok23)
    | (cases h; exact ok24)
    | (cases h; exact ok27)
    | (cases h; exact ok28)
    | (cases h; exact ok32)
    | (cases h; exact ok43)
    | (cases h; exact ok68)
    | (cases h; exact ok72)
    | (cases h; exact ok74)
    | (cases h; exact ok83)
    | (cases h; exact ok96)
    | (cases h; exact ok102)
    | (cases h; exact ok113)

theorem bt : type_of% @T2.eq_1 ∧ type_of% @T3.eq_1 ∧ type_of% @T4.eq_1 ∧ type_of% @T5.eq_1 ∧ type_of% @T9.eq_1 ∧ type_of% @T22.eq_1 ∧ type_of% @T23.eq_1 ∧ type_of% @T24.eq_1 ∧ type_of% @T27.eq_1 ∧ type_of% @T28.eq_1 ∧ type_of% @T32.eq_1 ∧ type_of% @T43.eq_1 ∧ type_of% @T68.eq_1 ∧ type_of% @T72.eq_1 ∧ type_of% @T74.eq_1 ∧ type_of% @T83.eq_1 ∧ type_of% @T96.eq_1 ∧ type_of% @T102.eq_1 ∧ type_of% @T113.eq_1 ∧ type_of% @tab.eq_1 ∧ type_of% @tab.eq_2 ∧ type_of% @tab.eq_3 ∧ type_of% @tab.eq_4 ∧ type_of% @tab.eq_5 ∧ type_of% @tab.eq_6 ∧ type_of% @tab.eq_7 ∧ type_of% @tab.eq_8 ∧ type_of% @tab.eq_9 ∧ type_of% @tab.eq_10 ∧ type_of% @tab.eq_11 ∧ type_of% @tab.eq_12 ∧ type_of% @tab.eq_13 ∧ type_of% @tab.eq_14 ∧ type_of% @tab.eq_15 ∧ type_of% @tab.eq_16 ∧ type_of% @tab.eq_17 ∧ type_of% @tab.eq_18 ∧ type_of% @tab.eq_19 := ⟨@T2.eq_1, @T3.eq_1, @T4.eq_1, @T5.eq_1, @T9.eq_1, @T22.eq_1, @T23.eq_1, @T24.eq_1, @T27.eq_1, @T28.eq_1, @T32.eq_1, @T43.eq_1, @T68.eq_1, @T72.eq_1, @T74.eq_1, @T83.eq_1, @T96.eq_1, @T102.eq_1, @T113.eq_1, @tab.eq_1, @tab.eq_2, @tab.eq_3, @tab.eq_4, @tab.eq_5, @tab.eq_6, @tab.eq_7, @tab.eq_8, @tab.eq_9, @tab.eq_10, @tab.eq_11, @tab.eq_12, @tab.eq_13, @tab.eq_14, @tab.eq_15, @tab.eq_16, @tab.eq_17, @tab.eq_18, @tab.eq_19⟩

theorem follows_mixed : Try.prog.follows .mixedOrders = true := by kernel_rfl

end Go.Proofs.Ytcjmknmlfggblaa.T
