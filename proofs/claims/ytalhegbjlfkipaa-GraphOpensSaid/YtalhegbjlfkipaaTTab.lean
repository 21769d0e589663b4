/- The table of this seat's types: sizes, kinds, places of fields, each held against the program. -/
import Derived.Test.YtalhegbjlfkipaaTO
import Derived.Test.YtalhegbjlfkipaaProg
import Derived.KernelRfl
namespace Go.Proofs.Ytalhegbjlfkipaa.T
open Go Go.RowKit

def T1 : TI := ⟨1, 8, false, [.nilFunc], [1], .other, 0, [], []⟩

theorem ok1 : TI.Ok Try.prog 1 T1 := ⟨⟨Try.t1, _, (by kernel_rfl : Try.prog.info? 1 = some Try.t1), rfl, rfl, rfl, rfl⟩, ⟨_, Try.underlying1, rfl, rfl, trivial, fun h => absurd rfl h⟩, ⟨rfl, rfl⟩, fun _ => ⟨Try.t1, _, (by kernel_rfl : Try.prog.info? 1 = some Try.t1), rfl, rfl⟩⟩

def T2 : TI := ⟨1, 8, false, [.int .i64 0], [1], (.int .i64), 0, [], []⟩

theorem ok2 : TI.Ok Try.prog 2 T2 := ⟨⟨Try.t2, _, (by kernel_rfl : Try.prog.info? 2 = some Try.t2), rfl, rfl, rfl, rfl⟩, ⟨_, Try.underlying2, rfl, rfl, trivial, fun h => absurd rfl h⟩, ⟨rfl, rfl⟩, fun _ => ⟨Try.t2, _, (by kernel_rfl : Try.prog.info? 2 = some Try.t2), rfl, rfl⟩⟩

def T3 : TI := ⟨1, 8, false, [.int .i64 0], [1], (.int .i64), 0, [], []⟩

theorem ok3 : TI.Ok Try.prog 3 T3 := ⟨⟨Try.t3, _, (by kernel_rfl : Try.prog.info? 3 = some Try.t3), rfl, rfl, rfl, rfl⟩, ⟨_, Try.underlying3, rfl, rfl, trivial, fun h => absurd rfl h⟩, ⟨rfl, rfl⟩, fun _ => ⟨Try.t3, _, (by kernel_rfl : Try.prog.info? 3 = some Try.t3), rfl, rfl⟩⟩

def T4 : TI := ⟨1, 1, false, [.bool false], [1], .bool, 0, [], []⟩

theorem ok4 : TI.Ok Try.prog 4 T4 := ⟨⟨Try.t4, _, (by kernel_rfl : Try.prog.info? 4 = some Try.t4), rfl, rfl, rfl, rfl⟩, ⟨_, Try.underlying4, rfl, rfl, trivial, fun h => absurd rfl h⟩, ⟨rfl, rfl⟩, fun _ => ⟨Try.t4, _, (by kernel_rfl : Try.prog.info? 4 = some Try.t4), rfl, rfl⟩⟩

def T9 : TI := ⟨1, 16, false, [.string ⟨#[]⟩], [1], .str, 0, [], []⟩

theorem ok9 : TI.Ok Try.prog 9 T9 := ⟨⟨Try.t9, _, (by kernel_rfl : Try.prog.info? 9 = some Try.t9), rfl, rfl, rfl, rfl⟩, ⟨_, Try.underlying9, rfl, rfl, trivial, fun h => absurd rfl h⟩, ⟨rfl, rfl⟩, fun _ => ⟨Try.t9, _, (by kernel_rfl : Try.prog.info? 9 = some Try.t9), rfl, rfl⟩⟩

def T22 : TI := ⟨1, 24, false, [.slice none 0 0], [2], (.slice 43), 2, [], []⟩

theorem ok22 : TI.Ok Try.prog 22 T22 := ⟨⟨Try.t22, _, (by kernel_rfl : Try.prog.info? 22 = some Try.t22), rfl, rfl, rfl, rfl⟩, ⟨_, Try.underlying22, rfl, rfl, ⟨Try.t43, (by kernel_rfl : Try.prog.info? 43 = some Try.t43), rfl, by decide⟩, fun h => absurd rfl h⟩, ⟨rfl, rfl⟩, fun _ => ⟨Try.t22, _, (by kernel_rfl : Try.prog.info? 22 = some Try.t22), rfl, rfl⟩⟩

def T25 : TI := ⟨1, 24, false, [.slice none 0 0], [1], (.slice 3), 1, [], []⟩

theorem ok25 : TI.Ok Try.prog 25 T25 := ⟨⟨Try.t25, _, (by kernel_rfl : Try.prog.info? 25 = some Try.t25), rfl, rfl, rfl, rfl⟩, ⟨_, Try.underlying25, rfl, rfl, ⟨Try.t3, (by kernel_rfl : Try.prog.info? 3 = some Try.t3), rfl, by decide⟩, fun h => absurd rfl h⟩, ⟨rfl, rfl⟩, fun _ => ⟨Try.t25, _, (by kernel_rfl : Try.prog.info? 25 = some Try.t25), rfl, rfl⟩⟩

def T26 : TI := ⟨1, 8, false, [.int .i64 0], [1], (.int .i64), 0, [], []⟩

theorem ok26 : TI.Ok Try.prog 26 T26 := ⟨⟨Try.t26, _, (by kernel_rfl : Try.prog.info? 26 = some Try.t26), rfl, rfl, rfl, rfl⟩, ⟨_, Try.underlying26, rfl, rfl, trivial, fun h => absurd rfl h⟩, ⟨rfl, rfl⟩, fun _ => ⟨Try.t26, _, (by kernel_rfl : Try.prog.info? 26 = some Try.t26), rfl, rfl⟩⟩

def T35 : TI := ⟨1, 24, false, [.slice none 0 0], [1], (.slice 25), 1, [], []⟩

theorem ok35 : TI.Ok Try.prog 35 T35 := ⟨⟨Try.t35, _, (by kernel_rfl : Try.prog.info? 35 = some Try.t35), rfl, rfl, rfl, rfl⟩, ⟨_, Try.underlying35, rfl, rfl, ⟨Try.t25, (by kernel_rfl : Try.prog.info? 25 = some Try.t25), rfl, by decide⟩, fun h => absurd rfl h⟩, ⟨rfl, rfl⟩, fun _ => ⟨Try.t35, _, (by kernel_rfl : Try.prog.info? 35 = some Try.t35), rfl, rfl⟩⟩

def T42 : TI := ⟨1, 8, false, [.nilFunc], [1], .other, 0, [], []⟩

theorem ok42 : TI.Ok Try.prog 42 T42 := ⟨⟨Try.t42, _, (by kernel_rfl : Try.prog.info? 42 = some Try.t42), rfl, rfl, rfl, rfl⟩, ⟨_, Try.underlying42, rfl, rfl, trivial, fun h => absurd rfl h⟩, ⟨rfl, rfl⟩, fun _ => ⟨Try.t42, _, (by kernel_rfl : Try.prog.info? 42 = some Try.t42), rfl, rfl⟩⟩

def T43 : TI := ⟨2, 16, true, [.int .i64 0, .int .i64 0], [1, 1], (.arr 2 3), 1, [], []⟩

theorem ok43 : TI.Ok Try.prog 43 T43 := ⟨⟨Try.t43, _, (by kernel_rfl : Try.prog.info? 43 = some Try.t43), rfl, rfl, rfl, rfl⟩, ⟨_, Try.underlying43, rfl, rfl, ⟨Try.t3, (by kernel_rfl : Try.prog.info? 3 = some Try.t3), rfl, by decide⟩, fun h => absurd rfl h⟩, ⟨rfl, rfl⟩, fun h => by cases h⟩

def T54 : TI := ⟨1, 8, false, [.nilFunc], [1], .other, 0, [], []⟩

theorem ok54 : TI.Ok Try.prog 54 T54 := ⟨⟨Try.t54, _, (by kernel_rfl : Try.prog.info? 54 = some Try.t54), rfl, rfl, rfl, rfl⟩, ⟨_, Try.underlying54, rfl, rfl, trivial, fun h => absurd rfl h⟩, ⟨rfl, rfl⟩, fun _ => ⟨Try.t54, _, (by kernel_rfl : Try.prog.info? 54 = some Try.t54), rfl, rfl⟩⟩

def T55 : TI := ⟨1, 24, false, [.slice none 0 0], [1], (.slice 4), 1, [], []⟩

theorem ok55 : TI.Ok Try.prog 55 T55 := ⟨⟨Try.t55, _, (by kernel_rfl : Try.prog.info? 55 = some Try.t55), rfl, rfl, rfl, rfl⟩, ⟨_, Try.underlying55, rfl, rfl, ⟨Try.t4, (by kernel_rfl : Try.prog.info? 4 = some Try.t4), rfl, by decide⟩, fun h => absurd rfl h⟩, ⟨rfl, rfl⟩, fun _ => ⟨Try.t55, _, (by kernel_rfl : Try.prog.info? 55 = some Try.t55), rfl, rfl⟩⟩

def T56 : TI := ⟨1, 8, false, [.nilFunc], [1], .other, 0, [], []⟩

theorem ok56 : TI.Ok Try.prog 56 T56 := ⟨⟨Try.t56, _, (by kernel_rfl : Try.prog.info? 56 = some Try.t56), rfl, rfl, rfl, rfl⟩, ⟨_, Try.underlying56, rfl, rfl, trivial, fun h => absurd rfl h⟩, ⟨rfl, rfl⟩, fun _ => ⟨Try.t56, _, (by kernel_rfl : Try.prog.info? 56 = some Try.t56), rfl, rfl⟩⟩

def T64 : TI := ⟨1, 24, false, [.slice none 0 0], [1], (.slice 3), 1, [], []⟩

theorem ok64 : TI.Ok Try.prog 64 T64 := ⟨⟨Try.t64, _, (by kernel_rfl : Try.prog.info? 64 = some Try.t64), rfl, rfl, rfl, rfl⟩, ⟨_, Try.underlying64, rfl, rfl, ⟨Try.t3, (by kernel_rfl : Try.prog.info? 3 = some Try.t3), rfl, by decide⟩, fun h => absurd rfl h⟩, ⟨rfl, rfl⟩, fun _ => ⟨Try.t64, _, (by kernel_rfl : Try.prog.info? 64 = some Try.t64), rfl, rfl⟩⟩

def T67 : TI := ⟨1, 8, false, [.map none], [1], (.map 3 3), 0, [], []⟩

theorem ok67 : TI.Ok Try.prog 67 T67 := ⟨⟨Try.t67, _, (by kernel_rfl : Try.prog.info? 67 = some Try.t67), rfl, rfl, rfl, rfl⟩, ⟨_, Try.underlying67, rfl, rfl, trivial, fun h => absurd rfl h⟩, ⟨rfl, rfl⟩, fun _ => ⟨Try.t67, _, (by kernel_rfl : Try.prog.info? 67 = some Try.t67), rfl, rfl⟩⟩

def T71 : TI := ⟨1, 8, false, [.nilFunc], [1], .other, 0, [], []⟩

theorem ok71 : TI.Ok Try.prog 71 T71 := ⟨⟨Try.t71, _, (by kernel_rfl : Try.prog.info? 71 = some Try.t71), rfl, rfl, rfl, rfl⟩, ⟨_, Try.underlying71, rfl, rfl, trivial, fun h => absurd rfl h⟩, ⟨rfl, rfl⟩, fun _ => ⟨Try.t71, _, (by kernel_rfl : Try.prog.info? 71 = some Try.t71), rfl, rfl⟩⟩

def T75 : TI := ⟨1, 8, false, [.map none], [1], (.map 3 4), 0, [], []⟩

theorem ok75 : TI.Ok Try.prog 75 T75 := ⟨⟨Try.t75, _, (by kernel_rfl : Try.prog.info? 75 = some Try.t75), rfl, rfl, rfl, rfl⟩, ⟨_, Try.underlying75, rfl, rfl, trivial, fun h => absurd rfl h⟩, ⟨rfl, rfl⟩, fun _ => ⟨Try.t75, _, (by kernel_rfl : Try.prog.info? 75 = some Try.t75), rfl, rfl⟩⟩

def T82 : TI := ⟨1, 8, false, [.int .u64 0], [1], (.int .u64), 0, [], []⟩

theorem ok82 : TI.Ok Try.prog 82 T82 := ⟨⟨Try.t82, _, (by kernel_rfl : Try.prog.info? 82 = some Try.t82), rfl, rfl, rfl, rfl⟩, ⟨_, Try.underlying82, rfl, rfl, trivial, fun h => absurd rfl h⟩, ⟨rfl, rfl⟩, fun _ => ⟨Try.t82, _, (by kernel_rfl : Try.prog.info? 82 = some Try.t82), rfl, rfl⟩⟩

def tab : Tab
  | 1 => some T1
  | 2 => some T2
  | 3 => some T3
  | 4 => some T4
  | 9 => some T9
  | 22 => some T22
  | 25 => some T25
  | 26 => some T26
  | 35 => some T35
  | 42 => some T42
  | 43 => some T43
  | 54 => some T54
  | 55 => some T55
  | 56 => some T56
  | 64 => some T64
  | 67 => some T67
  | 71 => some T71
  | 75 => some T75
  | 82 => some T82
  | _ => none

theorem tab_ok : Tab.Ok Try.prog tab := fun t i h => by
  unfold tab at h
  split at h <;> first
    | (cases h; done)
    | (cases h; exact ok1)
    | (cases h; exact ok2)
    | (cases h; exact ok3)
    | (cases h; exact ok4)
    | (cases h; exact ok9)
    | (cases h; exact ok22)
    | (cases h; exact ok25)
    | (cases h; exact ok26)
    | (cases h; exact ok35)
    | (cases h; exact ok42)
    | (cases h; exact ok43)
    | (cases h; exact ok54)
    | (cases h; exact ok55)
    | (cases h; exact ok56)
    | (cases h; exact ok64)
    | (cases h; exact ok67)
    | (cases h; exact ok71)
    | (cases h; exact ok75)
    | (cases h; exact ok82)

theorem bt : type_of% @T1.eq_1 ∧ type_of% @T2.eq_1 ∧ type_of% @T3.eq_1 ∧ type_of% @T4.eq_1 ∧ type_of% @T9.eq_1 ∧ type_of% @T22.eq_1 ∧ type_of% @T25.eq_1 ∧ type_of% @T26.eq_1 ∧ type_of% @T35.eq_1 ∧ type_of% @T42.eq_1 ∧ type_of% @T43.eq_1 ∧ type_of% @T54.eq_1 ∧ type_of% @T55.eq_1 ∧ type_of% @T56.eq_1 ∧ type_of% @T64.eq_1 ∧ type_of% @T67.eq_1 ∧ type_of% @T71.eq_1 ∧ type_of% @T75.eq_1 ∧ type_of% @T82.eq_1 ∧ type_of% @tab.eq_1 ∧ type_of% @tab.eq_2 ∧ type_of% @tab.eq_3 ∧ type_of% @tab.eq_4 ∧ type_of% @tab.eq_5 ∧ type_of% @tab.eq_6 ∧ type_of% @tab.eq_7 ∧ type_of% @tab.eq_8 ∧ type_of% @tab.eq_9 ∧ type_of% @tab.eq_10 ∧ type_of% @tab.eq_11 ∧ type_of% @tab.eq_12 ∧ type_of% @tab.eq_13 ∧ type_of% @tab.eq_14 ∧ type_of% @tab.eq_15 ∧ type_of% @tab.eq_16 ∧ type_of% @tab.eq_17 ∧ type_of% @tab.eq_18 ∧ type_of% @tab.eq_19 := ⟨@T1.eq_1, @T2.eq_1, @T3.eq_1, @T4.eq_1, @T9.eq_1, @T22.eq_1, @T25.eq_1, @T26.eq_1, @T35.eq_1, @T42.eq_1, @T43.eq_1, @T54.eq_1, @T55.eq_1, @T56.eq_1, @T64.eq_1, @T67.eq_1, @T71.eq_1, @T75.eq_1, @T82.eq_1, @tab.eq_1, @tab.eq_2, @tab.eq_3, @tab.eq_4, @tab.eq_5, @tab.eq_6, @tab.eq_7, @tab.eq_8, @tab.eq_9, @tab.eq_10, @tab.eq_11, @tab.eq_12, @tab.eq_13, @tab.eq_14, @tab.eq_15, @tab.eq_16, @tab.eq_17, @tab.eq_18, @tab.eq_19⟩

theorem follows_mixed : Try.prog.follows .mixedOrders = true := by kernel_rfl

end Go.Proofs.Ytalhegbjlfkipaa.T
