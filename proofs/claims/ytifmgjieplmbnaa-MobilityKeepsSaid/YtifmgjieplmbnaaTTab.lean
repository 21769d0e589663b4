/- The table of this seat's types: sizes, kinds, places of fields, each held against the program. -/
import Derived.Test.YtifmgjieplmbnaaTO
import Derived.Test.YtifmgjieplmbnaaProg
import Derived.KernelRfl
namespace Go.Proofs.Ytifmgjieplmbnaa.T
open Go Go.RowKit

def T2 : TI := ⟨1, 8, false, [.int .i64 0], [1], (.int .i64), 0, [], false⟩

theorem ok2 : TI.Ok Try.prog 2 T2 := ⟨⟨Try.t2, _, (by kernel_rfl : Try.prog.info? 2 = some Try.t2), rfl, rfl, rfl, rfl⟩, ⟨_, Try.underlying2, rfl, rfl, trivial, fun h => by cases h⟩, ⟨rfl, rfl⟩, fun _ => ⟨Try.t2, _, (by kernel_rfl : Try.prog.info? 2 = some Try.t2), rfl, rfl⟩⟩

def T3 : TI := ⟨1, 8, false, [.int .i64 0], [1], (.int .i64), 0, [], false⟩

theorem ok3 : TI.Ok Try.prog 3 T3 := ⟨⟨Try.t3, _, (by kernel_rfl : Try.prog.info? 3 = some Try.t3), rfl, rfl, rfl, rfl⟩, ⟨_, Try.underlying3, rfl, rfl, trivial, fun h => by cases h⟩, ⟨rfl, rfl⟩, fun _ => ⟨Try.t3, _, (by kernel_rfl : Try.prog.info? 3 = some Try.t3), rfl, rfl⟩⟩

def T4 : TI := ⟨1, 1, false, [.bool false], [1], .bool, 0, [], false⟩

theorem ok4 : TI.Ok Try.prog 4 T4 := ⟨⟨Try.t4, _, (by kernel_rfl : Try.prog.info? 4 = some Try.t4), rfl, rfl, rfl, rfl⟩, ⟨_, Try.underlying4, rfl, rfl, trivial, fun h => by cases h⟩, ⟨rfl, rfl⟩, fun _ => ⟨Try.t4, _, (by kernel_rfl : Try.prog.info? 4 = some Try.t4), rfl, rfl⟩⟩

def T5 : TI := ⟨1, 1, false, [.int .u8 0], [1], (.int .u8), 0, [], false⟩

theorem ok5 : TI.Ok Try.prog 5 T5 := ⟨⟨Try.t5, _, (by kernel_rfl : Try.prog.info? 5 = some Try.t5), rfl, rfl, rfl, rfl⟩, ⟨_, Try.underlying5, rfl, rfl, trivial, fun h => by cases h⟩, ⟨rfl, rfl⟩, fun _ => ⟨Try.t5, _, (by kernel_rfl : Try.prog.info? 5 = some Try.t5), rfl, rfl⟩⟩

def T6 : TI := ⟨1, 1, false, [.int .u8 0], [1], (.int .u8), 0, [], false⟩

theorem ok6 : TI.Ok Try.prog 6 T6 := ⟨⟨Try.t6, _, (by kernel_rfl : Try.prog.info? 6 = some Try.t6), rfl, rfl, rfl, rfl⟩, ⟨_, Try.underlying6, rfl, rfl, trivial, fun h => by cases h⟩, ⟨rfl, rfl⟩, fun _ => ⟨Try.t6, _, (by kernel_rfl : Try.prog.info? 6 = some Try.t6), rfl, rfl⟩⟩

def T8 : TI := ⟨4, 24, true, [.int .i64 0, .int .i64 0, .bool false, .int .u8 0], [1, 1, 1, 1], .struct, 0, [(0, 1, false), (1, 1, false), (2, 1, false), (3, 1, false)], false⟩

theorem ok8 : TI.Ok Try.prog 8 T8 := ⟨⟨Try.t8, _, (by kernel_rfl : Try.prog.info? 8 = some Try.t8), rfl, rfl, rfl, rfl⟩, ⟨_, Try.underlying8, rfl, rfl, ⟨_, _, rfl, ⟨Try.t2, _, (by kernel_rfl : Try.prog.info? 2 = some Try.t2), by decide, Try.underlying2, rfl⟩, ⟨_, _, rfl, ⟨Try.t3, _, (by kernel_rfl : Try.prog.info? 3 = some Try.t3), by decide, Try.underlying3, rfl⟩, ⟨_, _, rfl, ⟨Try.t4, _, (by kernel_rfl : Try.prog.info? 4 = some Try.t4), by decide, Try.underlying4, rfl⟩, ⟨_, _, rfl, ⟨Try.t6, _, (by kernel_rfl : Try.prog.info? 6 = some Try.t6), by decide, Try.underlying6, rfl⟩, rfl⟩⟩⟩⟩, fun h => by cases h⟩, ⟨rfl, rfl⟩, fun h => by cases h⟩

def T9 : TI := ⟨1, 16, false, [.string ⟨#[]⟩], [1], .str, 0, [], false⟩

theorem ok9 : TI.Ok Try.prog 9 T9 := ⟨⟨Try.t9, _, (by kernel_rfl : Try.prog.info? 9 = some Try.t9), rfl, rfl, rfl, rfl⟩, ⟨_, Try.underlying9, rfl, rfl, trivial, fun h => by cases h⟩, ⟨rfl, rfl⟩, fun _ => ⟨Try.t9, _, (by kernel_rfl : Try.prog.info? 9 = some Try.t9), rfl, rfl⟩⟩

def T10 : TI := ⟨1, 16, false, [.string ⟨#[]⟩], [1], .str, 0, [], false⟩

theorem ok10 : TI.Ok Try.prog 10 T10 := ⟨⟨Try.t10, _, (by kernel_rfl : Try.prog.info? 10 = some Try.t10), rfl, rfl, rfl, rfl⟩, ⟨_, Try.underlying10, rfl, rfl, trivial, fun h => by cases h⟩, ⟨rfl, rfl⟩, fun _ => ⟨Try.t10, _, (by kernel_rfl : Try.prog.info? 10 = some Try.t10), rfl, rfl⟩⟩

def T11 : TI := ⟨1, 16, false, [.string ⟨#[]⟩], [1], .str, 0, [], false⟩

theorem ok11 : TI.Ok Try.prog 11 T11 := ⟨⟨Try.t11, _, (by kernel_rfl : Try.prog.info? 11 = some Try.t11), rfl, rfl, rfl, rfl⟩, ⟨_, Try.underlying11, rfl, rfl, trivial, fun h => by cases h⟩, ⟨rfl, rfl⟩, fun _ => ⟨Try.t11, _, (by kernel_rfl : Try.prog.info? 11 = some Try.t11), rfl, rfl⟩⟩

def T12 : TI := ⟨1, 8, false, [.int .u64 0], [1], (.int .u64), 0, [], false⟩

theorem ok12 : TI.Ok Try.prog 12 T12 := ⟨⟨Try.t12, _, (by kernel_rfl : Try.prog.info? 12 = some Try.t12), rfl, rfl, rfl, rfl⟩, ⟨_, Try.underlying12, rfl, rfl, trivial, fun h => by cases h⟩, ⟨rfl, rfl⟩, fun _ => ⟨Try.t12, _, (by kernel_rfl : Try.prog.info? 12 = some Try.t12), rfl, rfl⟩⟩

def T14 : TI := ⟨2, 24, true, [.string ⟨#[]⟩, .int .u64 0], [1, 1], .struct, 0, [(0, 1, false), (1, 1, false)], false⟩

theorem ok14 : TI.Ok Try.prog 14 T14 := ⟨⟨Try.t14, _, (by kernel_rfl : Try.prog.info? 14 = some Try.t14), rfl, rfl, rfl, rfl⟩, ⟨_, Try.underlying14, rfl, rfl, ⟨_, _, rfl, ⟨Try.t9, _, (by kernel_rfl : Try.prog.info? 9 = some Try.t9), by decide, Try.underlying9, rfl⟩, ⟨_, _, rfl, ⟨Try.t12, _, (by kernel_rfl : Try.prog.info? 12 = some Try.t12), by decide, Try.underlying12, rfl⟩, rfl⟩⟩, fun h => by cases h⟩, ⟨rfl, rfl⟩, fun h => by cases h⟩

def T19 : TI := ⟨1, 8, true, [.pointer none], [1], .struct, 0, [(0, 1, false)], false⟩

theorem ok19 : TI.Ok Try.prog 19 T19 := ⟨⟨Try.t19, _, (by kernel_rfl : Try.prog.info? 19 = some Try.t19), rfl, rfl, rfl, rfl⟩, ⟨_, Try.underlying19, rfl, rfl, ⟨_, _, rfl, ⟨Try.t17, _, (by kernel_rfl : Try.prog.info? 17 = some Try.t17), by decide, Try.underlying17, rfl⟩, rfl⟩, fun h => by cases h⟩, ⟨rfl, rfl⟩, fun h => by cases h⟩

def T22 : TI := ⟨1, 24, false, [.slice none 0 0], [2], (.slice 35), 2, [], false⟩

theorem ok22 : TI.Ok Try.prog 22 T22 := ⟨⟨Try.t22, _, (by kernel_rfl : Try.prog.info? 22 = some Try.t22), rfl, rfl, rfl, rfl⟩, ⟨_, Try.underlying22, rfl, rfl, ⟨Try.t35, (by kernel_rfl : Try.prog.info? 35 = some Try.t35), rfl, by decide⟩, fun h => by cases h⟩, ⟨rfl, rfl⟩, fun _ => ⟨Try.t22, _, (by kernel_rfl : Try.prog.info? 22 = some Try.t22), rfl, rfl⟩⟩

def T23 : TI := ⟨1, 24, false, [.slice none 0 0], [3], (.slice 39), 3, [], false⟩

theorem ok23 : TI.Ok Try.prog 23 T23 := ⟨⟨Try.t23, _, (by kernel_rfl : Try.prog.info? 23 = some Try.t23), rfl, rfl, rfl, rfl⟩, ⟨_, Try.underlying23, rfl, rfl, ⟨Try.t39, (by kernel_rfl : Try.prog.info? 39 = some Try.t39), rfl, by decide⟩, fun h => by cases h⟩, ⟨rfl, rfl⟩, fun _ => ⟨Try.t23, _, (by kernel_rfl : Try.prog.info? 23 = some Try.t23), rfl, rfl⟩⟩

def T25 : TI := ⟨2, 48, true, [.slice none 0 0, .slice none 0 0], [2, 3], .struct, 0, [(0, 1, false), (1, 1, false)], false⟩

theorem ok25 : TI.Ok Try.prog 25 T25 := ⟨⟨Try.t25, _, (by kernel_rfl : Try.prog.info? 25 = some Try.t25), rfl, rfl, rfl, rfl⟩, ⟨_, Try.underlying25, rfl, rfl, ⟨_, _, rfl, ⟨Try.t22, _, (by kernel_rfl : Try.prog.info? 22 = some Try.t22), by decide, Try.underlying22, rfl⟩, ⟨_, _, rfl, ⟨Try.t23, _, (by kernel_rfl : Try.prog.info? 23 = some Try.t23), by decide, Try.underlying23, rfl⟩, rfl⟩⟩, fun h => by cases h⟩, ⟨rfl, rfl⟩, fun h => by cases h⟩

def T28 : TI := ⟨1, 24, false, [.slice none 0 0], [2], (.slice 42), 2, [], false⟩

theorem ok28 : TI.Ok Try.prog 28 T28 := ⟨⟨Try.t28, _, (by kernel_rfl : Try.prog.info? 28 = some Try.t28), rfl, rfl, rfl, rfl⟩, ⟨_, Try.underlying28, rfl, rfl, ⟨Try.t42, (by kernel_rfl : Try.prog.info? 42 = some Try.t42), rfl, by decide⟩, fun h => by cases h⟩, ⟨rfl, rfl⟩, fun _ => ⟨Try.t28, _, (by kernel_rfl : Try.prog.info? 28 = some Try.t28), rfl, rfl⟩⟩

def T29 : TI := ⟨1, 8, false, [.int .i64 0], [1], (.int .i64), 0, [], false⟩

theorem ok29 : TI.Ok Try.prog 29 T29 := ⟨⟨Try.t29, _, (by kernel_rfl : Try.prog.info? 29 = some Try.t29), rfl, rfl, rfl, rfl⟩, ⟨_, Try.underlying29, rfl, rfl, trivial, fun h => by cases h⟩, ⟨rfl, rfl⟩, fun _ => ⟨Try.t29, _, (by kernel_rfl : Try.prog.info? 29 = some Try.t29), rfl, rfl⟩⟩

def T35 : TI := ⟨2, 24, true, [.string ⟨#[]⟩, .int .i64 0], [1, 1], .struct, 0, [(0, 1, false), (1, 1, false)], false⟩

theorem ok35 : TI.Ok Try.prog 35 T35 := ⟨⟨Try.t35, _, (by kernel_rfl : Try.prog.info? 35 = some Try.t35), rfl, rfl, rfl, rfl⟩, ⟨_, Try.underlying35, rfl, rfl, ⟨_, _, rfl, ⟨Try.t9, _, (by kernel_rfl : Try.prog.info? 9 = some Try.t9), by decide, Try.underlying9, rfl⟩, ⟨_, _, rfl, ⟨Try.t3, _, (by kernel_rfl : Try.prog.info? 3 = some Try.t3), by decide, Try.underlying3, rfl⟩, rfl⟩⟩, fun h => by cases h⟩, ⟨rfl, rfl⟩, fun h => by cases h⟩

def T37 : TI := ⟨1, 24, false, [.slice none 0 0], [4], (.slice 46), 4, [], false⟩

theorem ok37 : TI.Ok Try.prog 37 T37 := ⟨⟨Try.t37, _, (by kernel_rfl : Try.prog.info? 37 = some Try.t37), rfl, rfl, rfl, rfl⟩, ⟨_, Try.underlying37, rfl, rfl, ⟨Try.t46, (by kernel_rfl : Try.prog.info? 46 = some Try.t46), rfl, by decide⟩, fun h => by cases h⟩, ⟨rfl, rfl⟩, fun _ => ⟨Try.t37, _, (by kernel_rfl : Try.prog.info? 37 = some Try.t37), rfl, rfl⟩⟩

def T39 : TI := ⟨3, 48, true, [.string ⟨#[]⟩, .slice none 0 0, .bool false], [1, 4, 1], .struct, 0, [(0, 1, false), (1, 1, false), (2, 1, false)], false⟩

theorem ok39 : TI.Ok Try.prog 39 T39 := ⟨⟨Try.t39, _, (by kernel_rfl : Try.prog.info? 39 = some Try.t39), rfl, rfl, rfl, rfl⟩, ⟨_, Try.underlying39, rfl, rfl, ⟨_, _, rfl, ⟨Try.t9, _, (by kernel_rfl : Try.prog.info? 9 = some Try.t9), by decide, Try.underlying9, rfl⟩, ⟨_, _, rfl, ⟨Try.t37, _, (by kernel_rfl : Try.prog.info? 37 = some Try.t37), by decide, Try.underlying37, rfl⟩, ⟨_, _, rfl, ⟨Try.t4, _, (by kernel_rfl : Try.prog.info? 4 = some Try.t4), by decide, Try.underlying4, rfl⟩, rfl⟩⟩⟩, fun h => by cases h⟩, ⟨rfl, rfl⟩, fun h => by cases h⟩

def T42 : TI := ⟨2, 16, true, [.int .i64 0, .int .i64 0], [1, 1], .struct, 0, [(0, 1, false), (1, 1, false)], true⟩

theorem ok42 : TI.Ok Try.prog 42 T42 := ⟨⟨Try.t42, _, (by kernel_rfl : Try.prog.info? 42 = some Try.t42), rfl, rfl, rfl, rfl⟩, ⟨_, Try.underlying42, rfl, rfl, ⟨_, _, rfl, ⟨Try.t3, _, (by kernel_rfl : Try.prog.info? 3 = some Try.t3), by decide, Try.underlying3, rfl⟩, ⟨_, _, rfl, ⟨Try.t3, _, (by kernel_rfl : Try.prog.info? 3 = some Try.t3), by decide, Try.underlying3, rfl⟩, rfl⟩⟩, fun _ => ⟨Try.stoodInHeld42, Try.eqGuardType42, rfl, ⟨⟨by decide, rfl, _, Try.underlying3⟩, ⟨⟨by decide, rfl, _, Try.underlying3⟩, trivial⟩⟩⟩⟩, ⟨rfl, rfl⟩, fun h => by cases h⟩

def T46 : TI := ⟨4, 40, true, [.string ⟨#[]⟩, .int .i64 0, .int .i64 0, .int .i64 0], [1, 1, 1, 1], .struct, 0, [(0, 1, false), (1, 1, false), (2, 2, true)], false⟩

theorem ok46 : TI.Ok Try.prog 46 T46 := ⟨⟨Try.t46, _, (by kernel_rfl : Try.prog.info? 46 = some Try.t46), rfl, rfl, rfl, rfl⟩, ⟨_, Try.underlying46, rfl, rfl, ⟨_, _, rfl, ⟨Try.t9, _, (by kernel_rfl : Try.prog.info? 9 = some Try.t9), by decide, Try.underlying9, rfl⟩, ⟨_, _, rfl, ⟨Try.t3, _, (by kernel_rfl : Try.prog.info? 3 = some Try.t3), by decide, Try.underlying3, rfl⟩, ⟨_, _, rfl, ⟨Try.t42, _, (by kernel_rfl : Try.prog.info? 42 = some Try.t42), by decide, Try.underlying42, rfl⟩, rfl⟩⟩⟩, fun h => by cases h⟩, ⟨rfl, rfl⟩, fun h => by cases h⟩

def T48 : TI := ⟨1, 24, false, [.slice none 0 0], [1], (.slice 49), 1, [], false⟩

theorem ok48 : TI.Ok Try.prog 48 T48 := ⟨⟨Try.t48, _, (by kernel_rfl : Try.prog.info? 48 = some Try.t48), rfl, rfl, rfl, rfl⟩, ⟨_, Try.underlying48, rfl, rfl, ⟨Try.t49, (by kernel_rfl : Try.prog.info? 49 = some Try.t49), rfl, by decide⟩, fun h => by cases h⟩, ⟨rfl, rfl⟩, fun _ => ⟨Try.t48, _, (by kernel_rfl : Try.prog.info? 48 = some Try.t48), rfl, rfl⟩⟩

def T49 : TI := ⟨1, 2, false, [.int .u16 0], [1], (.int .u16), 0, [], false⟩

theorem ok49 : TI.Ok Try.prog 49 T49 := ⟨⟨Try.t49, _, (by kernel_rfl : Try.prog.info? 49 = some Try.t49), rfl, rfl, rfl, rfl⟩, ⟨_, Try.underlying49, rfl, rfl, trivial, fun h => by cases h⟩, ⟨rfl, rfl⟩, fun _ => ⟨Try.t49, _, (by kernel_rfl : Try.prog.info? 49 = some Try.t49), rfl, rfl⟩⟩

def T53 : TI := ⟨1, 24, false, [.slice none 0 0], [1], (.slice 3), 1, [], false⟩

theorem ok53 : TI.Ok Try.prog 53 T53 := ⟨⟨Try.t53, _, (by kernel_rfl : Try.prog.info? 53 = some Try.t53), rfl, rfl, rfl, rfl⟩, ⟨_, Try.underlying53, rfl, rfl, ⟨Try.t3, (by kernel_rfl : Try.prog.info? 3 = some Try.t3), rfl, by decide⟩, fun h => by cases h⟩, ⟨rfl, rfl⟩, fun _ => ⟨Try.t53, _, (by kernel_rfl : Try.prog.info? 53 = some Try.t53), rfl, rfl⟩⟩

def T74 : TI := ⟨1, 24, false, [.slice none 0 0], [1], (.slice 53), 1, [], false⟩

theorem ok74 : TI.Ok Try.prog 74 T74 := ⟨⟨Try.t74, _, (by kernel_rfl : Try.prog.info? 74 = some Try.t74), rfl, rfl, rfl, rfl⟩, ⟨_, Try.underlying74, rfl, rfl, ⟨Try.t53, (by kernel_rfl : Try.prog.info? 53 = some Try.t53), rfl, by decide⟩, fun h => by cases h⟩, ⟨rfl, rfl⟩, fun _ => ⟨Try.t74, _, (by kernel_rfl : Try.prog.info? 74 = some Try.t74), rfl, rfl⟩⟩

def T75 : TI := ⟨1, 24, false, [.slice none 0 0], [1], (.slice 53), 1, [], false⟩

theorem ok75 : TI.Ok Try.prog 75 T75 := ⟨⟨Try.t75, _, (by kernel_rfl : Try.prog.info? 75 = some Try.t75), rfl, rfl, rfl, rfl⟩, ⟨_, Try.underlying75, rfl, rfl, ⟨Try.t53, (by kernel_rfl : Try.prog.info? 53 = some Try.t53), rfl, by decide⟩, fun h => by cases h⟩, ⟨rfl, rfl⟩, fun _ => ⟨Try.t75, _, (by kernel_rfl : Try.prog.info? 75 = some Try.t75), rfl, rfl⟩⟩

def T80 : TI := ⟨1, 24, false, [.slice none 0 0], [1], (.slice 28), 1, [], false⟩

theorem ok80 : TI.Ok Try.prog 80 T80 := ⟨⟨Try.t80, _, (by kernel_rfl : Try.prog.info? 80 = some Try.t80), rfl, rfl, rfl, rfl⟩, ⟨_, Try.underlying80, rfl, rfl, ⟨Try.t28, (by kernel_rfl : Try.prog.info? 28 = some Try.t28), rfl, by decide⟩, fun h => by cases h⟩, ⟨rfl, rfl⟩, fun _ => ⟨Try.t80, _, (by kernel_rfl : Try.prog.info? 80 = some Try.t80), rfl, rfl⟩⟩

def T83 : TI := ⟨1, 24, false, [.slice none 0 0], [1], (.slice 9), 1, [], false⟩

theorem ok83 : TI.Ok Try.prog 83 T83 := ⟨⟨Try.t83, _, (by kernel_rfl : Try.prog.info? 83 = some Try.t83), rfl, rfl, rfl, rfl⟩, ⟨_, Try.underlying83, rfl, rfl, ⟨Try.t9, (by kernel_rfl : Try.prog.info? 9 = some Try.t9), rfl, by decide⟩, fun h => by cases h⟩, ⟨rfl, rfl⟩, fun _ => ⟨Try.t83, _, (by kernel_rfl : Try.prog.info? 83 = some Try.t83), rfl, rfl⟩⟩

def T103 : TI := ⟨1, 1, false, [.int .i8 0], [1], (.int .i8), 0, [], false⟩

theorem ok103 : TI.Ok Try.prog 103 T103 := ⟨⟨Try.t103, _, (by kernel_rfl : Try.prog.info? 103 = some Try.t103), rfl, rfl, rfl, rfl⟩, ⟨_, Try.underlying103, rfl, rfl, trivial, fun h => by cases h⟩, ⟨rfl, rfl⟩, fun _ => ⟨Try.t103, _, (by kernel_rfl : Try.prog.info? 103 = some Try.t103), rfl, rfl⟩⟩

def T118 : TI := ⟨1, 8, false, [.int .u64 0], [1], (.int .u64), 0, [], false⟩

theorem ok118 : TI.Ok Try.prog 118 T118 := ⟨⟨Try.t118, _, (by kernel_rfl : Try.prog.info? 118 = some Try.t118), rfl, rfl, rfl, rfl⟩, ⟨_, Try.underlying118, rfl, rfl, trivial, fun h => by cases h⟩, ⟨rfl, rfl⟩, fun _ => ⟨Try.t118, _, (by kernel_rfl : Try.prog.info? 118 = some Try.t118), rfl, rfl⟩⟩

def T121 : TI := ⟨2, 16, true, [.int .u64 0, .int .u64 0], [1, 1], .struct, 0, [(0, 1, false), (1, 1, false)], true⟩

theorem ok121 : TI.Ok Try.prog 121 T121 := ⟨⟨Try.t121, _, (by kernel_rfl : Try.prog.info? 121 = some Try.t121), rfl, rfl, rfl, rfl⟩, ⟨_, Try.underlying121, rfl, rfl, ⟨_, _, rfl, ⟨Try.t118, _, (by kernel_rfl : Try.prog.info? 118 = some Try.t118), by decide, Try.underlying118, rfl⟩, ⟨_, _, rfl, ⟨Try.t118, _, (by kernel_rfl : Try.prog.info? 118 = some Try.t118), by decide, Try.underlying118, rfl⟩, rfl⟩⟩, fun _ => ⟨Try.stoodInHeld121, Try.eqGuardType121, rfl, ⟨⟨by decide, rfl, _, Try.underlying118⟩, ⟨⟨by decide, rfl, _, Try.underlying118⟩, trivial⟩⟩⟩⟩, ⟨rfl, rfl⟩, fun h => by cases h⟩

def T147 : TI := ⟨2, 48, true, [.slice none 0 0, .slice none 0 0], [1, 1], .struct, 0, [(0, 1, false), (1, 1, false)], false⟩

theorem ok147 : TI.Ok Try.prog 147 T147 := ⟨⟨Try.t147, _, (by kernel_rfl : Try.prog.info? 147 = some Try.t147), rfl, rfl, rfl, rfl⟩, ⟨_, Try.underlying147, rfl, rfl, ⟨_, _, rfl, ⟨Try.t53, _, (by kernel_rfl : Try.prog.info? 53 = some Try.t53), by decide, Try.underlying53, rfl⟩, ⟨_, _, rfl, ⟨Try.t75, _, (by kernel_rfl : Try.prog.info? 75 = some Try.t75), by decide, Try.underlying75, rfl⟩, rfl⟩⟩, fun h => by cases h⟩, ⟨rfl, rfl⟩, fun h => by cases h⟩

def T153 : TI := ⟨5, 88, true, [.slice none 0 0, .int .i64 0, .slice none 0 0, .slice none 0 0, .bool false], [1, 1, 1, 1, 1], .struct, 0, [(0, 1, false), (1, 1, false), (2, 1, false), (3, 1, false), (4, 1, false)], false⟩

theorem ok153 : TI.Ok Try.prog 153 T153 := ⟨⟨Try.t153, _, (by kernel_rfl : Try.prog.info? 153 = some Try.t153), rfl, rfl, rfl, rfl⟩, ⟨_, Try.underlying153, rfl, rfl, ⟨_, _, rfl, ⟨Try.t74, _, (by kernel_rfl : Try.prog.info? 74 = some Try.t74), by decide, Try.underlying74, rfl⟩, ⟨_, _, rfl, ⟨Try.t3, _, (by kernel_rfl : Try.prog.info? 3 = some Try.t3), by decide, Try.underlying3, rfl⟩, ⟨_, _, rfl, ⟨Try.t53, _, (by kernel_rfl : Try.prog.info? 53 = some Try.t53), by decide, Try.underlying53, rfl⟩, ⟨_, _, rfl, ⟨Try.t53, _, (by kernel_rfl : Try.prog.info? 53 = some Try.t53), by decide, Try.underlying53, rfl⟩, ⟨_, _, rfl, ⟨Try.t4, _, (by kernel_rfl : Try.prog.info? 4 = some Try.t4), by decide, Try.underlying4, rfl⟩, rfl⟩⟩⟩⟩⟩, fun h => by cases h⟩, ⟨rfl, rfl⟩, fun h => by cases h⟩

def T167 : TI := ⟨1, 8, false, [.map none], [1], (.map 9 4), 0, [], false⟩

theorem ok167 : TI.Ok Try.prog 167 T167 := ⟨⟨Try.t167, _, (by kernel_rfl : Try.prog.info? 167 = some Try.t167), rfl, rfl, rfl, rfl⟩, ⟨_, Try.underlying167, rfl, rfl, trivial, fun h => by cases h⟩, ⟨rfl, rfl⟩, fun _ => ⟨Try.t167, _, (by kernel_rfl : Try.prog.info? 167 = some Try.t167), rfl, rfl⟩⟩

def T178 : TI := ⟨4, 64, true, [.slice none 0 0, .slice none 0 0, .int .i64 0, .bool false], [1, 1, 1, 1], .struct, 0, [(0, 1, false), (1, 1, false), (2, 1, false), (3, 1, false)], false⟩

theorem ok178 : TI.Ok Try.prog 178 T178 := ⟨⟨Try.t178, _, (by kernel_rfl : Try.prog.info? 178 = some Try.t178), rfl, rfl, rfl, rfl⟩, ⟨_, Try.underlying178, rfl, rfl, ⟨_, _, rfl, ⟨Try.t75, _, (by kernel_rfl : Try.prog.info? 75 = some Try.t75), by decide, Try.underlying75, rfl⟩, ⟨_, _, rfl, ⟨Try.t53, _, (by kernel_rfl : Try.prog.info? 53 = some Try.t53), by decide, Try.underlying53, rfl⟩, ⟨_, _, rfl, ⟨Try.t3, _, (by kernel_rfl : Try.prog.info? 3 = some Try.t3), by decide, Try.underlying3, rfl⟩, ⟨_, _, rfl, ⟨Try.t4, _, (by kernel_rfl : Try.prog.info? 4 = some Try.t4), by decide, Try.underlying4, rfl⟩, rfl⟩⟩⟩⟩, fun h => by cases h⟩, ⟨rfl, rfl⟩, fun h => by cases h⟩

def T194 : TI := ⟨2, 16, true, [.int .u64 0, .int .u64 0], [1, 1], .struct, 0, [(0, 1, false), (1, 1, false)], true⟩

theorem ok194 : TI.Ok Try.prog 194 T194 := ⟨⟨Try.t194, _, (by kernel_rfl : Try.prog.info? 194 = some Try.t194), rfl, rfl, rfl, rfl⟩, ⟨_, Try.underlying194, rfl, rfl, ⟨_, _, rfl, ⟨Try.t118, _, (by kernel_rfl : Try.prog.info? 118 = some Try.t118), by decide, Try.underlying118, rfl⟩, ⟨_, _, rfl, ⟨Try.t118, _, (by kernel_rfl : Try.prog.info? 118 = some Try.t118), by decide, Try.underlying118, rfl⟩, rfl⟩⟩, fun _ => ⟨Try.stoodInHeld194, Try.eqGuardType194, rfl, ⟨⟨by decide, rfl, _, Try.underlying118⟩, ⟨⟨by decide, rfl, _, Try.underlying118⟩, trivial⟩⟩⟩⟩, ⟨rfl, rfl⟩, fun h => by cases h⟩

def T200 : TI := ⟨1, 8, false, [.int .u64 0], [1], (.int .u64), 0, [], false⟩

theorem ok200 : TI.Ok Try.prog 200 T200 := ⟨⟨Try.t200, _, (by kernel_rfl : Try.prog.info? 200 = some Try.t200), rfl, rfl, rfl, rfl⟩, ⟨_, Try.underlying200, rfl, rfl, trivial, fun h => by cases h⟩, ⟨rfl, rfl⟩, fun _ => ⟨Try.t200, _, (by kernel_rfl : Try.prog.info? 200 = some Try.t200), rfl, rfl⟩⟩

def T210 : TI := ⟨1, 4, false, [.int .u32 0], [1], (.int .u32), 0, [], false⟩

theorem ok210 : TI.Ok Try.prog 210 T210 := ⟨⟨Try.t210, _, (by kernel_rfl : Try.prog.info? 210 = some Try.t210), rfl, rfl, rfl, rfl⟩, ⟨_, Try.underlying210, rfl, rfl, trivial, fun h => by cases h⟩, ⟨rfl, rfl⟩, fun _ => ⟨Try.t210, _, (by kernel_rfl : Try.prog.info? 210 = some Try.t210), rfl, rfl⟩⟩

def T222 : TI := ⟨1, 1, false, [.int .u8 0], [1], (.int .u8), 0, [], false⟩

theorem ok222 : TI.Ok Try.prog 222 T222 := ⟨⟨Try.t222, _, (by kernel_rfl : Try.prog.info? 222 = some Try.t222), rfl, rfl, rfl, rfl⟩, ⟨_, Try.underlying222, rfl, rfl, trivial, fun h => by cases h⟩, ⟨rfl, rfl⟩, fun _ => ⟨Try.t222, _, (by kernel_rfl : Try.prog.info? 222 = some Try.t222), rfl, rfl⟩⟩

def tab : Tab
  | 2 => some T2
  | 3 => some T3
  | 4 => some T4
  | 5 => some T5
  | 6 => some T6
  | 8 => some T8
  | 9 => some T9
  | 10 => some T10
  | 11 => some T11
  | 12 => some T12
  | 14 => some T14
  | 19 => some T19
  | 22 => some T22
  | 23 => some T23
  | 25 => some T25
  | 28 => some T28
  | 29 => some T29
  | 35 => some T35
  | 37 => some T37
  | 39 => some T39
  | 42 => some T42
  | 46 => some T46
  | 48 => some T48
  | 49 => some T49
  | 53 => some T53
  | 74 => some T74
  | 75 => some T75
  | 80 => some T80
  | 83 => some T83
  | 103 => some T103
  | 118 => some T118
  | 121 => some T121
  | 147 => some T147
  | 153 => some T153
  | 167 => some T167
  | 178 => some T178
  | 194 => some T194
  | 200 => some T200
  | 210 => some T210
  | 222 => some T222
  | _ => none

theorem tab_ok : Tab.Ok Try.prog tab := fun t i h => by
  unfold tab at h
  split at h <;> first
    | (cases h; done)
    | (cases h; exact ok2)
    | (cases h; exact ok3)
    | (cases h; exact ok4)
    | (cases h; exact ok5)
    | (cases h; exact ok6)
    | (cases h; exact ok8)
    | (cases h; exact ok9)
    | (cases h; exact ok10)
    | (cases h; exact ok11)
    | (cases h; exact ok12)
    | (cases h; exact ok14)
    | (cases h; exact ok19)
    | (cases h; exact ok22)
    | (cases h; exact ok23)
    | (cases h; exact ok25)
    | (cases h; exact ok28)
    | (cases h; exact ok29)
    | (cases h; exact ok35)
    | (cases h; exact ok37)
    | (cases h; exact ok39)
    | (cases h; exact ok42)
    | (cases h; exact ok46)
    | (cases h; exact ok48)
    | (cases h; exact ok49)
    | (cases h; exact ok53)
    | (cases h; exact ok74)
    | (cases h; exact ok75)
    | (cases h; exact ok80)
    | (cases h; exact ok83)
    | (cases h; exact ok103)
    | (cases h; exact ok118)
    | (cases h; exact ok121)
    | (cases h; exact ok147)
    | (cases h; exact ok153)
    | (cases h; exact ok167)
    | (cases h; exact ok178)
    | (cases h; exact ok194)
    | (cases h; exact ok200)
    | (cases h; exact ok210)
    | (cases h; exact ok222)

theorem bt : type_of% @T2.eq_1 ∧ type_of% @T3.eq_1 ∧ type_of% @T4.eq_1 ∧ type_of% @T5.eq_1 ∧ type_of% @T6.eq_1 ∧ type_of% @T8.eq_1 ∧ type_of% @T9.eq_1 ∧ type_of% @T10.eq_1 ∧ type_of% @T11.eq_1 ∧ type_of% @T12.eq_1 ∧ type_of% @T14.eq_1 ∧ type_of% @T19.eq_1 ∧ type_of% @T22.eq_1 ∧ type_of% @T23.eq_1 ∧ type_of% @T25.eq_1 ∧ type_of% @T28.eq_1 ∧ type_of% @T29.eq_1 ∧ type_of% @T35.eq_1 ∧ type_of% @T37.eq_1 ∧ type_of% @T39.eq_1 ∧ type_of% @T42.eq_1 ∧ type_of% @T46.eq_1 ∧ type_of% @T48.eq_1 ∧ type_of% @T49.eq_1 ∧ type_of% @T53.eq_1 ∧ type_of% @T74.eq_1 ∧ type_of% @T75.eq_1 ∧ type_of% @T80.eq_1 ∧ type_of% @T83.eq_1 ∧ type_of% @T103.eq_1 ∧ type_of% @T118.eq_1 ∧ type_of% @T121.eq_1 ∧ type_of% @T147.eq_1 ∧ type_of% @T153.eq_1 ∧ type_of% @T167.eq_1 ∧ type_of% @T178.eq_1 ∧ type_of% @T194.eq_1 ∧ type_of% @T200.eq_1 ∧ type_of% @T210.eq_1 ∧ type_of% @T222.eq_1 ∧ type_of% @tab.eq_1 ∧ type_of% @tab.eq_2 ∧ type_of% @tab.eq_3 ∧ type_of% @tab.eq_4 ∧ type_of% @tab.eq_5 ∧ type_of% @tab.eq_6 ∧ type_of% @tab.eq_7 ∧ type_of% @tab.eq_8 ∧ type_of% @tab.eq_9 ∧ type_of% @tab.eq_10 ∧ type_of% @tab.eq_11 ∧ type_of% @tab.eq_12 ∧ type_of% @tab.eq_13 ∧ type_of% @tab.eq_14 ∧ type_of% @tab.eq_15 ∧ type_of% @tab.eq_16 ∧ type_of% @tab.eq_17 ∧ type_of% @tab.eq_18 ∧ type_of% @tab.eq_19 ∧ type_of% @tab.eq_20 ∧ type_of% @tab.eq_21 ∧ type_of% @tab.eq_22 ∧ type_of% @tab.eq_23 ∧ type_of% @tab.eq_24 ∧ type_of% @tab.eq_25 ∧ type_of% @tab.eq_26 ∧ type_of% @tab.eq_27 ∧ type_of% @tab.eq_28 ∧ type_of% @tab.eq_29 ∧ type_of% @tab.eq_30 ∧ type_of% @tab.eq_31 ∧ type_of% @tab.eq_32 ∧ type_of% @tab.eq_33 ∧ type_of% @tab.eq_34 ∧ type_of% @tab.eq_35 ∧ type_of% @tab.eq_36 ∧ type_of% @tab.eq_37 ∧ type_of% @tab.eq_38 ∧ type_of% @tab.eq_39 ∧ type_of% @tab.eq_40 := ⟨@T2.eq_1, @T3.eq_1, @T4.eq_1, @T5.eq_1, @T6.eq_1, @T8.eq_1, @T9.eq_1, @T10.eq_1, @T11.eq_1, @T12.eq_1, @T14.eq_1, @T19.eq_1, @T22.eq_1, @T23.eq_1, @T25.eq_1, @T28.eq_1, @T29.eq_1, @T35.eq_1, @T37.eq_1, @T39.eq_1, @T42.eq_1, @T46.eq_1, @T48.eq_1, @T49.eq_1, @T53.eq_1, @T74.eq_1, @T75.eq_1, @T80.eq_1, @T83.eq_1, @T103.eq_1, @T118.eq_1, @T121.eq_1, @T147.eq_1, @T153.eq_1, @T167.eq_1, @T178.eq_1, @T194.eq_1, @T200.eq_1, @T210.eq_1, @T222.eq_1, @tab.eq_1, @tab.eq_2, @tab.eq_3, @tab.eq_4, @tab.eq_5, @tab.eq_6, @tab.eq_7, @tab.eq_8, @tab.eq_9, @tab.eq_10, @tab.eq_11, @tab.eq_12, @tab.eq_13, @tab.eq_14, @tab.eq_15, @tab.eq_16, @tab.eq_17, @tab.eq_18, @tab.eq_19, @tab.eq_20, @tab.eq_21, @tab.eq_22, @tab.eq_23, @tab.eq_24, @tab.eq_25, @tab.eq_26, @tab.eq_27, @tab.eq_28, @tab.eq_29, @tab.eq_30, @tab.eq_31, @tab.eq_32, @tab.eq_33, @tab.eq_34, @tab.eq_35, @tab.eq_36, @tab.eq_37, @tab.eq_38, @tab.eq_39, @tab.eq_40⟩

theorem follows_mixed : Try.prog.follows .mixedOrders = true := by kernel_rfl

end Go.Proofs.Ytifmgjieplmbnaa.T
