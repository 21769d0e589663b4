import Derived.Test.YtcppnmohgaobdaaGreatRTO
import Derived.Test.YtcppnmohgaobdaaGreatProg
import Derived.KernelRfl
set_option linter.all false
/- The table of this seat's types: sizes, kinds, places of fields, each held against the program. -/
namespace Go.Proofs.YtcppnmohgaobdaaGreat.T
open Go Go.RowKit

def T2 : TI := ⟨1, 8, false, [.int .i64 0], [1], (.int .i64), 0, [], []⟩

theorem ok2 : TI.Ok Tryz.prog 2 T2 := ⟨⟨Tryz.t2, _, (by kernel_rfl : Tryz.prog.info? 2 = some Tryz.t2), rfl, rfl, rfl, rfl⟩, ⟨_, Tryz.underlying2, rfl, rfl, trivial, fun h => absurd rfl h⟩, ⟨rfl, rfl⟩, fun _ => ⟨Tryz.t2, _, (by kernel_rfl : Tryz.prog.info? 2 = some Tryz.t2), rfl, rfl⟩⟩

def T3 : TI := ⟨1, 8, false, [.int .i64 0], [1], (.int .i64), 0, [], []⟩

theorem ok3 : TI.Ok Tryz.prog 3 T3 := ⟨⟨Tryz.t3, _, (by kernel_rfl : Tryz.prog.info? 3 = some Tryz.t3), rfl, rfl, rfl, rfl⟩, ⟨_, Tryz.underlying3, rfl, rfl, trivial, fun h => absurd rfl h⟩, ⟨rfl, rfl⟩, fun _ => ⟨Tryz.t3, _, (by kernel_rfl : Tryz.prog.info? 3 = some Tryz.t3), rfl, rfl⟩⟩

def T4 : TI := ⟨1, 1, false, [.bool false], [1], .bool, 0, [], []⟩

theorem ok4 : TI.Ok Tryz.prog 4 T4 := ⟨⟨Tryz.t4, _, (by kernel_rfl : Tryz.prog.info? 4 = some Tryz.t4), rfl, rfl, rfl, rfl⟩, ⟨_, Tryz.underlying4, rfl, rfl, trivial, fun h => absurd rfl h⟩, ⟨rfl, rfl⟩, fun _ => ⟨Tryz.t4, _, (by kernel_rfl : Tryz.prog.info? 4 = some Tryz.t4), rfl, rfl⟩⟩

def T5 : TI := ⟨1, 1, false, [.int .u8 0], [1], (.int .u8), 0, [], []⟩

theorem ok5 : TI.Ok Tryz.prog 5 T5 := ⟨⟨Tryz.t5, _, (by kernel_rfl : Tryz.prog.info? 5 = some Tryz.t5), rfl, rfl, rfl, rfl⟩, ⟨_, Tryz.underlying5, rfl, rfl, trivial, fun h => absurd rfl h⟩, ⟨rfl, rfl⟩, fun _ => ⟨Tryz.t5, _, (by kernel_rfl : Tryz.prog.info? 5 = some Tryz.t5), rfl, rfl⟩⟩

def T6 : TI := ⟨1, 1, false, [.int .u8 0], [1], (.int .u8), 0, [], []⟩

theorem ok6 : TI.Ok Tryz.prog 6 T6 := ⟨⟨Tryz.t6, _, (by kernel_rfl : Tryz.prog.info? 6 = some Tryz.t6), rfl, rfl, rfl, rfl⟩, ⟨_, Tryz.underlying6, rfl, rfl, trivial, fun h => absurd rfl h⟩, ⟨rfl, rfl⟩, fun _ => ⟨Tryz.t6, _, (by kernel_rfl : Tryz.prog.info? 6 = some Tryz.t6), rfl, rfl⟩⟩

def T8 : TI := ⟨4, 24, true, [.int .i64 0, .int .i64 0, .bool false, .int .u8 0], [1, 1, 1, 1], .struct, 0, [(0, 1, false), (1, 1, false), (2, 1, false), (3, 1, false)], []⟩

theorem ok8 : TI.Ok Tryz.prog 8 T8 := ⟨⟨Tryz.t8, _, (by kernel_rfl : Tryz.prog.info? 8 = some Tryz.t8), rfl, rfl, rfl, rfl⟩, ⟨_, Tryz.underlying8, rfl, rfl, ⟨_, _, rfl, ⟨Tryz.t2, _, (by kernel_rfl : Tryz.prog.info? 2 = some Tryz.t2), by decide, Tryz.underlying2, rfl⟩, ⟨_, _, rfl, ⟨Tryz.t3, _, (by kernel_rfl : Tryz.prog.info? 3 = some Tryz.t3), by decide, Tryz.underlying3, rfl⟩, ⟨_, _, rfl, ⟨Tryz.t4, _, (by kernel_rfl : Tryz.prog.info? 4 = some Tryz.t4), by decide, Tryz.underlying4, rfl⟩, ⟨_, _, rfl, ⟨Tryz.t6, _, (by kernel_rfl : Tryz.prog.info? 6 = some Tryz.t6), by decide, Tryz.underlying6, rfl⟩, rfl⟩⟩⟩⟩, fun h => absurd rfl h⟩, ⟨rfl, rfl⟩, fun h => by cases h⟩

def T9 : TI := ⟨1, 16, false, [.string ⟨#[]⟩], [1], .str, 0, [], []⟩

theorem ok9 : TI.Ok Tryz.prog 9 T9 := ⟨⟨Tryz.t9, _, (by kernel_rfl : Tryz.prog.info? 9 = some Tryz.t9), rfl, rfl, rfl, rfl⟩, ⟨_, Tryz.underlying9, rfl, rfl, trivial, fun h => absurd rfl h⟩, ⟨rfl, rfl⟩, fun _ => ⟨Tryz.t9, _, (by kernel_rfl : Tryz.prog.info? 9 = some Tryz.t9), rfl, rfl⟩⟩

def T10 : TI := ⟨1, 16, false, [.string ⟨#[]⟩], [1], .str, 0, [], []⟩

theorem ok10 : TI.Ok Tryz.prog 10 T10 := ⟨⟨Tryz.t10, _, (by kernel_rfl : Tryz.prog.info? 10 = some Tryz.t10), rfl, rfl, rfl, rfl⟩, ⟨_, Tryz.underlying10, rfl, rfl, trivial, fun h => absurd rfl h⟩, ⟨rfl, rfl⟩, fun _ => ⟨Tryz.t10, _, (by kernel_rfl : Tryz.prog.info? 10 = some Tryz.t10), rfl, rfl⟩⟩

def T11 : TI := ⟨1, 16, false, [.string ⟨#[]⟩], [1], .str, 0, [], []⟩

theorem ok11 : TI.Ok Tryz.prog 11 T11 := ⟨⟨Tryz.t11, _, (by kernel_rfl : Tryz.prog.info? 11 = some Tryz.t11), rfl, rfl, rfl, rfl⟩, ⟨_, Tryz.underlying11, rfl, rfl, trivial, fun h => absurd rfl h⟩, ⟨rfl, rfl⟩, fun _ => ⟨Tryz.t11, _, (by kernel_rfl : Tryz.prog.info? 11 = some Tryz.t11), rfl, rfl⟩⟩

def T12 : TI := ⟨1, 8, false, [.int .u64 0], [1], (.int .u64), 0, [], []⟩

theorem ok12 : TI.Ok Tryz.prog 12 T12 := ⟨⟨Tryz.t12, _, (by kernel_rfl : Tryz.prog.info? 12 = some Tryz.t12), rfl, rfl, rfl, rfl⟩, ⟨_, Tryz.underlying12, rfl, rfl, trivial, fun h => absurd rfl h⟩, ⟨rfl, rfl⟩, fun _ => ⟨Tryz.t12, _, (by kernel_rfl : Tryz.prog.info? 12 = some Tryz.t12), rfl, rfl⟩⟩

def T14 : TI := ⟨2, 24, true, [.string ⟨#[]⟩, .int .u64 0], [1, 1], .struct, 0, [(0, 1, false), (1, 1, false)], []⟩

theorem ok14 : TI.Ok Tryz.prog 14 T14 := ⟨⟨Tryz.t14, _, (by kernel_rfl : Tryz.prog.info? 14 = some Tryz.t14), rfl, rfl, rfl, rfl⟩, ⟨_, Tryz.underlying14, rfl, rfl, ⟨_, _, rfl, ⟨Tryz.t9, _, (by kernel_rfl : Tryz.prog.info? 9 = some Tryz.t9), by decide, Tryz.underlying9, rfl⟩, ⟨_, _, rfl, ⟨Tryz.t12, _, (by kernel_rfl : Tryz.prog.info? 12 = some Tryz.t12), by decide, Tryz.underlying12, rfl⟩, rfl⟩⟩, fun h => absurd rfl h⟩, ⟨rfl, rfl⟩, fun h => by cases h⟩

def T19 : TI := ⟨1, 8, true, [.pointer none], [1], .struct, 0, [(0, 1, false)], []⟩

theorem ok19 : TI.Ok Tryz.prog 19 T19 := ⟨⟨Tryz.t19, _, (by kernel_rfl : Tryz.prog.info? 19 = some Tryz.t19), rfl, rfl, rfl, rfl⟩, ⟨_, Tryz.underlying19, rfl, rfl, ⟨_, _, rfl, ⟨Tryz.t17, _, (by kernel_rfl : Tryz.prog.info? 17 = some Tryz.t17), by decide, Tryz.underlying17, rfl⟩, rfl⟩, fun h => absurd rfl h⟩, ⟨rfl, rfl⟩, fun h => by cases h⟩

def T22 : TI := ⟨1, 24, false, [.slice none 0 0], [2], (.slice 57), 2, [], []⟩

theorem ok22 : TI.Ok Tryz.prog 22 T22 := ⟨⟨Tryz.t22, _, (by kernel_rfl : Tryz.prog.info? 22 = some Tryz.t22), rfl, rfl, rfl, rfl⟩, ⟨_, Tryz.underlying22, rfl, rfl, ⟨Tryz.t57, (by kernel_rfl : Tryz.prog.info? 57 = some Tryz.t57), rfl, by decide⟩, fun h => absurd rfl h⟩, ⟨rfl, rfl⟩, fun _ => ⟨Tryz.t22, _, (by kernel_rfl : Tryz.prog.info? 22 = some Tryz.t22), rfl, rfl⟩⟩

def T23 : TI := ⟨1, 24, false, [.slice none 0 0], [3], (.slice 40), 3, [], []⟩

theorem ok23 : TI.Ok Tryz.prog 23 T23 := ⟨⟨Tryz.t23, _, (by kernel_rfl : Tryz.prog.info? 23 = some Tryz.t23), rfl, rfl, rfl, rfl⟩, ⟨_, Tryz.underlying23, rfl, rfl, ⟨Tryz.t40, (by kernel_rfl : Tryz.prog.info? 40 = some Tryz.t40), rfl, by decide⟩, fun h => absurd rfl h⟩, ⟨rfl, rfl⟩, fun _ => ⟨Tryz.t23, _, (by kernel_rfl : Tryz.prog.info? 23 = some Tryz.t23), rfl, rfl⟩⟩

def T25 : TI := ⟨2, 48, true, [.slice none 0 0, .slice none 0 0], [2, 3], .struct, 0, [(0, 1, false), (1, 1, false)], []⟩

theorem ok25 : TI.Ok Tryz.prog 25 T25 := ⟨⟨Tryz.t25, _, (by kernel_rfl : Tryz.prog.info? 25 = some Tryz.t25), rfl, rfl, rfl, rfl⟩, ⟨_, Tryz.underlying25, rfl, rfl, ⟨_, _, rfl, ⟨Tryz.t22, _, (by kernel_rfl : Tryz.prog.info? 22 = some Tryz.t22), by decide, Tryz.underlying22, rfl⟩, ⟨_, _, rfl, ⟨Tryz.t23, _, (by kernel_rfl : Tryz.prog.info? 23 = some Tryz.t23), by decide, Tryz.underlying23, rfl⟩, rfl⟩⟩, fun h => absurd rfl h⟩, ⟨rfl, rfl⟩, fun h => by cases h⟩

def T27 : TI := ⟨2, 16, true, [.int .i64 0, .int .i64 0], [1, 1], .struct, 0, [(0, 1, false), (1, 1, false)], [true, true]⟩

theorem ok27 : TI.Ok Tryz.prog 27 T27 := ⟨⟨Tryz.t27, _, (by kernel_rfl : Tryz.prog.info? 27 = some Tryz.t27), rfl, rfl, rfl, rfl⟩, ⟨_, Tryz.underlying27, rfl, rfl, ⟨_, _, rfl, ⟨Tryz.t3, _, (by kernel_rfl : Tryz.prog.info? 3 = some Tryz.t3), by decide, Tryz.underlying3, rfl⟩, ⟨_, _, rfl, ⟨Tryz.t3, _, (by kernel_rfl : Tryz.prog.info? 3 = some Tryz.t3), by decide, Tryz.underlying3, rfl⟩, rfl⟩⟩, fun _ => ⟨Tryz.stoodInHeld27, Tryz.eqGuardType27, ⟨by decide, rfl, .inl ⟨_, _, rfl, Tryz.underlying3, ⟨by decide, rfl, .inl ⟨_, _, rfl, Tryz.underlying3, rfl⟩⟩⟩⟩⟩⟩, ⟨rfl, rfl⟩, fun h => by cases h⟩

def T30 : TI := ⟨1, 8, false, [.int .i64 0], [1], (.int .i64), 0, [], []⟩

theorem ok30 : TI.Ok Tryz.prog 30 T30 := ⟨⟨Tryz.t30, _, (by kernel_rfl : Tryz.prog.info? 30 = some Tryz.t30), rfl, rfl, rfl, rfl⟩, ⟨_, Tryz.underlying30, rfl, rfl, trivial, fun h => absurd rfl h⟩, ⟨rfl, rfl⟩, fun _ => ⟨Tryz.t30, _, (by kernel_rfl : Tryz.prog.info? 30 = some Tryz.t30), rfl, rfl⟩⟩

def T38 : TI := ⟨1, 24, false, [.slice none 0 0], [4], (.slice 44), 4, [], []⟩

theorem ok38 : TI.Ok Tryz.prog 38 T38 := ⟨⟨Tryz.t38, _, (by kernel_rfl : Tryz.prog.info? 38 = some Tryz.t38), rfl, rfl, rfl, rfl⟩, ⟨_, Tryz.underlying38, rfl, rfl, ⟨Tryz.t44, (by kernel_rfl : Tryz.prog.info? 44 = some Tryz.t44), rfl, by decide⟩, fun h => absurd rfl h⟩, ⟨rfl, rfl⟩, fun _ => ⟨Tryz.t38, _, (by kernel_rfl : Tryz.prog.info? 38 = some Tryz.t38), rfl, rfl⟩⟩

def T40 : TI := ⟨3, 48, true, [.string ⟨#[]⟩, .slice none 0 0, .bool false], [1, 4, 1], .struct, 0, [(0, 1, false), (1, 1, false), (2, 1, false)], []⟩

theorem ok40 : TI.Ok Tryz.prog 40 T40 := ⟨⟨Tryz.t40, _, (by kernel_rfl : Tryz.prog.info? 40 = some Tryz.t40), rfl, rfl, rfl, rfl⟩, ⟨_, Tryz.underlying40, rfl, rfl, ⟨_, _, rfl, ⟨Tryz.t9, _, (by kernel_rfl : Tryz.prog.info? 9 = some Tryz.t9), by decide, Tryz.underlying9, rfl⟩, ⟨_, _, rfl, ⟨Tryz.t38, _, (by kernel_rfl : Tryz.prog.info? 38 = some Tryz.t38), by decide, Tryz.underlying38, rfl⟩, ⟨_, _, rfl, ⟨Tryz.t4, _, (by kernel_rfl : Tryz.prog.info? 4 = some Tryz.t4), by decide, Tryz.underlying4, rfl⟩, rfl⟩⟩⟩, fun h => absurd rfl h⟩, ⟨rfl, rfl⟩, fun h => by cases h⟩

def T44 : TI := ⟨4, 40, true, [.string ⟨#[]⟩, .int .i64 0, .int .i64 0, .int .i64 0], [1, 1, 1, 1], .struct, 0, [(0, 1, false), (1, 1, false), (2, 2, true)], [false, true, true, true]⟩

theorem ok44 : TI.Ok Tryz.prog 44 T44 := ⟨⟨Tryz.t44, _, (by kernel_rfl : Tryz.prog.info? 44 = some Tryz.t44), rfl, rfl, rfl, rfl⟩, ⟨_, Tryz.underlying44, rfl, rfl, ⟨_, _, rfl, ⟨Tryz.t9, _, (by kernel_rfl : Tryz.prog.info? 9 = some Tryz.t9), by decide, Tryz.underlying9, rfl⟩, ⟨_, _, rfl, ⟨Tryz.t3, _, (by kernel_rfl : Tryz.prog.info? 3 = some Tryz.t3), by decide, Tryz.underlying3, rfl⟩, ⟨_, _, rfl, ⟨Tryz.t27, _, (by kernel_rfl : Tryz.prog.info? 27 = some Tryz.t27), by decide, Tryz.underlying27, rfl⟩, rfl⟩⟩⟩, fun _ => ⟨Tryz.stoodInHeld44, Tryz.eqGuardType44, ⟨by decide, rfl, .inr (.inl ⟨_, rfl, Tryz.underlying9, ⟨by decide, rfl, .inl ⟨_, _, rfl, Tryz.underlying3, ⟨by decide, rfl, .inr (.inr ⟨_, Tryz.t27, _, Tryz.underlying27, Tryz.stoodInHeld27, (by kernel_rfl : Tryz.prog.info? 27 = some Tryz.t27), rfl, ⟨⟨by decide, rfl, _, Tryz.underlying3⟩, ⟨⟨by decide, rfl, _, Tryz.underlying3⟩, trivial⟩⟩, rfl, rfl⟩)⟩⟩⟩⟩)⟩⟩⟩, ⟨rfl, rfl⟩, fun h => by cases h⟩

def T57 : TI := ⟨2, 24, true, [.string ⟨#[]⟩, .int .i64 0], [1, 1], .struct, 0, [(0, 1, false), (1, 1, false)], [false, true]⟩

theorem ok57 : TI.Ok Tryz.prog 57 T57 := ⟨⟨Tryz.t57, _, (by kernel_rfl : Tryz.prog.info? 57 = some Tryz.t57), rfl, rfl, rfl, rfl⟩, ⟨_, Tryz.underlying57, rfl, rfl, ⟨_, _, rfl, ⟨Tryz.t9, _, (by kernel_rfl : Tryz.prog.info? 9 = some Tryz.t9), by decide, Tryz.underlying9, rfl⟩, ⟨_, _, rfl, ⟨Tryz.t3, _, (by kernel_rfl : Tryz.prog.info? 3 = some Tryz.t3), by decide, Tryz.underlying3, rfl⟩, rfl⟩⟩, fun _ => ⟨Tryz.stoodInHeld57, Tryz.eqGuardType57, ⟨by decide, rfl, .inr (.inl ⟨_, rfl, Tryz.underlying9, ⟨by decide, rfl, .inl ⟨_, _, rfl, Tryz.underlying3, rfl⟩⟩⟩)⟩⟩⟩, ⟨rfl, rfl⟩, fun h => by cases h⟩

def T66 : TI := ⟨1, 8, false, [.int .u64 0], [1], (.int .u64), 0, [], []⟩

theorem ok66 : TI.Ok Tryz.prog 66 T66 := ⟨⟨Tryz.t66, _, (by kernel_rfl : Tryz.prog.info? 66 = some Tryz.t66), rfl, rfl, rfl, rfl⟩, ⟨_, Tryz.underlying66, rfl, rfl, trivial, fun h => absurd rfl h⟩, ⟨rfl, rfl⟩, fun _ => ⟨Tryz.t66, _, (by kernel_rfl : Tryz.prog.info? 66 = some Tryz.t66), rfl, rfl⟩⟩

def T68 : TI := ⟨2, 16, true, [.int .u64 0, .int .u64 0], [1, 1], .struct, 0, [(0, 1, false), (1, 1, false)], [true, true]⟩

theorem ok68 : TI.Ok Tryz.prog 68 T68 := ⟨⟨Tryz.t68, _, (by kernel_rfl : Tryz.prog.info? 68 = some Tryz.t68), rfl, rfl, rfl, rfl⟩, ⟨_, Tryz.underlying68, rfl, rfl, ⟨_, _, rfl, ⟨Tryz.t66, _, (by kernel_rfl : Tryz.prog.info? 66 = some Tryz.t66), by decide, Tryz.underlying66, rfl⟩, ⟨_, _, rfl, ⟨Tryz.t66, _, (by kernel_rfl : Tryz.prog.info? 66 = some Tryz.t66), by decide, Tryz.underlying66, rfl⟩, rfl⟩⟩, fun _ => ⟨Tryz.stoodInHeld68, Tryz.eqGuardType68, ⟨by decide, rfl, .inl ⟨_, _, rfl, Tryz.underlying66, ⟨by decide, rfl, .inl ⟨_, _, rfl, Tryz.underlying66, rfl⟩⟩⟩⟩⟩⟩, ⟨rfl, rfl⟩, fun h => by cases h⟩

def T72 : TI := ⟨1, 24, false, [.slice none 0 0], [2], (.slice 27), 2, [], []⟩

theorem ok72 : TI.Ok Tryz.prog 72 T72 := ⟨⟨Tryz.t72, _, (by kernel_rfl : Tryz.prog.info? 72 = some Tryz.t72), rfl, rfl, rfl, rfl⟩, ⟨_, Tryz.underlying72, rfl, rfl, ⟨Tryz.t27, (by kernel_rfl : Tryz.prog.info? 27 = some Tryz.t27), rfl, by decide⟩, fun h => absurd rfl h⟩, ⟨rfl, rfl⟩, fun _ => ⟨Tryz.t72, _, (by kernel_rfl : Tryz.prog.info? 72 = some Tryz.t72), rfl, rfl⟩⟩

def T76 : TI := ⟨2, 16, true, [.int .u64 0, .int .u64 0], [1, 1], .struct, 0, [(0, 1, false), (1, 1, false)], [true, true]⟩

theorem ok76 : TI.Ok Tryz.prog 76 T76 := ⟨⟨Tryz.t76, _, (by kernel_rfl : Tryz.prog.info? 76 = some Tryz.t76), rfl, rfl, rfl, rfl⟩, ⟨_, Tryz.underlying76, rfl, rfl, ⟨_, _, rfl, ⟨Tryz.t66, _, (by kernel_rfl : Tryz.prog.info? 66 = some Tryz.t66), by decide, Tryz.underlying66, rfl⟩, ⟨_, _, rfl, ⟨Tryz.t66, _, (by kernel_rfl : Tryz.prog.info? 66 = some Tryz.t66), by decide, Tryz.underlying66, rfl⟩, rfl⟩⟩, fun _ => ⟨Tryz.stoodInHeld76, Tryz.eqGuardType76, ⟨by decide, rfl, .inl ⟨_, _, rfl, Tryz.underlying66, ⟨by decide, rfl, .inl ⟨_, _, rfl, Tryz.underlying66, rfl⟩⟩⟩⟩⟩⟩, ⟨rfl, rfl⟩, fun h => by cases h⟩

def T88 : TI := ⟨1, 24, false, [.slice none 0 0], [1], (.slice 72), 1, [], []⟩

theorem ok88 : TI.Ok Tryz.prog 88 T88 := ⟨⟨Tryz.t88, _, (by kernel_rfl : Tryz.prog.info? 88 = some Tryz.t88), rfl, rfl, rfl, rfl⟩, ⟨_, Tryz.underlying88, rfl, rfl, ⟨Tryz.t72, (by kernel_rfl : Tryz.prog.info? 72 = some Tryz.t72), rfl, by decide⟩, fun h => absurd rfl h⟩, ⟨rfl, rfl⟩, fun _ => ⟨Tryz.t88, _, (by kernel_rfl : Tryz.prog.info? 88 = some Tryz.t88), rfl, rfl⟩⟩

def T95 : TI := ⟨1, 8, false, [.int .u64 0], [1], (.int .u64), 0, [], []⟩

theorem ok95 : TI.Ok Tryz.prog 95 T95 := ⟨⟨Tryz.t95, _, (by kernel_rfl : Tryz.prog.info? 95 = some Tryz.t95), rfl, rfl, rfl, rfl⟩, ⟨_, Tryz.underlying95, rfl, rfl, trivial, fun h => absurd rfl h⟩, ⟨rfl, rfl⟩, fun _ => ⟨Tryz.t95, _, (by kernel_rfl : Tryz.prog.info? 95 = some Tryz.t95), rfl, rfl⟩⟩

def T97 : TI := ⟨1, 24, false, [.slice none 0 0], [1], (.slice 101), 1, [], []⟩

theorem ok97 : TI.Ok Tryz.prog 97 T97 := ⟨⟨Tryz.t97, _, (by kernel_rfl : Tryz.prog.info? 97 = some Tryz.t97), rfl, rfl, rfl, rfl⟩, ⟨_, Tryz.underlying97, rfl, rfl, ⟨Tryz.t101, (by kernel_rfl : Tryz.prog.info? 101 = some Tryz.t101), rfl, by decide⟩, fun h => absurd rfl h⟩, ⟨rfl, rfl⟩, fun _ => ⟨Tryz.t97, _, (by kernel_rfl : Tryz.prog.info? 97 = some Tryz.t97), rfl, rfl⟩⟩

def T98 : TI := ⟨1, 24, false, [.slice none 0 0], [1], (.slice 101), 1, [], []⟩

theorem ok98 : TI.Ok Tryz.prog 98 T98 := ⟨⟨Tryz.t98, _, (by kernel_rfl : Tryz.prog.info? 98 = some Tryz.t98), rfl, rfl, rfl, rfl⟩, ⟨_, Tryz.underlying98, rfl, rfl, ⟨Tryz.t101, (by kernel_rfl : Tryz.prog.info? 101 = some Tryz.t101), rfl, by decide⟩, fun h => absurd rfl h⟩, ⟨rfl, rfl⟩, fun _ => ⟨Tryz.t98, _, (by kernel_rfl : Tryz.prog.info? 98 = some Tryz.t98), rfl, rfl⟩⟩

def T101 : TI := ⟨1, 24, false, [.slice none 0 0], [1], (.slice 3), 1, [], []⟩

theorem ok101 : TI.Ok Tryz.prog 101 T101 := ⟨⟨Tryz.t101, _, (by kernel_rfl : Tryz.prog.info? 101 = some Tryz.t101), rfl, rfl, rfl, rfl⟩, ⟨_, Tryz.underlying101, rfl, rfl, ⟨Tryz.t3, (by kernel_rfl : Tryz.prog.info? 3 = some Tryz.t3), rfl, by decide⟩, fun h => absurd rfl h⟩, ⟨rfl, rfl⟩, fun _ => ⟨Tryz.t101, _, (by kernel_rfl : Tryz.prog.info? 101 = some Tryz.t101), rfl, rfl⟩⟩

def T106 : TI := ⟨1, 8, false, [.map none], [1], (.map 9 4), 0, [], []⟩

theorem ok106 : TI.Ok Tryz.prog 106 T106 := ⟨⟨Tryz.t106, _, (by kernel_rfl : Tryz.prog.info? 106 = some Tryz.t106), rfl, rfl, rfl, rfl⟩, ⟨_, Tryz.underlying106, rfl, rfl, trivial, fun h => absurd rfl h⟩, ⟨rfl, rfl⟩, fun _ => ⟨Tryz.t106, _, (by kernel_rfl : Tryz.prog.info? 106 = some Tryz.t106), rfl, rfl⟩⟩

def T114 : TI := ⟨5, 88, true, [.slice none 0 0, .int .i64 0, .slice none 0 0, .slice none 0 0, .bool false], [1, 1, 1, 1, 1], .struct, 0, [(0, 1, false), (1, 1, false), (2, 1, false), (3, 1, false), (4, 1, false)], []⟩

theorem ok114 : TI.Ok Tryz.prog 114 T114 := ⟨⟨Tryz.t114, _, (by kernel_rfl : Tryz.prog.info? 114 = some Tryz.t114), rfl, rfl, rfl, rfl⟩, ⟨_, Tryz.underlying114, rfl, rfl, ⟨_, _, rfl, ⟨Tryz.t97, _, (by kernel_rfl : Tryz.prog.info? 97 = some Tryz.t97), by decide, Tryz.underlying97, rfl⟩, ⟨_, _, rfl, ⟨Tryz.t3, _, (by kernel_rfl : Tryz.prog.info? 3 = some Tryz.t3), by decide, Tryz.underlying3, rfl⟩, ⟨_, _, rfl, ⟨Tryz.t101, _, (by kernel_rfl : Tryz.prog.info? 101 = some Tryz.t101), by decide, Tryz.underlying101, rfl⟩, ⟨_, _, rfl, ⟨Tryz.t101, _, (by kernel_rfl : Tryz.prog.info? 101 = some Tryz.t101), by decide, Tryz.underlying101, rfl⟩, ⟨_, _, rfl, ⟨Tryz.t4, _, (by kernel_rfl : Tryz.prog.info? 4 = some Tryz.t4), by decide, Tryz.underlying4, rfl⟩, rfl⟩⟩⟩⟩⟩, fun h => absurd rfl h⟩, ⟨rfl, rfl⟩, fun h => by cases h⟩

def T120 : TI := ⟨1, 4, false, [.int .u32 0], [1], (.int .u32), 0, [], []⟩

theorem ok120 : TI.Ok Tryz.prog 120 T120 := ⟨⟨Tryz.t120, _, (by kernel_rfl : Tryz.prog.info? 120 = some Tryz.t120), rfl, rfl, rfl, rfl⟩, ⟨_, Tryz.underlying120, rfl, rfl, trivial, fun h => absurd rfl h⟩, ⟨rfl, rfl⟩, fun _ => ⟨Tryz.t120, _, (by kernel_rfl : Tryz.prog.info? 120 = some Tryz.t120), rfl, rfl⟩⟩

def T146 : TI := ⟨1, 1, false, [.int .u8 0], [1], (.int .u8), 0, [], []⟩

theorem ok146 : TI.Ok Tryz.prog 146 T146 := ⟨⟨Tryz.t146, _, (by kernel_rfl : Tryz.prog.info? 146 = some Tryz.t146), rfl, rfl, rfl, rfl⟩, ⟨_, Tryz.underlying146, rfl, rfl, trivial, fun h => absurd rfl h⟩, ⟨rfl, rfl⟩, fun _ => ⟨Tryz.t146, _, (by kernel_rfl : Tryz.prog.info? 146 = some Tryz.t146), rfl, rfl⟩⟩

def tab : Tab
  | 2 => some T2
  | 3 => some T3
  | 4 => some T4
  | 5 => some T5
  | 6 => some T6
  | 8 => some T8
  | 9 => some T9
  | 10 => some T10
  | 11 => some T11
  | 12 => some T12
  | 14 => some T14
  | 19 => some T19
  | 22 => some T22
  | 23 => some T23
  | 25 => some T25
  | 27 => some T27
  | 30 => some T30
  | 38 => some T38
  | 40 => some T40
  | 44 => some T44
  | 57 => some T57
  | 66 => some T66
  | 68 => some T68
  | 72 => some T72
  | 76 => some T76
  | 88 => some T88
  | 95 => some T95
  | 97 => some T97
  | 98 => some T98
  | 101 => some T101
  | 106 => some T106
  | 114 => some T114
  | 120 => some T120
  | 146 => some T146
  | _ => none

theorem tab_ok : Tab.Ok Tryz.prog tab := fun t i h => by
  unfold tab at h
  split at h <;> first
    | (cases h; done)
    | (cases h; exact ok2)
    | (cases h; exact ok3)
    | (cases h; exact ok4)
    | (cases h; exact ok5)
    | (cases h; exact ok6)
    | (cases h; exact ok8)
    | (cases h; exact ok9)
    | (cases h; exact ok10)
    | (cases h; exact ok11)
    | (cases h; exact ok12)
    | (cases h; exact ok14)
    | (cases h; exact ok19)
    | (cases h; exact ok22)
    | (cases h; exact ok23)
    | (cases h; exact ok25)
    | (cases h; exact ok27)
    | (cases h; exact ok30)
    | (cases h; exact ok38)
    | (cases h; exact ok40)
    | (cases h; exact ok44)
    | (cases h; exact ok57)
    | (cases h; exact ok66)
    | (cases h; exact ok68)
    | (cases h; exact ok72)
    | (cases h; exact ok76)
    | (cases h; exact ok88)
    | (cases h; exact ok95)
    | (cases h; exact ok97)
    | (cases h; exact ok98)
    | (cases h; exact ok101)
    | (cases h; exact ok106)
    | (cases h; exact ok114)
    | (cases h; exact ok120)
    | (cases h; exact ok146)

theorem bt : type_of% @T2.eq_1 ∧ type_of% @T3.eq_1 ∧ type_of% @T4.eq_1 ∧ type_of% @T5.eq_1 ∧ type_of% @T6.eq_1 ∧ type_of% @T8.eq_1 ∧ type_of% @T9.eq_1 ∧ type_of% @T10.eq_1 ∧ type_of% @T11.eq_1 ∧ type_of% @T12.eq_1 ∧ type_of% @T14.eq_1 ∧ type_of% @T19.eq_1 ∧ type_of% @T22.eq_1 ∧ type_of% @T23.eq_1 ∧ type_of% @T25.eq_1 ∧ type_of% @T27.eq_1 ∧ type_of% @T30.eq_1 ∧ type_of% @T38.eq_1 ∧ type_of% @T40.eq_1 ∧ type_of% @T44.eq_1 ∧ type_of% @T57.eq_1 ∧ type_of% @T66.eq_1 ∧ type_of% @T68.eq_1 ∧ type_of% @T72.eq_1 ∧ type_of% @T76.eq_1 ∧ type_of% @T88.eq_1 ∧ type_of% @T95.eq_1 ∧ type_of% @T97.eq_1 ∧ type_of% @T98.eq_1 ∧ type_of% @T101.eq_1 ∧ type_of% @T106.eq_1 ∧ type_of% @T114.eq_1 ∧ type_of% @T120.eq_1 ∧ type_of% @T146.eq_1 ∧ type_of% @tab.eq_1 ∧ type_of% @tab.eq_2 ∧ type_of% @tab.eq_3 ∧ type_of% @tab.eq_4 ∧ type_of% @tab.eq_5 ∧ type_of% @tab.eq_6 ∧ type_of% @tab.eq_7 ∧ type_of% @tab.eq_8 ∧ type_of% @tab.eq_9 ∧ type_of% @tab.eq_10 ∧ type_of% @tab.eq_11 ∧ type_of% @tab.eq_12 ∧ type_of% @tab.eq_13 ∧ type_of% @tab.eq_14 ∧ type_of% @tab.eq_15 ∧ type_of% @tab.eq_16 ∧ type_of% @tab.eq_17 ∧ type_of% @tab.eq_18 ∧ type_of% @tab.eq_19 ∧ type_of% @tab.eq_20 ∧ type_of% @tab.eq_21 ∧ type_of% @tab.eq_22 ∧ type_of% @tab.eq_23 ∧ type_of% @tab.eq_24 ∧ type_of% @tab.eq_25 ∧ type_of% @tab.eq_26 ∧ type_of% @tab.eq_27 ∧ type_of% @tab.eq_28 ∧ type_of% @tab.eq_29 ∧ type_of% @tab.eq_30 ∧ type_of% @tab.eq_31 ∧ type_of% @tab.eq_32 ∧ type_of% @tab.eq_33 ∧ type_of% @tab.eq_34 := ⟨@T2.eq_1, @T3.eq_1, @T4.eq_1, @T5.eq_1, @T6.eq_1, @T8.eq_1, @T9.eq_1, @T10.eq_1, @T11.eq_1, @T12.eq_1, @T14.eq_1, @T19.eq_1, @T22.eq_1, @T23.eq_1, @T25.eq_1, @T27.eq_1, @T30.eq_1, @T38.eq_1, @T40.eq_1, @T44.eq_1, @T57.eq_1, @T66.eq_1, @T68.eq_1, @T72.eq_1, @T76.eq_1, @T88.eq_1, @T95.eq_1, @T97.eq_1, @T98.eq_1, @T101.eq_1, @T106.eq_1, @T114.eq_1, @T120.eq_1, @T146.eq_1, @tab.eq_1, @tab.eq_2, @tab.eq_3, @tab.eq_4, @tab.eq_5, @tab.eq_6, @tab.eq_7, @tab.eq_8, @tab.eq_9, @tab.eq_10, @tab.eq_11, @tab.eq_12, @tab.eq_13, @tab.eq_14, @tab.eq_15, @tab.eq_16, @tab.eq_17, @tab.eq_18, @tab.eq_19, @tab.eq_20, @tab.eq_21, @tab.eq_22, @tab.eq_23, @tab.eq_24, @tab.eq_25, @tab.eq_26, @tab.eq_27, @tab.eq_28, @tab.eq_29, @tab.eq_30, @tab.eq_31, @tab.eq_32, @tab.eq_33, @tab.eq_34⟩

theorem follows_mixed : Tryz.prog.follows .mixedOrders = true := by kernel_rfl

end Go.Proofs.YtcppnmohgaobdaaGreat.T

