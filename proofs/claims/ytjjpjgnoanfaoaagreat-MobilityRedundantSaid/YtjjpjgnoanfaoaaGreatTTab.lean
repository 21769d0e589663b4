/- The table of this seat's types: sizes, kinds, places of fields, each held against the program. -/
import Derived.Test.YtjjpjgnoanfaoaaGreatTO
import Derived.Test.YtjjpjgnoanfaoaaGreatProg
import Derived.KernelRfl
namespace Go.Proofs.YtjjpjgnoanfaoaaGreat.T
open Go Go.RowKit

def T2 : TI := ⟨1, 8, false, [.int .i64 0], [1], (.int .i64), 0, [], []⟩

theorem ok2 : TI.Ok Tryz.prog 2 T2 := ⟨⟨Tryz.t2, _, (by kernel_rfl : Tryz.prog.info? 2 = some Tryz.t2), rfl, rfl, rfl, rfl⟩, ⟨_, Tryz.underlying2, rfl, rfl, trivial, fun h => absurd rfl h⟩, ⟨rfl, rfl⟩, fun _ => ⟨Tryz.t2, _, (by kernel_rfl : Tryz.prog.info? 2 = some Tryz.t2), rfl, rfl⟩⟩

def T3 : TI := ⟨1, 8, false, [.int .i64 0], [1], (.int .i64), 0, [], []⟩

theorem ok3 : TI.Ok Tryz.prog 3 T3 := ⟨⟨Tryz.t3, _, (by kernel_rfl : Tryz.prog.info? 3 = some Tryz.t3), rfl, rfl, rfl, rfl⟩, ⟨_, Tryz.underlying3, rfl, rfl, trivial, fun h => absurd rfl h⟩, ⟨rfl, rfl⟩, fun _ => ⟨Tryz.t3, _, (by kernel_rfl : Tryz.prog.info? 3 = some Tryz.t3), rfl, rfl⟩⟩

def T4 : TI := ⟨1, 1, false, [.bool false], [1], .bool, 0, [], []⟩

theorem ok4 : TI.Ok Tryz.prog 4 T4 := ⟨⟨Tryz.t4, _, (by kernel_rfl : Tryz.prog.info? 4 = some Tryz.t4), rfl, rfl, rfl, rfl⟩, ⟨_, Tryz.underlying4, rfl, rfl, trivial, fun h => absurd rfl h⟩, ⟨rfl, rfl⟩, fun _ => ⟨Tryz.t4, _, (by kernel_rfl : Tryz.prog.info? 4 = some Tryz.t4), rfl, rfl⟩⟩

def T5 : TI := ⟨1, 1, false, [.int .u8 0], [1], (.int .u8), 0, [], []⟩

theorem ok5 : TI.Ok Tryz.prog 5 T5 := ⟨⟨Tryz.t5, _, (by kernel_rfl : Tryz.prog.info? 5 = some Tryz.t5), rfl, rfl, rfl, rfl⟩, ⟨_, Tryz.underlying5, rfl, rfl, trivial, fun h => absurd rfl h⟩, ⟨rfl, rfl⟩, fun _ => ⟨Tryz.t5, _, (by kernel_rfl : Tryz.prog.info? 5 = some Tryz.t5), rfl, rfl⟩⟩

def T6 : TI := ⟨1, 1, false, [.int .u8 0], [1], (.int .u8), 0, [], []⟩

theorem ok6 : TI.Ok Tryz.prog 6 T6 := ⟨⟨Tryz.t6, _, (by kernel_rfl : Tryz.prog.info? 6 = some Tryz.t6), rfl, rfl, rfl, rfl⟩, ⟨_, Tryz.underlying6, rfl, rfl, trivial, fun h => absurd rfl h⟩, ⟨rfl, rfl⟩, fun _ => ⟨Tryz.t6, _, (by kernel_rfl : Tryz.prog.info? 6 = some Tryz.t6), rfl, rfl⟩⟩

def T8 : TI := ⟨4, 24, true, [.int .i64 0, .int .i64 0, .bool false, .int .u8 0], [1, 1, 1, 1], .struct, 0, [(0, 1, false), (1, 1, false), (2, 1, false), (3, 1, false)], []⟩

theorem ok8 : TI.Ok Tryz.prog 8 T8 := ⟨⟨Tryz.t8, _, (by kernel_rfl : Tryz.prog.info? 8 = some Tryz.t8), rfl, rfl, rfl, rfl⟩, ⟨_, Tryz.underlying8, rfl, rfl, ⟨_, _, rfl, ⟨Tryz.t2, _, (by kernel_rfl : Tryz.prog.info? 2 = some Tryz.t2), by decide, Tryz.underlying2, rfl⟩, ⟨_, _, rfl, ⟨Tryz.t3, _, (by kernel_rfl : Tryz.prog.info? 3 = some Tryz.t3), by decide, Tryz.underlying3, rfl⟩, ⟨_, _, rfl, ⟨Tryz.t4, _, (by kernel_rfl : Tryz.prog.info? 4 = some Tryz.t4), by decide, Tryz.underlying4, rfl⟩, ⟨_, _, rfl, ⟨Tryz.t6, _, (by kernel_rfl : Tryz.prog.info? 6 = some Tryz.t6), by decide, Tryz.underlying6, rfl⟩, rfl⟩⟩⟩⟩, fun h => absurd rfl h⟩, ⟨rfl, rfl⟩, fun h => by cases h⟩

def T9 : TI := ⟨1, 16, false, [.string ⟨#[]⟩], [1], .str, 0, [], []⟩

theorem ok9 : TI.Ok Tryz.prog 9 T9 := ⟨⟨Tryz.t9, _, (by kernel_rfl : Tryz.prog.info? 9 = some Tryz.t9), rfl, rfl, rfl, rfl⟩, ⟨_, Tryz.underlying9, rfl, rfl, trivial, fun h => absurd rfl h⟩, ⟨rfl, rfl⟩, fun _ => ⟨Tryz.t9, _, (by kernel_rfl : Tryz.prog.info? 9 = some Tryz.t9), rfl, rfl⟩⟩

def T10 : TI := ⟨1, 16, false, [.string ⟨#[]⟩], [1], .str, 0, [], []⟩

theorem ok10 : TI.Ok Tryz.prog 10 T10 := ⟨⟨Tryz.t10, _, (by kernel_rfl : Tryz.prog.info? 10 = some Tryz.t10), rfl, rfl, rfl, rfl⟩, ⟨_, Tryz.underlying10, rfl, rfl, trivial, fun h => absurd rfl h⟩, ⟨rfl, rfl⟩, fun _ => ⟨Tryz.t10, _, (by kernel_rfl : Tryz.prog.info? 10 = some Tryz.t10), rfl, rfl⟩⟩

def T11 : TI := ⟨1, 16, false, [.string ⟨#[]⟩], [1], .str, 0, [], []⟩

theorem ok11 : TI.Ok Tryz.prog 11 T11 := ⟨⟨Tryz.t11, _, (by kernel_rfl : Tryz.prog.info? 11 = some Tryz.t11), rfl, rfl, rfl, rfl⟩, ⟨_, Tryz.underlying11, rfl, rfl, trivial, fun h => absurd rfl h⟩, ⟨rfl, rfl⟩, fun _ => ⟨Tryz.t11, _, (by kernel_rfl : Tryz.prog.info? 11 = some Tryz.t11), rfl, rfl⟩⟩

def T12 : TI := ⟨1, 8, false, [.int .u64 0], [1], (.int .u64), 0, [], []⟩

theorem ok12 : TI.Ok Tryz.prog 12 T12 := ⟨⟨Tryz.t12, _, (by kernel_rfl : Tryz.prog.info? 12 = some Tryz.t12), rfl, rfl, rfl, rfl⟩, ⟨_, Tryz.underlying12, rfl, rfl, trivial, fun h => absurd rfl h⟩, ⟨rfl, rfl⟩, fun _ => ⟨Tryz.t12, _, (by kernel_rfl : Tryz.prog.info? 12 = some Tryz.t12), rfl, rfl⟩⟩

def T14 : TI := ⟨2, 24, true, [.string ⟨#[]⟩, .int .u64 0], [1, 1], .struct, 0, [(0, 1, false), (1, 1, false)], []⟩

theorem ok14 : TI.Ok Tryz.prog 14 T14 := ⟨⟨Tryz.t14, _, (by kernel_rfl : Tryz.prog.info? 14 = some Tryz.t14), rfl, rfl, rfl, rfl⟩, ⟨_, Tryz.underlying14, rfl, rfl, ⟨_, _, rfl, ⟨Tryz.t9, _, (by kernel_rfl : Tryz.prog.info? 9 = some Tryz.t9), by decide, Tryz.underlying9, rfl⟩, ⟨_, _, rfl, ⟨Tryz.t12, _, (by kernel_rfl : Tryz.prog.info? 12 = some Tryz.t12), by decide, Tryz.underlying12, rfl⟩, rfl⟩⟩, fun h => absurd rfl h⟩, ⟨rfl, rfl⟩, fun h => by cases h⟩

def T19 : TI := ⟨1, 8, true, [.pointer none], [1], .struct, 0, [(0, 1, false)], []⟩

theorem ok19 : TI.Ok Tryz.prog 19 T19 := ⟨⟨Tryz.t19, _, (by kernel_rfl : Tryz.prog.info? 19 = some Tryz.t19), rfl, rfl, rfl, rfl⟩, ⟨_, Tryz.underlying19, rfl, rfl, ⟨_, _, rfl, ⟨Tryz.t17, _, (by kernel_rfl : Tryz.prog.info? 17 = some Tryz.t17), by decide, Tryz.underlying17, rfl⟩, rfl⟩, fun h => absurd rfl h⟩, ⟨rfl, rfl⟩, fun h => by cases h⟩

def T22 : TI := ⟨1, 24, false, [.slice none 0 0], [2], (.slice 78), 2, [], []⟩

theorem ok22 : TI.Ok Tryz.prog 22 T22 := ⟨⟨Tryz.t22, _, (by kernel_rfl : Tryz.prog.info? 22 = some Tryz.t22), rfl, rfl, rfl, rfl⟩, ⟨_, Tryz.underlying22, rfl, rfl, ⟨Tryz.t78, (by kernel_rfl : Tryz.prog.info? 78 = some Tryz.t78), rfl, by decide⟩, fun h => absurd rfl h⟩, ⟨rfl, rfl⟩, fun _ => ⟨Tryz.t22, _, (by kernel_rfl : Tryz.prog.info? 22 = some Tryz.t22), rfl, rfl⟩⟩

def T23 : TI := ⟨1, 24, false, [.slice none 0 0], [3], (.slice 72), 3, [], []⟩

theorem ok23 : TI.Ok Tryz.prog 23 T23 := ⟨⟨Tryz.t23, _, (by kernel_rfl : Tryz.prog.info? 23 = some Tryz.t23), rfl, rfl, rfl, rfl⟩, ⟨_, Tryz.underlying23, rfl, rfl, ⟨Tryz.t72, (by kernel_rfl : Tryz.prog.info? 72 = some Tryz.t72), rfl, by decide⟩, fun h => absurd rfl h⟩, ⟨rfl, rfl⟩, fun _ => ⟨Tryz.t23, _, (by kernel_rfl : Tryz.prog.info? 23 = some Tryz.t23), rfl, rfl⟩⟩

def T25 : TI := ⟨2, 48, true, [.slice none 0 0, .slice none 0 0], [2, 3], .struct, 0, [(0, 1, false), (1, 1, false)], []⟩

theorem ok25 : TI.Ok Tryz.prog 25 T25 := ⟨⟨Tryz.t25, _, (by kernel_rfl : Tryz.prog.info? 25 = some Tryz.t25), rfl, rfl, rfl, rfl⟩, ⟨_, Tryz.underlying25, rfl, rfl, ⟨_, _, rfl, ⟨Tryz.t22, _, (by kernel_rfl : Tryz.prog.info? 22 = some Tryz.t22), by decide, Tryz.underlying22, rfl⟩, ⟨_, _, rfl, ⟨Tryz.t23, _, (by kernel_rfl : Tryz.prog.info? 23 = some Tryz.t23), by decide, Tryz.underlying23, rfl⟩, rfl⟩⟩, fun h => absurd rfl h⟩, ⟨rfl, rfl⟩, fun h => by cases h⟩

def T28 : TI := ⟨1, 8, false, [.int .i64 0], [1], (.int .i64), 0, [], []⟩

theorem ok28 : TI.Ok Tryz.prog 28 T28 := ⟨⟨Tryz.t28, _, (by kernel_rfl : Tryz.prog.info? 28 = some Tryz.t28), rfl, rfl, rfl, rfl⟩, ⟨_, Tryz.underlying28, rfl, rfl, trivial, fun h => absurd rfl h⟩, ⟨rfl, rfl⟩, fun _ => ⟨Tryz.t28, _, (by kernel_rfl : Tryz.prog.info? 28 = some Tryz.t28), rfl, rfl⟩⟩

def T31 : TI := ⟨1, 24, false, [.slice none 0 0], [1], (.slice 40), 1, [], []⟩

theorem ok31 : TI.Ok Tryz.prog 31 T31 := ⟨⟨Tryz.t31, _, (by kernel_rfl : Tryz.prog.info? 31 = some Tryz.t31), rfl, rfl, rfl, rfl⟩, ⟨_, Tryz.underlying31, rfl, rfl, ⟨Tryz.t40, (by kernel_rfl : Tryz.prog.info? 40 = some Tryz.t40), rfl, by decide⟩, fun h => absurd rfl h⟩, ⟨rfl, rfl⟩, fun _ => ⟨Tryz.t31, _, (by kernel_rfl : Tryz.prog.info? 31 = some Tryz.t31), rfl, rfl⟩⟩

def T34 : TI := ⟨1, 24, false, [.slice none 0 0], [1], (.slice 9), 1, [], []⟩

theorem ok34 : TI.Ok Tryz.prog 34 T34 := ⟨⟨Tryz.t34, _, (by kernel_rfl : Tryz.prog.info? 34 = some Tryz.t34), rfl, rfl, rfl, rfl⟩, ⟨_, Tryz.underlying34, rfl, rfl, ⟨Tryz.t9, (by kernel_rfl : Tryz.prog.info? 9 = some Tryz.t9), rfl, by decide⟩, fun h => absurd rfl h⟩, ⟨rfl, rfl⟩, fun _ => ⟨Tryz.t34, _, (by kernel_rfl : Tryz.prog.info? 34 = some Tryz.t34), rfl, rfl⟩⟩

def T40 : TI := ⟨1, 24, false, [.slice none 0 0], [2], (.slice 43), 2, [], []⟩

theorem ok40 : TI.Ok Tryz.prog 40 T40 := ⟨⟨Tryz.t40, _, (by kernel_rfl : Tryz.prog.info? 40 = some Tryz.t40), rfl, rfl, rfl, rfl⟩, ⟨_, Tryz.underlying40, rfl, rfl, ⟨Tryz.t43, (by kernel_rfl : Tryz.prog.info? 43 = some Tryz.t43), rfl, by decide⟩, fun h => absurd rfl h⟩, ⟨rfl, rfl⟩, fun _ => ⟨Tryz.t40, _, (by kernel_rfl : Tryz.prog.info? 40 = some Tryz.t40), rfl, rfl⟩⟩

def T43 : TI := ⟨2, 16, true, [.int .i64 0, .int .i64 0], [1, 1], .struct, 0, [(0, 1, false), (1, 1, false)], [true, true]⟩

theorem ok43 : TI.Ok Tryz.prog 43 T43 := ⟨⟨Tryz.t43, _, (by kernel_rfl : Tryz.prog.info? 43 = some Tryz.t43), rfl, rfl, rfl, rfl⟩, ⟨_, Tryz.underlying43, rfl, rfl, ⟨_, _, rfl, ⟨Tryz.t3, _, (by kernel_rfl : Tryz.prog.info? 3 = some Tryz.t3), by decide, Tryz.underlying3, rfl⟩, ⟨_, _, rfl, ⟨Tryz.t3, _, (by kernel_rfl : Tryz.prog.info? 3 = some Tryz.t3), by decide, Tryz.underlying3, rfl⟩, rfl⟩⟩, fun _ => ⟨Tryz.stoodInHeld43, Tryz.eqGuardType43, ⟨by decide, rfl, .inl ⟨_, _, rfl, Tryz.underlying3, ⟨by decide, rfl, .inl ⟨_, _, rfl, Tryz.underlying3, rfl⟩⟩⟩⟩⟩⟩, ⟨rfl, rfl⟩, fun h => by cases h⟩

def T50 : TI := ⟨1, 24, false, [.slice none 0 0], [1], (.slice 3), 1, [], []⟩

theorem ok50 : TI.Ok Tryz.prog 50 T50 := ⟨⟨Tryz.t50, _, (by kernel_rfl : Tryz.prog.info? 50 = some Tryz.t50), rfl, rfl, rfl, rfl⟩, ⟨_, Tryz.underlying50, rfl, rfl, ⟨Tryz.t3, (by kernel_rfl : Tryz.prog.info? 3 = some Tryz.t3), rfl, by decide⟩, fun h => absurd rfl h⟩, ⟨rfl, rfl⟩, fun _ => ⟨Tryz.t50, _, (by kernel_rfl : Tryz.prog.info? 50 = some Tryz.t50), rfl, rfl⟩⟩

def T62 : TI := ⟨1, 24, false, [.slice none 0 0], [2], (.slice 25), 2, [], []⟩

theorem ok62 : TI.Ok Tryz.prog 62 T62 := ⟨⟨Tryz.t62, _, (by kernel_rfl : Tryz.prog.info? 62 = some Tryz.t62), rfl, rfl, rfl, rfl⟩, ⟨_, Tryz.underlying62, rfl, rfl, ⟨Tryz.t25, (by kernel_rfl : Tryz.prog.info? 25 = some Tryz.t25), rfl, by decide⟩, fun h => absurd rfl h⟩, ⟨rfl, rfl⟩, fun _ => ⟨Tryz.t62, _, (by kernel_rfl : Tryz.prog.info? 62 = some Tryz.t62), rfl, rfl⟩⟩

def T70 : TI := ⟨1, 24, false, [.slice none 0 0], [4], (.slice 76), 4, [], []⟩

theorem ok70 : TI.Ok Tryz.prog 70 T70 := ⟨⟨Tryz.t70, _, (by kernel_rfl : Tryz.prog.info? 70 = some Tryz.t70), rfl, rfl, rfl, rfl⟩, ⟨_, Tryz.underlying70, rfl, rfl, ⟨Tryz.t76, (by kernel_rfl : Tryz.prog.info? 76 = some Tryz.t76), rfl, by decide⟩, fun h => absurd rfl h⟩, ⟨rfl, rfl⟩, fun _ => ⟨Tryz.t70, _, (by kernel_rfl : Tryz.prog.info? 70 = some Tryz.t70), rfl, rfl⟩⟩

def T72 : TI := ⟨3, 48, true, [.string ⟨#[]⟩, .slice none 0 0, .bool false], [1, 4, 1], .struct, 0, [(0, 1, false), (1, 1, false), (2, 1, false)], []⟩

theorem ok72 : TI.Ok Tryz.prog 72 T72 := ⟨⟨Tryz.t72, _, (by kernel_rfl : Tryz.prog.info? 72 = some Tryz.t72), rfl, rfl, rfl, rfl⟩, ⟨_, Tryz.underlying72, rfl, rfl, ⟨_, _, rfl, ⟨Tryz.t9, _, (by kernel_rfl : Tryz.prog.info? 9 = some Tryz.t9), by decide, Tryz.underlying9, rfl⟩, ⟨_, _, rfl, ⟨Tryz.t70, _, (by kernel_rfl : Tryz.prog.info? 70 = some Tryz.t70), by decide, Tryz.underlying70, rfl⟩, ⟨_, _, rfl, ⟨Tryz.t4, _, (by kernel_rfl : Tryz.prog.info? 4 = some Tryz.t4), by decide, Tryz.underlying4, rfl⟩, rfl⟩⟩⟩, fun h => absurd rfl h⟩, ⟨rfl, rfl⟩, fun h => by cases h⟩

def T76 : TI := ⟨4, 40, true, [.string ⟨#[]⟩, .int .i64 0, .int .i64 0, .int .i64 0], [1, 1, 1, 1], .struct, 0, [(0, 1, false), (1, 1, false), (2, 2, true)], [false, true, true, true]⟩

theorem ok76 : TI.Ok Tryz.prog 76 T76 := ⟨⟨Tryz.t76, _, (by kernel_rfl : Tryz.prog.info? 76 = some Tryz.t76), rfl, rfl, rfl, rfl⟩, ⟨_, Tryz.underlying76, rfl, rfl, ⟨_, _, rfl, ⟨Tryz.t9, _, (by kernel_rfl : Tryz.prog.info? 9 = some Tryz.t9), by decide, Tryz.underlying9, rfl⟩, ⟨_, _, rfl, ⟨Tryz.t3, _, (by kernel_rfl : Tryz.prog.info? 3 = some Tryz.t3), by decide, Tryz.underlying3, rfl⟩, ⟨_, _, rfl, ⟨Tryz.t43, _, (by kernel_rfl : Tryz.prog.info? 43 = some Tryz.t43), by decide, Tryz.underlying43, rfl⟩, rfl⟩⟩⟩, fun _ => ⟨Tryz.stoodInHeld76, Tryz.eqGuardType76, ⟨by decide, rfl, .inr (.inl ⟨_, rfl, Tryz.underlying9, ⟨by decide, rfl, .inl ⟨_, _, rfl, Tryz.underlying3, ⟨by decide, rfl, .inr (.inr ⟨_, Tryz.t43, _, Tryz.underlying43, Tryz.stoodInHeld43, (by kernel_rfl : Tryz.prog.info? 43 = some Tryz.t43), rfl, ⟨⟨by decide, rfl, _, Tryz.underlying3⟩, ⟨⟨by decide, rfl, _, Tryz.underlying3⟩, trivial⟩⟩, rfl, rfl⟩)⟩⟩⟩⟩)⟩⟩⟩, ⟨rfl, rfl⟩, fun h => by cases h⟩

def T78 : TI := ⟨2, 24, true, [.string ⟨#[]⟩, .int .i64 0], [1, 1], .struct, 0, [(0, 1, false), (1, 1, false)], [false, true]⟩

theorem ok78 : TI.Ok Tryz.prog 78 T78 := ⟨⟨Tryz.t78, _, (by kernel_rfl : Tryz.prog.info? 78 = some Tryz.t78), rfl, rfl, rfl, rfl⟩, ⟨_, Tryz.underlying78, rfl, rfl, ⟨_, _, rfl, ⟨Tryz.t9, _, (by kernel_rfl : Tryz.prog.info? 9 = some Tryz.t9), by decide, Tryz.underlying9, rfl⟩, ⟨_, _, rfl, ⟨Tryz.t3, _, (by kernel_rfl : Tryz.prog.info? 3 = some Tryz.t3), by decide, Tryz.underlying3, rfl⟩, rfl⟩⟩, fun _ => ⟨Tryz.stoodInHeld78, Tryz.eqGuardType78, ⟨by decide, rfl, .inr (.inl ⟨_, rfl, Tryz.underlying9, ⟨by decide, rfl, .inl ⟨_, _, rfl, Tryz.underlying3, rfl⟩⟩⟩)⟩⟩⟩, ⟨rfl, rfl⟩, fun h => by cases h⟩

def T98 : TI := ⟨1, 24, false, [.slice none 0 0], [1], (.slice 50), 1, [], []⟩

theorem ok98 : TI.Ok Tryz.prog 98 T98 := ⟨⟨Tryz.t98, _, (by kernel_rfl : Tryz.prog.info? 98 = some Tryz.t98), rfl, rfl, rfl, rfl⟩, ⟨_, Tryz.underlying98, rfl, rfl, ⟨Tryz.t50, (by kernel_rfl : Tryz.prog.info? 50 = some Tryz.t50), rfl, by decide⟩, fun h => absurd rfl h⟩, ⟨rfl, rfl⟩, fun _ => ⟨Tryz.t98, _, (by kernel_rfl : Tryz.prog.info? 98 = some Tryz.t98), rfl, rfl⟩⟩

def T99 : TI := ⟨1, 24, false, [.slice none 0 0], [1], (.slice 50), 1, [], []⟩

theorem ok99 : TI.Ok Tryz.prog 99 T99 := ⟨⟨Tryz.t99, _, (by kernel_rfl : Tryz.prog.info? 99 = some Tryz.t99), rfl, rfl, rfl, rfl⟩, ⟨_, Tryz.underlying99, rfl, rfl, ⟨Tryz.t50, (by kernel_rfl : Tryz.prog.info? 50 = some Tryz.t50), rfl, by decide⟩, fun h => absurd rfl h⟩, ⟨rfl, rfl⟩, fun _ => ⟨Tryz.t99, _, (by kernel_rfl : Tryz.prog.info? 99 = some Tryz.t99), rfl, rfl⟩⟩

def T101 : TI := ⟨2, 48, true, [.slice none 0 0, .slice none 0 0], [1, 1], .struct, 0, [(0, 1, false), (1, 1, false)], []⟩

theorem ok101 : TI.Ok Tryz.prog 101 T101 := ⟨⟨Tryz.t101, _, (by kernel_rfl : Tryz.prog.info? 101 = some Tryz.t101), rfl, rfl, rfl, rfl⟩, ⟨_, Tryz.underlying101, rfl, rfl, ⟨_, _, rfl, ⟨Tryz.t50, _, (by kernel_rfl : Tryz.prog.info? 50 = some Tryz.t50), by decide, Tryz.underlying50, rfl⟩, ⟨_, _, rfl, ⟨Tryz.t99, _, (by kernel_rfl : Tryz.prog.info? 99 = some Tryz.t99), by decide, Tryz.underlying99, rfl⟩, rfl⟩⟩, fun h => absurd rfl h⟩, ⟨rfl, rfl⟩, fun h => by cases h⟩

def T136 : TI := ⟨1, 8, false, [.int .u64 0], [1], (.int .u64), 0, [], []⟩

theorem ok136 : TI.Ok Tryz.prog 136 T136 := ⟨⟨Tryz.t136, _, (by kernel_rfl : Tryz.prog.info? 136 = some Tryz.t136), rfl, rfl, rfl, rfl⟩, ⟨_, Tryz.underlying136, rfl, rfl, trivial, fun h => absurd rfl h⟩, ⟨rfl, rfl⟩, fun _ => ⟨Tryz.t136, _, (by kernel_rfl : Tryz.prog.info? 136 = some Tryz.t136), rfl, rfl⟩⟩

def T140 : TI := ⟨2, 16, true, [.int .u64 0, .int .u64 0], [1, 1], .struct, 0, [(0, 1, false), (1, 1, false)], [true, true]⟩

theorem ok140 : TI.Ok Tryz.prog 140 T140 := ⟨⟨Tryz.t140, _, (by kernel_rfl : Tryz.prog.info? 140 = some Tryz.t140), rfl, rfl, rfl, rfl⟩, ⟨_, Tryz.underlying140, rfl, rfl, ⟨_, _, rfl, ⟨Tryz.t136, _, (by kernel_rfl : Tryz.prog.info? 136 = some Tryz.t136), by decide, Tryz.underlying136, rfl⟩, ⟨_, _, rfl, ⟨Tryz.t136, _, (by kernel_rfl : Tryz.prog.info? 136 = some Tryz.t136), by decide, Tryz.underlying136, rfl⟩, rfl⟩⟩, fun _ => ⟨Tryz.stoodInHeld140, Tryz.eqGuardType140, ⟨by decide, rfl, .inl ⟨_, _, rfl, Tryz.underlying136, ⟨by decide, rfl, .inl ⟨_, _, rfl, Tryz.underlying136, rfl⟩⟩⟩⟩⟩⟩, ⟨rfl, rfl⟩, fun h => by cases h⟩

def T155 : TI := ⟨2, 16, true, [.int .u64 0, .int .u64 0], [1, 1], .struct, 0, [(0, 1, false), (1, 1, false)], [true, true]⟩

theorem ok155 : TI.Ok Tryz.prog 155 T155 := ⟨⟨Tryz.t155, _, (by kernel_rfl : Tryz.prog.info? 155 = some Tryz.t155), rfl, rfl, rfl, rfl⟩, ⟨_, Tryz.underlying155, rfl, rfl, ⟨_, _, rfl, ⟨Tryz.t136, _, (by kernel_rfl : Tryz.prog.info? 136 = some Tryz.t136), by decide, Tryz.underlying136, rfl⟩, ⟨_, _, rfl, ⟨Tryz.t136, _, (by kernel_rfl : Tryz.prog.info? 136 = some Tryz.t136), by decide, Tryz.underlying136, rfl⟩, rfl⟩⟩, fun _ => ⟨Tryz.stoodInHeld155, Tryz.eqGuardType155, ⟨by decide, rfl, .inl ⟨_, _, rfl, Tryz.underlying136, ⟨by decide, rfl, .inl ⟨_, _, rfl, Tryz.underlying136, rfl⟩⟩⟩⟩⟩⟩, ⟨rfl, rfl⟩, fun h => by cases h⟩

def T165 : TI := ⟨5, 88, true, [.slice none 0 0, .int .i64 0, .slice none 0 0, .slice none 0 0, .bool false], [1, 1, 1, 1, 1], .struct, 0, [(0, 1, false), (1, 1, false), (2, 1, false), (3, 1, false), (4, 1, false)], []⟩

theorem ok165 : TI.Ok Tryz.prog 165 T165 := ⟨⟨Tryz.t165, _, (by kernel_rfl : Tryz.prog.info? 165 = some Tryz.t165), rfl, rfl, rfl, rfl⟩, ⟨_, Tryz.underlying165, rfl, rfl, ⟨_, _, rfl, ⟨Tryz.t98, _, (by kernel_rfl : Tryz.prog.info? 98 = some Tryz.t98), by decide, Tryz.underlying98, rfl⟩, ⟨_, _, rfl, ⟨Tryz.t3, _, (by kernel_rfl : Tryz.prog.info? 3 = some Tryz.t3), by decide, Tryz.underlying3, rfl⟩, ⟨_, _, rfl, ⟨Tryz.t50, _, (by kernel_rfl : Tryz.prog.info? 50 = some Tryz.t50), by decide, Tryz.underlying50, rfl⟩, ⟨_, _, rfl, ⟨Tryz.t50, _, (by kernel_rfl : Tryz.prog.info? 50 = some Tryz.t50), by decide, Tryz.underlying50, rfl⟩, ⟨_, _, rfl, ⟨Tryz.t4, _, (by kernel_rfl : Tryz.prog.info? 4 = some Tryz.t4), by decide, Tryz.underlying4, rfl⟩, rfl⟩⟩⟩⟩⟩, fun h => absurd rfl h⟩, ⟨rfl, rfl⟩, fun h => by cases h⟩

def T175 : TI := ⟨4, 64, true, [.slice none 0 0, .slice none 0 0, .int .i64 0, .bool false], [1, 1, 1, 1], .struct, 0, [(0, 1, false), (1, 1, false), (2, 1, false), (3, 1, false)], []⟩

theorem ok175 : TI.Ok Tryz.prog 175 T175 := ⟨⟨Tryz.t175, _, (by kernel_rfl : Tryz.prog.info? 175 = some Tryz.t175), rfl, rfl, rfl, rfl⟩, ⟨_, Tryz.underlying175, rfl, rfl, ⟨_, _, rfl, ⟨Tryz.t99, _, (by kernel_rfl : Tryz.prog.info? 99 = some Tryz.t99), by decide, Tryz.underlying99, rfl⟩, ⟨_, _, rfl, ⟨Tryz.t50, _, (by kernel_rfl : Tryz.prog.info? 50 = some Tryz.t50), by decide, Tryz.underlying50, rfl⟩, ⟨_, _, rfl, ⟨Tryz.t3, _, (by kernel_rfl : Tryz.prog.info? 3 = some Tryz.t3), by decide, Tryz.underlying3, rfl⟩, ⟨_, _, rfl, ⟨Tryz.t4, _, (by kernel_rfl : Tryz.prog.info? 4 = some Tryz.t4), by decide, Tryz.underlying4, rfl⟩, rfl⟩⟩⟩⟩, fun h => absurd rfl h⟩, ⟨rfl, rfl⟩, fun h => by cases h⟩

def T189 : TI := ⟨1, 8, false, [.map none], [1], (.map 9 4), 0, [], []⟩

theorem ok189 : TI.Ok Tryz.prog 189 T189 := ⟨⟨Tryz.t189, _, (by kernel_rfl : Tryz.prog.info? 189 = some Tryz.t189), rfl, rfl, rfl, rfl⟩, ⟨_, Tryz.underlying189, rfl, rfl, trivial, fun h => absurd rfl h⟩, ⟨rfl, rfl⟩, fun _ => ⟨Tryz.t189, _, (by kernel_rfl : Tryz.prog.info? 189 = some Tryz.t189), rfl, rfl⟩⟩

def T201 : TI := ⟨1, 8, false, [.int .u64 0], [1], (.int .u64), 0, [], []⟩

theorem ok201 : TI.Ok Tryz.prog 201 T201 := ⟨⟨Tryz.t201, _, (by kernel_rfl : Tryz.prog.info? 201 = some Tryz.t201), rfl, rfl, rfl, rfl⟩, ⟨_, Tryz.underlying201, rfl, rfl, trivial, fun h => absurd rfl h⟩, ⟨rfl, rfl⟩, fun _ => ⟨Tryz.t201, _, (by kernel_rfl : Tryz.prog.info? 201 = some Tryz.t201), rfl, rfl⟩⟩

def T222 : TI := ⟨1, 4, false, [.int .u32 0], [1], (.int .u32), 0, [], []⟩

theorem ok222 : TI.Ok Tryz.prog 222 T222 := ⟨⟨Tryz.t222, _, (by kernel_rfl : Tryz.prog.info? 222 = some Tryz.t222), rfl, rfl, rfl, rfl⟩, ⟨_, Tryz.underlying222, rfl, rfl, trivial, fun h => absurd rfl h⟩, ⟨rfl, rfl⟩, fun _ => ⟨Tryz.t222, _, (by kernel_rfl : Tryz.prog.info? 222 = some Tryz.t222), rfl, rfl⟩⟩

def T235 : TI := ⟨1, 1, false, [.int .u8 0], [1], (.int .u8), 0, [], []⟩

theorem ok235 : TI.Ok Tryz.prog 235 T235 := ⟨⟨Tryz.t235, _, (by kernel_rfl : Tryz.prog.info? 235 = some Tryz.t235), rfl, rfl, rfl, rfl⟩, ⟨_, Tryz.underlying235, rfl, rfl, trivial, fun h => absurd rfl h⟩, ⟨rfl, rfl⟩, fun _ => ⟨Tryz.t235, _, (by kernel_rfl : Tryz.prog.info? 235 = some Tryz.t235), rfl, rfl⟩⟩

def tab : Tab
  | 2 => some T2
  | 3 => some T3
  | 4 => some T4
  | 5 => some T5
  | 6 => some T6
  | 8 => some T8
  | 9 => some T9
  | 10 => some T10
  | 11 => some T11
  | 12 => some T12
  | 14 => some T14
  | 19 => some T19
  | 22 => some T22
  | 23 => some T23
  | 25 => some T25
  | 28 => some T28
  | 31 => some T31
  | 34 => some T34
  | 40 => some T40
  | 43 => some T43
  | 50 => some T50
  | 62 => some T62
  | 70 => some T70
  | 72 => some T72
  | 76 => some T76
  | 78 => some T78
  | 98 => some T98
  | 99 => some T99
  | 101 => some T101
  | 136 => some T136
  | 140 => some T140
  | 155 => some T155
  | 165 => some T165
  | 175 => some T175
  | 189 => some T189
  | 201 => some T201
  | 222 => some T222
  | 235 => some T235
  | _ => none

theorem tab_ok : Tab.Ok Tryz.prog tab := fun t i h => by
  unfold tab at h
  split at h <;> first
    | (cases h; done)
    | (cases h; exact ok2)
    | (cases h; exact ok3)
    | (cases h; exact ok4)
    | (cases h; exact ok5)
    | (cases h; exact ok6)
    | (cases h; exact ok8)
    | (cases h; exact ok9)
    | (cases h; exact ok10)
    | (cases h; exact ok11)
    | (cases h; exact ok12)
    | (cases h; exact ok14)
    | (cases h; exact ok19)
    | (cases h; exact ok22)
    | (cases h; exact ok23)
    | (cases h; exact ok25)
    | (cases h; exact ok28)
    | (cases h; exact ok31)
    | (cases h; exact ok34)
    | (cases h; exact ok40)
    | (cases h; exact ok43)
    | (cases h; exact ok50)
    | (cases h; exact ok62)
    | (cases h; exact ok70)
    | (cases h; exact ok72)
    | (cases h; exact ok76)
    | (cases h; exact ok78)
    | (cases h; exact ok98)
    | (cases h; exact ok99)
    | (cases h; exact ok101)
    | (cases h; exact ok136)
    | (cases h; exact ok140)
    | (cases h; exact ok155)
    | (cases h; exact ok165)
    | (cases h; exact ok175)
    | (cases h; exact ok189)
    | (cases h; exact ok201)
    | (cases h; exact ok222)
    | (cases h; exact ok235)

theorem bt : type_of% @T2.eq_1 ∧ type_of% @T3.eq_1 ∧ type_of% @T4.eq_1 ∧ type_of% @T5.eq_1 ∧ type_of% @T6.eq_1 ∧ type_of% @T8.eq_1 ∧ type_of% @T9.eq_1 ∧ type_of% @T10.eq_1 ∧ type_of% @T11.eq_1 ∧ type_of% @T12.eq_1 ∧ type_of% @T14.eq_1 ∧ type_of% @T19.eq_1 ∧ type_of% @T22.eq_1 ∧ type_of% @T23.eq_1 ∧ type_of% @T25.eq_1 ∧ type_of% @T28.eq_1 ∧ type_of% @T31.eq_1 ∧ type_of% @T34.eq_1 ∧ type_of% @T40.eq_1 ∧ type_of% @T43.eq_1 ∧ type_of% @T50.eq_1 ∧ type_of% @T62.eq_1 ∧ type_of% @T70.eq_1 ∧ type_of% @T72.eq_1 ∧ type_of% @T76.eq_1 ∧ type_of% @T78.eq_1 ∧ type_of% @T98.eq_1 ∧ type_of% @T99.eq_1 ∧ type_of% @T101.eq_1 ∧ type_of% @T136.eq_1 ∧ type_of% @T140.eq_1 ∧ type_of% @T155.eq_1 ∧ type_of% @T165.eq_1 ∧ type_of% @T175.eq_1 ∧ type_of% @T189.eq_1 ∧ type_of% @T201.eq_1 ∧ type_of% @T222.eq_1 ∧ type_of% @T235.eq_1 ∧ type_of% @tab.eq_1 ∧ type_of% @tab.eq_2 ∧ type_of% @tab.eq_3 ∧ type_of% @tab.eq_4 ∧ type_of% @tab.eq_5 ∧ type_of% @tab.eq_6 ∧ type_of% @tab.eq_7 ∧ type_of% @tab.eq_8 ∧ type_of% @tab.eq_9 ∧ type_of% @tab.eq_10 ∧ type_of% @tab.eq_11 ∧ type_of% @tab.eq_12 ∧ type_of% @tab.eq_13 ∧ type_of% @tab.eq_14 ∧ type_of% @tab.eq_15 ∧ type_of% @tab.eq_16 ∧ type_of% @tab.eq_17 ∧ type_of% @tab.eq_18 ∧ type_of% @tab.eq_19 ∧ type_of% @tab.eq_20 ∧ type_of% @tab.eq_21 ∧ type_of% @tab.eq_22 ∧ type_of% @tab.eq_23 ∧ type_of% @tab.eq_24 ∧ type_of% @tab.eq_25 ∧ type_of% @tab.eq_26 ∧ type_of% @tab.eq_27 ∧ type_of% @tab.eq_28 ∧ type_of% @tab.eq_29 ∧ type_of% @tab.eq_30 ∧ type_of% @tab.eq_31 ∧ type_of% @tab.eq_32 ∧ type_of% @tab.eq_33 ∧ type_of% @tab.eq_34 ∧ type_of% @tab.eq_35 ∧ type_of% @tab.eq_36 ∧ type_of% @tab.eq_37 ∧ type_of% @tab.eq_38 := ⟨@T2.eq_1, @T3.eq_1, @T4.eq_1, @T5.eq_1, @T6.eq_1, @T8.eq_1, @T9.eq_1, @T10.eq_1, @T11.eq_1, @T12.eq_1, @T14.eq_1, @T19.eq_1, @T22.eq_1, @T23.eq_1, @T25.eq_1, @T28.eq_1, @T31.eq_1, @T34.eq_1, @T40.eq_1, @T43.eq_1, @T50.eq_1, @T62.eq_1, @T70.eq_1, @T72.eq_1, @T76.eq_1, @T78.eq_1, @T98.eq_1, @T99.eq_1, @T101.eq_1, @T136.eq_1, @T140.eq_1, @T155.eq_1, @T165.eq_1, @T175.eq_1, @T189.eq_1, @T201.eq_1, @T222.eq_1, @T235.eq_1, @tab.eq_1, @tab.eq_2, @tab.eq_3, @tab.eq_4, @tab.eq_5, @tab.eq_6, @tab.eq_7, @tab.eq_8, @tab.eq_9, @tab.eq_10, @tab.eq_11, @tab.eq_12, @tab.eq_13, @tab.eq_14, @tab.eq_15, @tab.eq_16, @tab.eq_17, @tab.eq_18, @tab.eq_19, @tab.eq_20, @tab.eq_21, @tab.eq_22, @tab.eq_23, @tab.eq_24, @tab.eq_25, @tab.eq_26, @tab.eq_27, @tab.eq_28, @tab.eq_29, @tab.eq_30, @tab.eq_31, @tab.eq_32, @tab.eq_33, @tab.eq_34, @tab.eq_35, @tab.eq_36, @tab.eq_37, @tab.eq_38⟩

theorem follows_mixed : Tryz.prog.follows .mixedOrders = true := by kernel_rfl

end Go.Proofs.YtjjpjgnoanfaoaaGreat.T
