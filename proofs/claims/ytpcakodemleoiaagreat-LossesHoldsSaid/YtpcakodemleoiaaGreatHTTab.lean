import Derived.Test.YtpcakodemleoiaaGreatHTO
import Derived.Test.YtpcakodemleoiaaGreatProg
import Derived.KernelRfl
set_option linter.all false
/- The table of this seat's types: sizes, kinds, places of fields, each held against the program. -/
namespace Go.Proofs.YtpcakodemleoiaaGreat.T
open Go Go.RowKit

def T2 : TI := ⟨1, 8, false, [.int .i64 0], [1], (.int .i64), 0, [], []⟩

theorem ok2 : TI.Ok Tryz.prog 2 T2 := ⟨⟨Tryz.t2, _, (by kernel_rfl : Tryz.prog.info? 2 = some Tryz.t2), rfl, rfl, rfl, rfl⟩, ⟨_, Tryz.underlying2, rfl, rfl, trivial, fun h => absurd rfl h⟩, ⟨rfl, rfl⟩, fun _ => ⟨Tryz.t2, _, (by kernel_rfl : Tryz.prog.info? 2 = some Tryz.t2), rfl, rfl⟩⟩

def T3 : TI := ⟨1, 8, false, [.int .i64 0], [1], (.int .i64), 0, [], []⟩

theorem ok3 : TI.Ok Tryz.prog 3 T3 := ⟨⟨Tryz.t3, _, (by kernel_rfl : Tryz.prog.info? 3 = some Tryz.t3), rfl, rfl, rfl, rfl⟩, ⟨_, Tryz.underlying3, rfl, rfl, trivial, fun h => absurd rfl h⟩, ⟨rfl, rfl⟩, fun _ => ⟨Tryz.t3, _, (by kernel_rfl : Tryz.prog.info? 3 = some Tryz.t3), rfl, rfl⟩⟩

def T4 : TI := ⟨1, 1, false, [.bool false], [1], .bool, 0, [], []⟩

theorem ok4 : TI.Ok Tryz.prog 4 T4 := ⟨⟨Tryz.t4, _, (by kernel_rfl : Tryz.prog.info? 4 = some Tryz.t4), rfl, rfl, rfl, rfl⟩, ⟨_, Tryz.underlying4, rfl, rfl, trivial, fun h => absurd rfl h⟩, ⟨rfl, rfl⟩, fun _ => ⟨Tryz.t4, _, (by kernel_rfl : Tryz.prog.info? 4 = some Tryz.t4), rfl, rfl⟩⟩

def T5 : TI := ⟨1, 1, false, [.int .u8 0], [1], (.int .u8), 0, [], []⟩

theorem ok5 : TI.Ok Tryz.prog 5 T5 := ⟨⟨Tryz.t5, _, (by kernel_rfl : Tryz.prog.info? 5 = some Tryz.t5), rfl, rfl, rfl, rfl⟩, ⟨_, Tryz.underlying5, rfl, rfl, trivial, fun h => absurd rfl h⟩, ⟨rfl, rfl⟩, fun _ => ⟨Tryz.t5, _, (by kernel_rfl : Tryz.prog.info? 5 = some Tryz.t5), rfl, rfl⟩⟩

def T6 : TI := ⟨1, 1, false, [.int .u8 0], [1], (.int .u8), 0, [], []⟩

theorem ok6 : TI.Ok Tryz.prog 6 T6 := ⟨⟨Tryz.t6, _, (by kernel_rfl : Tryz.prog.info? 6 = some Tryz.t6), rfl, rfl, rfl, rfl⟩, ⟨_, Tryz.underlying6, rfl, rfl, trivial, fun h => absurd rfl h⟩, ⟨rfl, rfl⟩, fun _ => ⟨Tryz.t6, _, (by kernel_rfl : Tryz.prog.info? 6 = some Tryz.t6), rfl, rfl⟩⟩

def T8 : TI := ⟨4, 24, true, [.int .i64 0, .int .i64 0, .bool false, .int .u8 0], [1, 1, 1, 1], .struct, 0, [(0, 1, false), (1, 1, false), (2, 1, false), (3, 1, false)], []⟩

theorem ok8 : TI.Ok Tryz.prog 8 T8 := ⟨⟨Tryz.t8, _, (by kernel_rfl : Tryz.prog.info? 8 = some Tryz.t8), rfl, rfl, rfl, rfl⟩, ⟨_, Tryz.underlying8, rfl, rfl, ⟨_, _, rfl, ⟨Tryz.t2, _, (by kernel_rfl : Tryz.prog.info? 2 = some Tryz.t2), by decide, Tryz.underlying2, rfl⟩, ⟨_, _, rfl, ⟨Tryz.t3, _, (by kernel_rfl : Tryz.prog.info? 3 = some Tryz.t3), by decide, Tryz.underlying3, rfl⟩, ⟨_, _, rfl, ⟨Tryz.t4, _, (by kernel_rfl : Tryz.prog.info? 4 = some Tryz.t4), by decide, Tryz.underlying4, rfl⟩, ⟨_, _, rfl, ⟨Tryz.t6, _, (by kernel_rfl : Tryz.prog.info? 6 = some Tryz.t6), by decide, Tryz.underlying6, rfl⟩, rfl⟩⟩⟩⟩, fun h => absurd rfl h⟩, ⟨rfl, rfl⟩, fun h => by cases h⟩

def T9 : TI := ⟨1, 16, false, [.string ⟨#[]⟩], [1], .str, 0, [], []⟩

theorem ok9 : TI.Ok Tryz.prog 9 T9 := ⟨⟨Tryz.t9, _, (by kernel_rfl : Tryz.prog.info? 9 = some Tryz.t9), rfl, rfl, rfl, rfl⟩, ⟨_, Tryz.underlying9, rfl, rfl, trivial, fun h => absurd rfl h⟩, ⟨rfl, rfl⟩, fun _ => ⟨Tryz.t9, _, (by kernel_rfl : Tryz.prog.info? 9 = some Tryz.t9), rfl, rfl⟩⟩

def T10 : TI := ⟨1, 16, false, [.string ⟨#[]⟩], [1], .str, 0, [], []⟩

theorem ok10 : TI.Ok Tryz.prog 10 T10 := ⟨⟨Tryz.t10, _, (by kernel_rfl : Tryz.prog.info? 10 = some Tryz.t10), rfl, rfl, rfl, rfl⟩, ⟨_, Tryz.underlying10, rfl, rfl, trivial, fun h => absurd rfl h⟩, ⟨rfl, rfl⟩, fun _ => ⟨Tryz.t10, _, (by kernel_rfl : Tryz.prog.info? 10 = some Tryz.t10), rfl, rfl⟩⟩

def T11 : TI := ⟨1, 16, false, [.string ⟨#[]⟩], [1], .str, 0, [], []⟩

theorem ok11 : TI.Ok Tryz.prog 11 T11 := ⟨⟨Tryz.t11, _, (by kernel_rfl : Tryz.prog.info? 11 = some Tryz.t11), rfl, rfl, rfl, rfl⟩, ⟨_, Tryz.underlying11, rfl, rfl, trivial, fun h => absurd rfl h⟩, ⟨rfl, rfl⟩, fun _ => ⟨Tryz.t11, _, (by kernel_rfl : Tryz.prog.info? 11 = some Tryz.t11), rfl, rfl⟩⟩

def T12 : TI := ⟨1, 8, false, [.int .u64 0], [1], (.int .u64), 0, [], []⟩

theorem ok12 : TI.Ok Tryz.prog 12 T12 := ⟨⟨Tryz.t12, _, (by kernel_rfl : Tryz.prog.info? 12 = some Tryz.t12), rfl, rfl, rfl, rfl⟩, ⟨_, Tryz.underlying12, rfl, rfl, trivial, fun h => absurd rfl h⟩, ⟨rfl, rfl⟩, fun _ => ⟨Tryz.t12, _, (by kernel_rfl : Tryz.prog.info? 12 = some Tryz.t12), rfl, rfl⟩⟩

def T14 : TI := ⟨2, 24, true, [.string ⟨#[]⟩, .int .u64 0], [1, 1], .struct, 0, [(0, 1, false), (1, 1, false)], []⟩

theorem ok14 : TI.Ok Tryz.prog 14 T14 := ⟨⟨Tryz.t14, _, (by kernel_rfl : Tryz.prog.info? 14 = some Tryz.t14), rfl, rfl, rfl, rfl⟩, ⟨_, Tryz.underlying14, rfl, rfl, ⟨_, _, rfl, ⟨Tryz.t9, _, (by kernel_rfl : Tryz.prog.info? 9 = some Tryz.t9), by decide, Tryz.underlying9, rfl⟩, ⟨_, _, rfl, ⟨Tryz.t12, _, (by kernel_rfl : Tryz.prog.info? 12 = some Tryz.t12), by decide, Tryz.underlying12, rfl⟩, rfl⟩⟩, fun h => absurd rfl h⟩, ⟨rfl, rfl⟩, fun h => by cases h⟩

def T19 : TI := ⟨1, 8, true, [.pointer none], [1], .struct, 0, [(0, 1, false)], []⟩

theorem ok19 : TI.Ok Tryz.prog 19 T19 := ⟨⟨Tryz.t19, _, (by kernel_rfl : Tryz.prog.info? 19 = some Tryz.t19), rfl, rfl, rfl, rfl⟩, ⟨_, Tryz.underlying19, rfl, rfl, ⟨_, _, rfl, ⟨Tryz.t17, _, (by kernel_rfl : Tryz.prog.info? 17 = some Tryz.t17), by decide, Tryz.underlying17, rfl⟩, rfl⟩, fun h => absurd rfl h⟩, ⟨rfl, rfl⟩, fun h => by cases h⟩

def T22 : TI := ⟨1, 24, false, [.slice none 0 0], [2], (.slice 45), 2, [], []⟩

theorem ok22 : TI.Ok Tryz.prog 22 T22 := ⟨⟨Tryz.t22, _, (by kernel_rfl : Tryz.prog.info? 22 = some Tryz.t22), rfl, rfl, rfl, rfl⟩, ⟨_, Tryz.underlying22, rfl, rfl, ⟨Tryz.t45, (by kernel_rfl : Tryz.prog.info? 45 = some Tryz.t45), rfl, by decide⟩, fun h => absurd rfl h⟩, ⟨rfl, rfl⟩, fun _ => ⟨Tryz.t22, _, (by kernel_rfl : Tryz.prog.info? 22 = some Tryz.t22), rfl, rfl⟩⟩

def T23 : TI := ⟨1, 24, false, [.slice none 0 0], [3], (.slice 39), 3, [], []⟩

theorem ok23 : TI.Ok Tryz.prog 23 T23 := ⟨⟨Tryz.t23, _, (by kernel_rfl : Tryz.prog.info? 23 = some Tryz.t23), rfl, rfl, rfl, rfl⟩, ⟨_, Tryz.underlying23, rfl, rfl, ⟨Tryz.t39, (by kernel_rfl : Tryz.prog.info? 39 = some Tryz.t39), rfl, by decide⟩, fun h => absurd rfl h⟩, ⟨rfl, rfl⟩, fun _ => ⟨Tryz.t23, _, (by kernel_rfl : Tryz.prog.info? 23 = some Tryz.t23), rfl, rfl⟩⟩

def T25 : TI := ⟨2, 48, true, [.slice none 0 0, .slice none 0 0], [2, 3], .struct, 0, [(0, 1, false), (1, 1, false)], []⟩

theorem ok25 : TI.Ok Tryz.prog 25 T25 := ⟨⟨Tryz.t25, _, (by kernel_rfl : Tryz.prog.info? 25 = some Tryz.t25), rfl, rfl, rfl, rfl⟩, ⟨_, Tryz.underlying25, rfl, rfl, ⟨_, _, rfl, ⟨Tryz.t22, _, (by kernel_rfl : Tryz.prog.info? 22 = some Tryz.t22), by decide, Tryz.underlying22, rfl⟩, ⟨_, _, rfl, ⟨Tryz.t23, _, (by kernel_rfl : Tryz.prog.info? 23 = some Tryz.t23), by decide, Tryz.underlying23, rfl⟩, rfl⟩⟩, fun h => absurd rfl h⟩, ⟨rfl, rfl⟩, fun h => by cases h⟩

def T28 : TI := ⟨1, 24, false, [.slice none 0 0], [2], (.slice 33), 2, [], []⟩

theorem ok28 : TI.Ok Tryz.prog 28 T28 := ⟨⟨Tryz.t28, _, (by kernel_rfl : Tryz.prog.info? 28 = some Tryz.t28), rfl, rfl, rfl, rfl⟩, ⟨_, Tryz.underlying28, rfl, rfl, ⟨Tryz.t33, (by kernel_rfl : Tryz.prog.info? 33 = some Tryz.t33), rfl, by decide⟩, fun h => absurd rfl h⟩, ⟨rfl, rfl⟩, fun _ => ⟨Tryz.t28, _, (by kernel_rfl : Tryz.prog.info? 28 = some Tryz.t28), rfl, rfl⟩⟩

def T29 : TI := ⟨1, 8, false, [.int .i64 0], [1], (.int .i64), 0, [], []⟩

theorem ok29 : TI.Ok Tryz.prog 29 T29 := ⟨⟨Tryz.t29, _, (by kernel_rfl : Tryz.prog.info? 29 = some Tryz.t29), rfl, rfl, rfl, rfl⟩, ⟨_, Tryz.underlying29, rfl, rfl, trivial, fun h => absurd rfl h⟩, ⟨rfl, rfl⟩, fun _ => ⟨Tryz.t29, _, (by kernel_rfl : Tryz.prog.info? 29 = some Tryz.t29), rfl, rfl⟩⟩

def T33 : TI := ⟨2, 16, true, [.int .i64 0, .int .i64 0], [1, 1], .struct, 0, [(0, 1, false), (1, 1, false)], [true, true]⟩

theorem ok33 : TI.Ok Tryz.prog 33 T33 := ⟨⟨Tryz.t33, _, (by kernel_rfl : Tryz.prog.info? 33 = some Tryz.t33), rfl, rfl, rfl, rfl⟩, ⟨_, Tryz.underlying33, rfl, rfl, ⟨_, _, rfl, ⟨Tryz.t3, _, (by kernel_rfl : Tryz.prog.info? 3 = some Tryz.t3), by decide, Tryz.underlying3, rfl⟩, ⟨_, _, rfl, ⟨Tryz.t3, _, (by kernel_rfl : Tryz.prog.info? 3 = some Tryz.t3), by decide, Tryz.underlying3, rfl⟩, rfl⟩⟩, fun _ => ⟨Tryz.stoodInHeld33, Tryz.eqGuardType33, ⟨by decide, rfl, .inl ⟨_, _, rfl, Tryz.underlying3, ⟨by decide, rfl, .inl ⟨_, _, rfl, Tryz.underlying3, rfl⟩⟩⟩⟩⟩⟩, ⟨rfl, rfl⟩, fun h => by cases h⟩

def T37 : TI := ⟨1, 24, false, [.slice none 0 0], [4], (.slice 43), 4, [], []⟩

theorem ok37 : TI.Ok Tryz.prog 37 T37 := ⟨⟨Tryz.t37, _, (by kernel_rfl : Tryz.prog.info? 37 = some Tryz.t37), rfl, rfl, rfl, rfl⟩, ⟨_, Tryz.underlying37, rfl, rfl, ⟨Tryz.t43, (by kernel_rfl : Tryz.prog.info? 43 = some Tryz.t43), rfl, by decide⟩, fun h => absurd rfl h⟩, ⟨rfl, rfl⟩, fun _ => ⟨Tryz.t37, _, (by kernel_rfl : Tryz.prog.info? 37 = some Tryz.t37), rfl, rfl⟩⟩

def T39 : TI := ⟨3, 48, true, [.string ⟨#[]⟩, .slice none 0 0, .bool false], [1, 4, 1], .struct, 0, [(0, 1, false), (1, 1, false), (2, 1, false)], []⟩

theorem ok39 : TI.Ok Tryz.prog 39 T39 := ⟨⟨Tryz.t39, _, (by kernel_rfl : Tryz.prog.info? 39 = some Tryz.t39), rfl, rfl, rfl, rfl⟩, ⟨_, Tryz.underlying39, rfl, rfl, ⟨_, _, rfl, ⟨Tryz.t9, _, (by kernel_rfl : Tryz.prog.info? 9 = some Tryz.t9), by decide, Tryz.underlying9, rfl⟩, ⟨_, _, rfl, ⟨Tryz.t37, _, (by kernel_rfl : Tryz.prog.info? 37 = some Tryz.t37), by decide, Tryz.underlying37, rfl⟩, ⟨_, _, rfl, ⟨Tryz.t4, _, (by kernel_rfl : Tryz.prog.info? 4 = some Tryz.t4), by decide, Tryz.underlying4, rfl⟩, rfl⟩⟩⟩, fun h => absurd rfl h⟩, ⟨rfl, rfl⟩, fun h => by cases h⟩

def T43 : TI := ⟨4, 40, true, [.string ⟨#[]⟩, .int .i64 0, .int .i64 0, .int .i64 0], [1, 1, 1, 1], .struct, 0, [(0, 1, false), (1, 1, false), (2, 2, true)], [false, true, true, true]⟩

theorem ok43 : TI.Ok Tryz.prog 43 T43 := ⟨⟨Tryz.t43, _, (by kernel_rfl : Tryz.prog.info? 43 = some Tryz.t43), rfl, rfl, rfl, rfl⟩, ⟨_, Tryz.underlying43, rfl, rfl, ⟨_, _, rfl, ⟨Tryz.t9, _, (by kernel_rfl : Tryz.prog.info? 9 = some Tryz.t9), by decide, Tryz.underlying9, rfl⟩, ⟨_, _, rfl, ⟨Tryz.t3, _, (by kernel_rfl : Tryz.prog.info? 3 = some Tryz.t3), by decide, Tryz.underlying3, rfl⟩, ⟨_, _, rfl, ⟨Tryz.t33, _, (by kernel_rfl : Tryz.prog.info? 33 = some Tryz.t33), by decide, Tryz.underlying33, rfl⟩, rfl⟩⟩⟩, fun _ => ⟨Tryz.stoodInHeld43, Tryz.eqGuardType43, ⟨by decide, rfl, .inr (.inl ⟨_, rfl, Tryz.underlying9, ⟨by decide, rfl, .inl ⟨_, _, rfl, Tryz.underlying3, ⟨by decide, rfl, .inr (.inr ⟨_, Tryz.t33, _, Tryz.underlying33, Tryz.stoodInHeld33, (by kernel_rfl : Tryz.prog.info? 33 = some Tryz.t33), rfl, ⟨⟨by decide, rfl, _, Tryz.underlying3⟩, ⟨⟨by decide, rfl, _, Tryz.underlying3⟩, trivial⟩⟩, rfl, rfl⟩)⟩⟩⟩⟩)⟩⟩⟩, ⟨rfl, rfl⟩, fun h => by cases h⟩

def T45 : TI := ⟨2, 24, true, [.string ⟨#[]⟩, .int .i64 0], [1, 1], .struct, 0, [(0, 1, false), (1, 1, false)], [false, true]⟩

theorem ok45 : TI.Ok Tryz.prog 45 T45 := ⟨⟨Tryz.t45, _, (by kernel_rfl : Tryz.prog.info? 45 = some Tryz.t45), rfl, rfl, rfl, rfl⟩, ⟨_, Tryz.underlying45, rfl, rfl, ⟨_, _, rfl, ⟨Tryz.t9, _, (by kernel_rfl : Tryz.prog.info? 9 = some Tryz.t9), by decide, Tryz.underlying9, rfl⟩, ⟨_, _, rfl, ⟨Tryz.t3, _, (by kernel_rfl : Tryz.prog.info? 3 = some Tryz.t3), by decide, Tryz.underlying3, rfl⟩, rfl⟩⟩, fun _ => ⟨Tryz.stoodInHeld45, Tryz.eqGuardType45, ⟨by decide, rfl, .inr (.inl ⟨_, rfl, Tryz.underlying9, ⟨by decide, rfl, .inl ⟨_, _, rfl, Tryz.underlying3, rfl⟩⟩⟩)⟩⟩⟩, ⟨rfl, rfl⟩, fun h => by cases h⟩

def T74 : TI := ⟨1, 8, false, [.int .u64 0], [1], (.int .u64), 0, [], []⟩

theorem ok74 : TI.Ok Tryz.prog 74 T74 := ⟨⟨Tryz.t74, _, (by kernel_rfl : Tryz.prog.info? 74 = some Tryz.t74), rfl, rfl, rfl, rfl⟩, ⟨_, Tryz.underlying74, rfl, rfl, trivial, fun h => absurd rfl h⟩, ⟨rfl, rfl⟩, fun _ => ⟨Tryz.t74, _, (by kernel_rfl : Tryz.prog.info? 74 = some Tryz.t74), rfl, rfl⟩⟩

def T78 : TI := ⟨2, 16, true, [.int .u64 0, .int .u64 0], [1, 1], .struct, 0, [(0, 1, false), (1, 1, false)], [true, true]⟩

theorem ok78 : TI.Ok Tryz.prog 78 T78 := ⟨⟨Tryz.t78, _, (by kernel_rfl : Tryz.prog.info? 78 = some Tryz.t78), rfl, rfl, rfl, rfl⟩, ⟨_, Tryz.underlying78, rfl, rfl, ⟨_, _, rfl, ⟨Tryz.t74, _, (by kernel_rfl : Tryz.prog.info? 74 = some Tryz.t74), by decide, Tryz.underlying74, rfl⟩, ⟨_, _, rfl, ⟨Tryz.t74, _, (by kernel_rfl : Tryz.prog.info? 74 = some Tryz.t74), by decide, Tryz.underlying74, rfl⟩, rfl⟩⟩, fun _ => ⟨Tryz.stoodInHeld78, Tryz.eqGuardType78, ⟨by decide, rfl, .inl ⟨_, _, rfl, Tryz.underlying74, ⟨by decide, rfl, .inl ⟨_, _, rfl, Tryz.underlying74, rfl⟩⟩⟩⟩⟩⟩, ⟨rfl, rfl⟩, fun h => by cases h⟩

def T97 : TI := ⟨2, 16, true, [.int .u64 0, .int .u64 0], [1, 1], .struct, 0, [(0, 1, false), (1, 1, false)], [true, true]⟩

theorem ok97 : TI.Ok Tryz.prog 97 T97 := ⟨⟨Tryz.t97, _, (by kernel_rfl : Tryz.prog.info? 97 = some Tryz.t97), rfl, rfl, rfl, rfl⟩, ⟨_, Tryz.underlying97, rfl, rfl, ⟨_, _, rfl, ⟨Tryz.t74, _, (by kernel_rfl : Tryz.prog.info? 74 = some Tryz.t74), by decide, Tryz.underlying74, rfl⟩, ⟨_, _, rfl, ⟨Tryz.t74, _, (by kernel_rfl : Tryz.prog.info? 74 = some Tryz.t74), by decide, Tryz.underlying74, rfl⟩, rfl⟩⟩, fun _ => ⟨Tryz.stoodInHeld97, Tryz.eqGuardType97, ⟨by decide, rfl, .inl ⟨_, _, rfl, Tryz.underlying74, ⟨by decide, rfl, .inl ⟨_, _, rfl, Tryz.underlying74, rfl⟩⟩⟩⟩⟩⟩, ⟨rfl, rfl⟩, fun h => by cases h⟩

def T108 : TI := ⟨1, 24, false, [.slice none 0 0], [1], (.slice 28), 1, [], []⟩

theorem ok108 : TI.Ok Tryz.prog 108 T108 := ⟨⟨Tryz.t108, _, (by kernel_rfl : Tryz.prog.info? 108 = some Tryz.t108), rfl, rfl, rfl, rfl⟩, ⟨_, Tryz.underlying108, rfl, rfl, ⟨Tryz.t28, (by kernel_rfl : Tryz.prog.info? 28 = some Tryz.t28), rfl, by decide⟩, fun h => absurd rfl h⟩, ⟨rfl, rfl⟩, fun _ => ⟨Tryz.t108, _, (by kernel_rfl : Tryz.prog.info? 108 = some Tryz.t108), rfl, rfl⟩⟩

def T121 : TI := ⟨1, 8, false, [.int .u64 0], [1], (.int .u64), 0, [], []⟩

theorem ok121 : TI.Ok Tryz.prog 121 T121 := ⟨⟨Tryz.t121, _, (by kernel_rfl : Tryz.prog.info? 121 = some Tryz.t121), rfl, rfl, rfl, rfl⟩, ⟨_, Tryz.underlying121, rfl, rfl, trivial, fun h => absurd rfl h⟩, ⟨rfl, rfl⟩, fun _ => ⟨Tryz.t121, _, (by kernel_rfl : Tryz.prog.info? 121 = some Tryz.t121), rfl, rfl⟩⟩

def T122 : TI := ⟨1, 24, false, [.slice none 0 0], [1], (.slice 126), 1, [], []⟩

theorem ok122 : TI.Ok Tryz.prog 122 T122 := ⟨⟨Tryz.t122, _, (by kernel_rfl : Tryz.prog.info? 122 = some Tryz.t122), rfl, rfl, rfl, rfl⟩, ⟨_, Tryz.underlying122, rfl, rfl, ⟨Tryz.t126, (by kernel_rfl : Tryz.prog.info? 126 = some Tryz.t126), rfl, by decide⟩, fun h => absurd rfl h⟩, ⟨rfl, rfl⟩, fun _ => ⟨Tryz.t122, _, (by kernel_rfl : Tryz.prog.info? 122 = some Tryz.t122), rfl, rfl⟩⟩

def T123 : TI := ⟨1, 24, false, [.slice none 0 0], [1], (.slice 126), 1, [], []⟩

theorem ok123 : TI.Ok Tryz.prog 123 T123 := ⟨⟨Tryz.t123, _, (by kernel_rfl : Tryz.prog.info? 123 = some Tryz.t123), rfl, rfl, rfl, rfl⟩, ⟨_, Tryz.underlying123, rfl, rfl, ⟨Tryz.t126, (by kernel_rfl : Tryz.prog.info? 126 = some Tryz.t126), rfl, by decide⟩, fun h => absurd rfl h⟩, ⟨rfl, rfl⟩, fun _ => ⟨Tryz.t123, _, (by kernel_rfl : Tryz.prog.info? 123 = some Tryz.t123), rfl, rfl⟩⟩

def T126 : TI := ⟨1, 24, false, [.slice none 0 0], [1], (.slice 3), 1, [], []⟩

theorem ok126 : TI.Ok Tryz.prog 126 T126 := ⟨⟨Tryz.t126, _, (by kernel_rfl : Tryz.prog.info? 126 = some Tryz.t126), rfl, rfl, rfl, rfl⟩, ⟨_, Tryz.underlying126, rfl, rfl, ⟨Tryz.t3, (by kernel_rfl : Tryz.prog.info? 3 = some Tryz.t3), rfl, by decide⟩, fun h => absurd rfl h⟩, ⟨rfl, rfl⟩, fun _ => ⟨Tryz.t126, _, (by kernel_rfl : Tryz.prog.info? 126 = some Tryz.t126), rfl, rfl⟩⟩

def T148 : TI := ⟨5, 88, true, [.slice none 0 0, .int .i64 0, .slice none 0 0, .slice none 0 0, .bool false], [1, 1, 1, 1, 1], .struct, 0, [(0, 1, false), (1, 1, false), (2, 1, false), (3, 1, false), (4, 1, false)], []⟩

theorem ok148 : TI.Ok Tryz.prog 148 T148 := ⟨⟨Tryz.t148, _, (by kernel_rfl : Tryz.prog.info? 148 = some Tryz.t148), rfl, rfl, rfl, rfl⟩, ⟨_, Tryz.underlying148, rfl, rfl, ⟨_, _, rfl, ⟨Tryz.t122, _, (by kernel_rfl : Tryz.prog.info? 122 = some Tryz.t122), by decide, Tryz.underlying122, rfl⟩, ⟨_, _, rfl, ⟨Tryz.t3, _, (by kernel_rfl : Tryz.prog.info? 3 = some Tryz.t3), by decide, Tryz.underlying3, rfl⟩, ⟨_, _, rfl, ⟨Tryz.t126, _, (by kernel_rfl : Tryz.prog.info? 126 = some Tryz.t126), by decide, Tryz.underlying126, rfl⟩, ⟨_, _, rfl, ⟨Tryz.t126, _, (by kernel_rfl : Tryz.prog.info? 126 = some Tryz.t126), by decide, Tryz.underlying126, rfl⟩, ⟨_, _, rfl, ⟨Tryz.t4, _, (by kernel_rfl : Tryz.prog.info? 4 = some Tryz.t4), by decide, Tryz.underlying4, rfl⟩, rfl⟩⟩⟩⟩⟩, fun h => absurd rfl h⟩, ⟨rfl, rfl⟩, fun h => by cases h⟩

def T151 : TI := ⟨1, 8, false, [.map none], [1], (.map 9 4), 0, [], []⟩

theorem ok151 : TI.Ok Tryz.prog 151 T151 := ⟨⟨Tryz.t151, _, (by kernel_rfl : Tryz.prog.info? 151 = some Tryz.t151), rfl, rfl, rfl, rfl⟩, ⟨_, Tryz.underlying151, rfl, rfl, trivial, fun h => absurd rfl h⟩, ⟨rfl, rfl⟩, fun _ => ⟨Tryz.t151, _, (by kernel_rfl : Tryz.prog.info? 151 = some Tryz.t151), rfl, rfl⟩⟩

def T155 : TI := ⟨4, 64, true, [.slice none 0 0, .slice none 0 0, .int .i64 0, .bool false], [1, 1, 1, 1], .struct, 0, [(0, 1, false), (1, 1, false), (2, 1, false), (3, 1, false)], []⟩

theorem ok155 : TI.Ok Tryz.prog 155 T155 := ⟨⟨Tryz.t155, _, (by kernel_rfl : Tryz.prog.info? 155 = some Tryz.t155), rfl, rfl, rfl, rfl⟩, ⟨_, Tryz.underlying155, rfl, rfl, ⟨_, _, rfl, ⟨Tryz.t123, _, (by kernel_rfl : Tryz.prog.info? 123 = some Tryz.t123), by decide, Tryz.underlying123, rfl⟩, ⟨_, _, rfl, ⟨Tryz.t126, _, (by kernel_rfl : Tryz.prog.info? 126 = some Tryz.t126), by decide, Tryz.underlying126, rfl⟩, ⟨_, _, rfl, ⟨Tryz.t3, _, (by kernel_rfl : Tryz.prog.info? 3 = some Tryz.t3), by decide, Tryz.underlying3, rfl⟩, ⟨_, _, rfl, ⟨Tryz.t4, _, (by kernel_rfl : Tryz.prog.info? 4 = some Tryz.t4), by decide, Tryz.underlying4, rfl⟩, rfl⟩⟩⟩⟩, fun h => absurd rfl h⟩, ⟨rfl, rfl⟩, fun h => by cases h⟩

def T166 : TI := ⟨1, 4, false, [.int .u32 0], [1], (.int .u32), 0, [], []⟩

theorem ok166 : TI.Ok Tryz.prog 166 T166 := ⟨⟨Tryz.t166, _, (by kernel_rfl : Tryz.prog.info? 166 = some Tryz.t166), rfl, rfl, rfl, rfl⟩, ⟨_, Tryz.underlying166, rfl, rfl, trivial, fun h => absurd rfl h⟩, ⟨rfl, rfl⟩, fun _ => ⟨Tryz.t166, _, (by kernel_rfl : Tryz.prog.info? 166 = some Tryz.t166), rfl, rfl⟩⟩

def T182 : TI := ⟨1, 1, false, [.int .u8 0], [1], (.int .u8), 0, [], []⟩

theorem ok182 : TI.Ok Tryz.prog 182 T182 := ⟨⟨Tryz.t182, _, (by kernel_rfl : Tryz.prog.info? 182 = some Tryz.t182), rfl, rfl, rfl, rfl⟩, ⟨_, Tryz.underlying182, rfl, rfl, trivial, fun h => absurd rfl h⟩, ⟨rfl, rfl⟩, fun _ => ⟨Tryz.t182, _, (by kernel_rfl : Tryz.prog.info? 182 = some Tryz.t182), rfl, rfl⟩⟩

def tab : Tab
  | 2 => some T2
  | 3 => some T3
  | 4 => some T4
  | 5 => some T5
  | 6 => some T6
  | 8 => some T8
  | 9 => some T9
  | 10 => some T10
  | 11 => some T11
  | 12 => some T12
  | 14 => some T14
  | 19 => some T19
  | 22 => some T22
  | 23 => some T23
  | 25 => some T25
  | 28 => some T28
  | 29 => some T29
  | 33 => some T33
  | 37 => some T37
  | 39 => some T39
  | 43 => some T43
  | 45 => some T45
  | 74 => some T74
  | 78 => some T78
  | 97 => some T97
  | 108 => some T108
  | 121 => some T121
  | 122 => some T122
  | 123 => some T123
  | 126 => some T126
  | 148 => some T148
  | 151 => some T151
  | 155 => some T155
  | 166 => some T166
  | 182 => some T182
  | _ => none

theorem tab_ok : Tab.Ok Tryz.prog tab := fun t i h => by
  unfold tab at h
  split at h <;> first
    | (cases h; done)
    | (cases h; exact ok2)
    | (cases h; exact ok3)
    | (cases h; exact ok4)
    | (cases h; exact ok5)
    | (cases h; exact ok6)
    | (cases h; exact ok8)
    | (cases h; exact ok9)
    | (cases h; exact ok10)
    | (cases h; exact ok11)
    | (cases h; exact ok12)
    | (cases h; exact ok14)
    | (cases h; exact ok19)
    | (cases h; exact ok22)
    | (cases h; exact ok23)
    | (cases h; exact ok25)
    | (cases h; exact ok28)
    | (cases h; exact ok29)
    | (cases h; exact ok33)
    | (cases h; exact ok37)
    | (cases h; exact ok39)
    | (cases h; exact ok43)
    | (cases h; exact ok45)
    | (cases h; exact ok74)
    | (cases h; exact ok78)
    | (cases h; exact ok97)
    | (cases h; exact ok108)
    | (cases h; exact ok121)
    | (cases h; exact ok122)
    | (cases h; exact ok123)
    | (cases h; exact ok126)
    | (cases h; exact ok148)
    | (cases h; exact ok151)
    | (cases h; exact ok155)
    | (cases h; exact ok166)
    | (cases h; exact ok182)

theorem bt : type_of% @T2.eq_1 ∧ type_of% @T3.eq_1 ∧ type_of% @T4.eq_1 ∧ type_of% @T5.eq_1 ∧ type_of% @T6.eq_1 ∧ type_of% @T8.eq_1 ∧ type_of% @T9.eq_1 ∧ type_of% @T10.eq_1 ∧ type_of% @T11.eq_1 ∧ type_of% @T12.eq_1 ∧ type_of% @T14.eq_1 ∧ type_of% @T19.eq_1 ∧ type_of% @T22.eq_1 ∧ type_of% @T23.eq_1 ∧ type_of% @T25.eq_1 ∧ type_of% @T28.eq_1 ∧ type_of% @T29.eq_1 ∧ type_of% @T33.eq_1 ∧ type_of% @T37.eq_1 ∧ type_of% @T39.eq_1 ∧ type_of% @T43.eq_1 ∧ type_of% @T45.eq_1 ∧ type_of% @T74.eq_1 ∧ type_of% @T78.eq_1 ∧ type_of% @T97.eq_1 ∧ type_of% @T108.eq_1 ∧ type_of% @T121.eq_1 ∧ type_of% @T122.eq_1 ∧ type_of% @T123.eq_1 ∧ type_of% @T126.eq_1 ∧ type_of% @T148.eq_1 ∧ type_of% @T151.eq_1 ∧ type_of% @T155.eq_1 ∧ type_of% @T166.eq_1 ∧ type_of% @T182.eq_1 ∧ type_of% @tab.eq_1 ∧ type_of% @tab.eq_2 ∧ type_of% @tab.eq_3 ∧ type_of% @tab.eq_4 ∧ type_of% @tab.eq_5 ∧ type_of% @tab.eq_6 ∧ type_of% @tab.eq_7 ∧ type_of% @tab.eq_8 ∧ type_of% @tab.eq_9 ∧ type_of% @tab.eq_10 ∧ type_of% @tab.eq_11 ∧ type_of% @tab.eq_12 ∧ type_of% @tab.eq_13 ∧ type_of% @tab.eq_14 ∧ type_of% @tab.eq_15 ∧ type_of% @tab.eq_16 ∧ type_of% @tab.eq_17 ∧ type_of% @tab.eq_18 ∧ type_of% @tab.eq_19 ∧ type_of% @tab.eq_20 ∧ type_of% @tab.eq_21 ∧ type_of% @tab.eq_22 ∧ type_of% @tab.eq_23 ∧ type_of% @tab.eq_24 ∧ type_of% @tab.eq_25 ∧ type_of% @tab.eq_26 ∧ type_of% @tab.eq_27 ∧ type_of% @tab.eq_28 ∧ type_of% @tab.eq_29 ∧ type_of% @tab.eq_30 ∧ type_of% @tab.eq_31 ∧ type_of% @tab.eq_32 ∧ type_of% @tab.eq_33 ∧ type_of% @tab.eq_34 ∧ type_of% @tab.eq_35 := ⟨@T2.eq_1, @T3.eq_1, @T4.eq_1, @T5.eq_1, @T6.eq_1, @T8.eq_1, @T9.eq_1, @T10.eq_1, @T11.eq_1, @T12.eq_1, @T14.eq_1, @T19.eq_1, @T22.eq_1, @T23.eq_1, @T25.eq_1, @T28.eq_1, @T29.eq_1, @T33.eq_1, @T37.eq_1, @T39.eq_1, @T43.eq_1, @T45.eq_1, @T74.eq_1, @T78.eq_1, @T97.eq_1, @T108.eq_1, @T121.eq_1, @T122.eq_1, @T123.eq_1, @T126.eq_1, @T148.eq_1, @T151.eq_1, @T155.eq_1, @T166.eq_1, @T182.eq_1, @tab.eq_1, @tab.eq_2, @tab.eq_3, @tab.eq_4, @tab.eq_5, @tab.eq_6, @tab.eq_7, @tab.eq_8, @tab.eq_9, @tab.eq_10, @tab.eq_11, @tab.eq_12, @tab.eq_13, @tab.eq_14, @tab.eq_15, @tab.eq_16, @tab.eq_17, @tab.eq_18, @tab.eq_19, @tab.eq_20, @tab.eq_21, @tab.eq_22, @tab.eq_23, @tab.eq_24, @tab.eq_25, @tab.eq_26, @tab.eq_27, @tab.eq_28, @tab.eq_29, @tab.eq_30, @tab.eq_31, @tab.eq_32, @tab.eq_33, @tab.eq_34, @tab.eq_35⟩

theorem Y08 : Tryz.prog.follows .mixedOrders = true := by kernel_rfl

end Go.Proofs.YtpcakodemleoiaaGreat.T

