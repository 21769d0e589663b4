/- The table of this seat's types: sizes, kinds, places of fields, each held against the program. -/
import Derived.Test.YtpcakodemleoiaaTO
import Derived.Test.YtpcakodemleoiaaProg
import Derived.KernelRfl
namespace Go.Proofs.Ytpcakodemleoiaa.T
open Go Go.RowKit

def T2 : TI := ⟨1, 8, false, [.int .i64 0], [1], (.int .i64), 0, [], []⟩

theorem ok2 : TI.Ok Try.prog 2 T2 := ⟨⟨Try.t2, _, (by kernel_rfl : Try.prog.info? 2 = some Try.t2), rfl, rfl, rfl, rfl⟩, ⟨_, Try.underlying2, rfl, rfl, trivial, fun h => absurd rfl h⟩, ⟨rfl, rfl⟩, fun _ => ⟨Try.t2, _, (by kernel_rfl : Try.prog.info? 2 = some Try.t2), rfl, rfl⟩⟩

def T3 : TI := ⟨1, 8, false, [.int .i64 0], [1], (.int .i64), 0, [], []⟩

theorem ok3 : TI.Ok Try.prog 3 T3 := ⟨⟨Try.t3, _, (by kernel_rfl : Try.prog.info? 3 = some Try.t3), rfl, rfl, rfl, rfl⟩, ⟨_, Try.underlying3, rfl, rfl, trivial, fun h => absurd rfl h⟩, ⟨rfl, rfl⟩, fun _ => ⟨Try.t3, _, (by kernel_rfl : Try.prog.info? 3 = some Try.t3), rfl, rfl⟩⟩

def T4 : TI := ⟨1, 1, false, [.bool false], [1], .bool, 0, [], []⟩

theorem ok4 : TI.Ok Try.prog 4 T4 := ⟨⟨Try.t4, _, (by kernel_rfl : Try.prog.info? 4 = some Try.t4), rfl, rfl, rfl, rfl⟩, ⟨_, Try.underlying4, rfl, rfl, trivial, fun h => absurd rfl h⟩, ⟨rfl, rfl⟩, fun _ => ⟨Try.t4, _, (by kernel_rfl : Try.prog.info? 4 = some Try.t4), rfl, rfl⟩⟩

def T5 : TI := ⟨1, 1, false, [.int .u8 0], [1], (.int .u8), 0, [], []⟩

theorem ok5 : TI.Ok Try.prog 5 T5 := ⟨⟨Try.t5, _, (by kernel_rfl : Try.prog.info? 5 = some Try.t5), rfl, rfl, rfl, rfl⟩, ⟨_, Try.underlying5, rfl, rfl, trivial, fun h => absurd rfl h⟩, ⟨rfl, rfl⟩, fun _ => ⟨Try.t5, _, (by kernel_rfl : Try.prog.info? 5 = some Try.t5), rfl, rfl⟩⟩

def T6 : TI := ⟨1, 1, false, [.int .u8 0], [1], (.int .u8), 0, [], []⟩

theorem ok6 : TI.Ok Try.prog 6 T6 := ⟨⟨Try.t6, _, (by kernel_rfl : Try.prog.info? 6 = some Try.t6), rfl, rfl, rfl, rfl⟩, ⟨_, Try.underlying6, rfl, rfl, trivial, fun h => absurd rfl h⟩, ⟨rfl, rfl⟩, fun _ => ⟨Try.t6, _, (by kernel_rfl : Try.prog.info? 6 = some Try.t6), rfl, rfl⟩⟩

def T8 : TI := ⟨4, 24, true, [.int .i64 0, .int .i64 0, .bool false, .int .u8 0], [1, 1, 1, 1], .struct, 0, [(0, 1, false), (1, 1, false), (2, 1, false), (3, 1, false)], []⟩

theorem ok8 : TI.Ok Try.prog 8 T8 := ⟨⟨Try.t8, _, (by kernel_rfl : Try.prog.info? 8 = some Try.t8), rfl, rfl, rfl, rfl⟩, ⟨_, Try.underlying8, rfl, rfl, ⟨_, _, rfl, ⟨Try.t2, _, (by kernel_rfl : Try.prog.info? 2 = some Try.t2), by decide, Try.underlying2, rfl⟩, ⟨_, _, rfl, ⟨Try.t3, _, (by kernel_rfl : Try.prog.info? 3 = some Try.t3), by decide, Try.underlying3, rfl⟩, ⟨_, _, rfl, ⟨Try.t4, _, (by kernel_rfl : Try.prog.info? 4 = some Try.t4), by decide, Try.underlying4, rfl⟩, ⟨_, _, rfl, ⟨Try.t6, _, (by kernel_rfl : Try.prog.info? 6 = some Try.t6), by decide, Try.underlying6, rfl⟩, rfl⟩⟩⟩⟩, fun h => absurd rfl h⟩, ⟨rfl, rfl⟩, fun h => by cases h⟩

def T9 : TI := ⟨1, 16, false, [.string ⟨#[]⟩], [1], .str, 0, [], []⟩

theorem ok9 : TI.Ok Try.prog 9 T9 := ⟨⟨Try.t9, _, (by kernel_rfl : Try.prog.info? 9 = some Try.t9), rfl, rfl, rfl, rfl⟩, ⟨_, Try.underlying9, rfl, rfl, trivial, fun h => absurd rfl h⟩, ⟨rfl, rfl⟩, fun _ => ⟨Try.t9, _, (by kernel_rfl : Try.prog.info? 9 = some Try.t9), rfl, rfl⟩⟩

def T10 : TI := ⟨1, 16, false, [.string ⟨#[]⟩], [1], .str, 0, [], []⟩

theorem ok10 : TI.Ok Try.prog 10 T10 := ⟨⟨Try.t10, _, (by kernel_rfl : Try.prog.info? 10 = some Try.t10), rfl, rfl, rfl, rfl⟩, ⟨_, Try.underlying10, rfl, rfl, trivial, fun h => absurd rfl h⟩, ⟨rfl, rfl⟩, fun _ => ⟨Try.t10, _, (by kernel_rfl : Try.prog.info? 10 = some Try.t10), rfl, rfl⟩⟩

def T11 : TI := ⟨1, 16, false, [.string ⟨#[]⟩], [1], .str, 0, [], []⟩

theorem ok11 : TI.Ok Try.prog 11 T11 := ⟨⟨Try.t11, _, (by kernel_rfl : Try.prog.info? 11 = some Try.t11), rfl, rfl, rfl, rfl⟩, ⟨_, Try.underlying11, rfl, rfl, trivial, fun h => absurd rfl h⟩, ⟨rfl, rfl⟩, fun _ => ⟨Try.t11, _, (by kernel_rfl : Try.prog.info? 11 = some Try.t11), rfl, rfl⟩⟩

def T12 : TI := ⟨1, 8, false, [.int .u64 0], [1], (.int .u64), 0, [], []⟩

theorem ok12 : TI.Ok Try.prog 12 T12 := ⟨⟨Try.t12, _, (by kernel_rfl : Try.prog.info? 12 = some Try.t12), rfl, rfl, rfl, rfl⟩, ⟨_, Try.underlying12, rfl, rfl, trivial, fun h => absurd rfl h⟩, ⟨rfl, rfl⟩, fun _ => ⟨Try.t12, _, (by kernel_rfl : Try.prog.info? 12 = some Try.t12), rfl, rfl⟩⟩

def T14 : TI := ⟨2, 24, true, [.string ⟨#[]⟩, .int .u64 0], [1, 1], .struct, 0, [(0, 1, false), (1, 1, false)], []⟩

theorem ok14 : TI.Ok Try.prog 14 T14 := ⟨⟨Try.t14, _, (by kernel_rfl : Try.prog.info? 14 = some Try.t14), rfl, rfl, rfl, rfl⟩, ⟨_, Try.underlying14, rfl, rfl, ⟨_, _, rfl, ⟨Try.t9, _, (by kernel_rfl : Try.prog.info? 9 = some Try.t9), by decide, Try.underlying9, rfl⟩, ⟨_, _, rfl, ⟨Try.t12, _, (by kernel_rfl : Try.prog.info? 12 = some Try.t12), by decide, Try.underlying12, rfl⟩, rfl⟩⟩, fun h => absurd rfl h⟩, ⟨rfl, rfl⟩, fun h => by cases h⟩

def T19 : TI := ⟨1, 8, true, [.pointer none], [1], .struct, 0, [(0, 1, false)], []⟩

theorem ok19 : TI.Ok Try.prog 19 T19 := ⟨⟨Try.t19, _, (by kernel_rfl : Try.prog.info? 19 = some Try.t19), rfl, rfl, rfl, rfl⟩, ⟨_, Try.underlying19, rfl, rfl, ⟨_, _, rfl, ⟨Try.t17, _, (by kernel_rfl : Try.prog.info? 17 = some Try.t17), by decide, Try.underlying17, rfl⟩, rfl⟩, fun h => absurd rfl h⟩, ⟨rfl, rfl⟩, fun h => by cases h⟩

def T22 : TI := ⟨1, 24, false, [.slice none 0 0], [2], (.slice 35), 2, [], []⟩

theorem ok22 : TI.Ok Try.prog 22 T22 := ⟨⟨Try.t22, _, (by kernel_rfl : Try.prog.info? 22 = some Try.t22), rfl, rfl, rfl, rfl⟩, ⟨_, Try.underlying22, rfl, rfl, ⟨Try.t35, (by kernel_rfl : Try.prog.info? 35 = some Try.t35), rfl, by decide⟩, fun h => absurd rfl h⟩, ⟨rfl, rfl⟩, fun _ => ⟨Try.t22, _, (by kernel_rfl : Try.prog.info? 22 = some Try.t22), rfl, rfl⟩⟩

def T23 : TI := ⟨1, 24, false, [.slice none 0 0], [3], (.slice 39), 3, [], []⟩

theorem ok23 : TI.Ok Try.prog 23 T23 := ⟨⟨Try.t23, _, (by kernel_rfl : Try.prog.info? 23 = some Try.t23), rfl, rfl, rfl, rfl⟩, ⟨_, Try.underlying23, rfl, rfl, ⟨Try.t39, (by kernel_rfl : Try.prog.info? 39 = some Try.t39), rfl, by decide⟩, fun h => absurd rfl h⟩, ⟨rfl, rfl⟩, fun _ => ⟨Try.t23, _, (by kernel_rfl : Try.prog.info? 23 = some Try.t23), rfl, rfl⟩⟩

def T25 : TI := ⟨2, 48, true, [.slice none 0 0, .slice none 0 0], [2, 3], .struct, 0, [(0, 1, false), (1, 1, false)], []⟩

theorem ok25 : TI.Ok Try.prog 25 T25 := ⟨⟨Try.t25, _, (by kernel_rfl : Try.prog.info? 25 = some Try.t25), rfl, rfl, rfl, rfl⟩, ⟨_, Try.underlying25, rfl, rfl, ⟨_, _, rfl, ⟨Try.t22, _, (by kernel_rfl : Try.prog.info? 22 = some Try.t22), by decide, Try.underlying22, rfl⟩, ⟨_, _, rfl, ⟨Try.t23, _, (by kernel_rfl : Try.prog.info? 23 = some Try.t23), by decide, Try.underlying23, rfl⟩, rfl⟩⟩, fun h => absurd rfl h⟩, ⟨rfl, rfl⟩, fun h => by cases h⟩

def T28 : TI := ⟨1, 24, false, [.slice none 0 0], [2], (.slice 42), 2, [], []⟩

theorem ok28 : TI.Ok Try.prog 28 T28 := ⟨⟨Try.t28, _, (by kernel_rfl : Try.prog.info? 28 = some Try.t28), rfl, rfl, rfl, rfl⟩, ⟨_, Try.underlying28, rfl, rfl, ⟨Try.t42, (by kernel_rfl : Try.prog.info? 42 = some Try.t42), rfl, by decide⟩, fun h => absurd rfl h⟩, ⟨rfl, rfl⟩, fun _ => ⟨Try.t28, _, (by kernel_rfl : Try.prog.info? 28 = some Try.t28), rfl, rfl⟩⟩

def T29 : TI := ⟨1, 8, false, [.int .i64 0], [1], (.int .i64), 0, [], []⟩

theorem ok29 : TI.Ok Try.prog 29 T29 := ⟨⟨Try.t29, _, (by kernel_rfl : Try.prog.info? 29 = some Try.t29), rfl, rfl, rfl, rfl⟩, ⟨_, Try.underlying29, rfl, rfl, trivial, fun h => absurd rfl h⟩, ⟨rfl, rfl⟩, fun _ => ⟨Try.t29, _, (by kernel_rfl : Try.prog.info? 29 = some Try.t29), rfl, rfl⟩⟩

def T35 : TI := ⟨2, 24, true, [.string ⟨#[]⟩, .int .i64 0], [1, 1], .struct, 0, [(0, 1, false), (1, 1, false)], [false, true]⟩

theorem ok35 : TI.Ok Try.prog 35 T35 := ⟨⟨Try.t35, _, (by kernel_rfl : Try.prog.info? 35 = some Try.t35), rfl, rfl, rfl, rfl⟩, ⟨_, Try.underlying35, rfl, rfl, ⟨_, _, rfl, ⟨Try.t9, _, (by kernel_rfl : Try.prog.info? 9 = some Try.t9), by decide, Try.underlying9, rfl⟩, ⟨_, _, rfl, ⟨Try.t3, _, (by kernel_rfl : Try.prog.info? 3 = some Try.t3), by decide, Try.underlying3, rfl⟩, rfl⟩⟩, fun _ => ⟨Try.stoodInHeld35, Try.eqGuardType35, ⟨by decide, rfl, .inr (.inl ⟨_, rfl, Try.underlying9, ⟨by decide, rfl, .inl ⟨_, _, rfl, Try.underlying3, rfl⟩⟩⟩)⟩⟩⟩, ⟨rfl, rfl⟩, fun h => by cases h⟩

def T37 : TI := ⟨1, 24, false, [.slice none 0 0], [4], (.slice 46), 4, [], []⟩

theorem ok37 : TI.Ok Try.prog 37 T37 := ⟨⟨Try.t37, _, (by kernel_rfl : Try.prog.info? 37 = some Try.t37), rfl, rfl, rfl, rfl⟩, ⟨_, Try.underlying37, rfl, rfl, ⟨Try.t46, (by kernel_rfl : Try.prog.info? 46 = some Try.t46), rfl, by decide⟩, fun h => absurd rfl h⟩, ⟨rfl, rfl⟩, fun _ => ⟨Try.t37, _, (by kernel_rfl : Try.prog.info? 37 = some Try.t37), rfl, rfl⟩⟩

def T39 : TI := ⟨3, 48, true, [.string ⟨#[]⟩, .slice none 0 0, .bool false], [1, 4, 1], .struct, 0, [(0, 1, false), (1, 1, false), (2, 1, false)], []⟩

theorem ok39 : TI.Ok Try.prog 39 T39 := ⟨⟨Try.t39, _, (by kernel_rfl : Try.prog.info? 39 = some Try.t39), rfl, rfl, rfl, rfl⟩, ⟨_, Try.underlying39, rfl, rfl, ⟨_, _, rfl, ⟨Try.t9, _, (by kernel_rfl : Try.prog.info? 9 = some Try.t9), by decide, Try.underlying9, rfl⟩, ⟨_, _, rfl, ⟨Try.t37, _, (by kernel_rfl : Try.prog.info? 37 = some Try.t37), by decide, Try.underlying37, rfl⟩, ⟨_, _, rfl, ⟨Try.t4, _, (by kernel_rfl : Try.prog.info? 4 = some Try.t4), by decide, Try.underlying4, rfl⟩, rfl⟩⟩⟩, fun h => absurd rfl h⟩, ⟨rfl, rfl⟩, fun h => by cases h⟩

def T42 : TI := ⟨2, 16, true, [.int .i64 0, .int .i64 0], [1, 1], .struct, 0, [(0, 1, false), (1, 1, false)], [true, true]⟩

theorem ok42 : TI.Ok Try.prog 42 T42 := ⟨⟨Try.t42, _, (by kernel_rfl : Try.prog.info? 42 = some Try.t42), rfl, rfl, rfl, rfl⟩, ⟨_, Try.underlying42, rfl, rfl, ⟨_, _, rfl, ⟨Try.t3, _, (by kernel_rfl : Try.prog.info? 3 = some Try.t3), by decide, Try.underlying3, rfl⟩, ⟨_, _, rfl, ⟨Try.t3, _, (by kernel_rfl : Try.prog.info? 3 = some Try.t3), by decide, Try.underlying3, rfl⟩, rfl⟩⟩, fun _ => ⟨Try.stoodInHeld42, Try.eqGuardType42, ⟨by decide, rfl, .inl ⟨_, _, rfl, Try.underlying3, ⟨by decide, rfl, .inl ⟨_, _, rfl, Try.underlying3, rfl⟩⟩⟩⟩⟩⟩, ⟨rfl, rfl⟩, fun h => by cases h⟩

def T46 : TI := ⟨4, 40, true, [.string ⟨#[]⟩, .int .i64 0, .int .i64 0, .int .i64 0], [1, 1, 1, 1], .struct, 0, [(0, 1, false), (1, 1, false), (2, 2, true)], [false, true, true, true]⟩

theorem ok46 : TI.Ok Try.prog 46 T46 := ⟨⟨Try.t46, _, (by kernel_rfl : Try.prog.info? 46 = some Try.t46), rfl, rfl, rfl, rfl⟩, ⟨_, Try.underlying46, rfl, rfl, ⟨_, _, rfl, ⟨Try.t9, _, (by kernel_rfl : Try.prog.info? 9 = some Try.t9), by decide, Try.underlying9, rfl⟩, ⟨_, _, rfl, ⟨Try.t3, _, (by kernel_rfl : Try.prog.info? 3 = some Try.t3), by decide, Try.underlying3, rfl⟩, ⟨_, _, rfl, ⟨Try.t42, _, (by kernel_rfl : Try.prog.info? 42 = some Try.t42), by decide, Try.underlying42, rfl⟩, rfl⟩⟩⟩, fun _ => ⟨Try.stoodInHeld46, Try.eqGuardType46, ⟨by decide, rfl, .inr (.inl ⟨_, rfl, Try.underlying9, ⟨by decide, rfl, .inl ⟨_, _, rfl, Try.underlying3, ⟨by decide, rfl, .inr (.inr ⟨_, Try.t42, _, Try.underlying42, Try.stoodInHeld42, (by kernel_rfl : Try.prog.info? 42 = some Try.t42), rfl, ⟨⟨by decide, rfl, _, Try.underlying3⟩, ⟨⟨by decide, rfl, _, Try.underlying3⟩, trivial⟩⟩, rfl, rfl⟩)⟩⟩⟩⟩)⟩⟩⟩, ⟨rfl, rfl⟩, fun h => by cases h⟩

def T48 : TI := ⟨1, 2, false, [.int .u16 0], [1], (.int .u16), 0, [], []⟩

theorem ok48 : TI.Ok Try.prog 48 T48 := ⟨⟨Try.t48, _, (by kernel_rfl : Try.prog.info? 48 = some Try.t48), rfl, rfl, rfl, rfl⟩, ⟨_, Try.underlying48, rfl, rfl, trivial, fun h => absurd rfl h⟩, ⟨rfl, rfl⟩, fun _ => ⟨Try.t48, _, (by kernel_rfl : Try.prog.info? 48 = some Try.t48), rfl, rfl⟩⟩

def T53 : TI := ⟨1, 8, false, [.nilFunc], [1], .other, 0, [], []⟩

theorem ok53 : TI.Ok Try.prog 53 T53 := ⟨⟨Try.t53, _, (by kernel_rfl : Try.prog.info? 53 = some Try.t53), rfl, rfl, rfl, rfl⟩, ⟨_, Try.underlying53, rfl, rfl, trivial, fun h => absurd rfl h⟩, ⟨rfl, rfl⟩, fun _ => ⟨Try.t53, _, (by kernel_rfl : Try.prog.info? 53 = some Try.t53), rfl, rfl⟩⟩

def T55 : TI := ⟨1, 24, false, [.slice none 0 0], [1], (.slice 53), 1, [], []⟩

theorem ok55 : TI.Ok Try.prog 55 T55 := ⟨⟨Try.t55, _, (by kernel_rfl : Try.prog.info? 55 = some Try.t55), rfl, rfl, rfl, rfl⟩, ⟨_, Try.underlying55, rfl, rfl, ⟨Try.t53, (by kernel_rfl : Try.prog.info? 53 = some Try.t53), rfl, by decide⟩, fun h => absurd rfl h⟩, ⟨rfl, rfl⟩, fun _ => ⟨Try.t55, _, (by kernel_rfl : Try.prog.info? 55 = some Try.t55), rfl, rfl⟩⟩

def T62 : TI := ⟨1, 24, false, [.slice none 0 0], [1], (.slice 66), 1, [], []⟩

theorem ok62 : TI.Ok Try.prog 62 T62 := ⟨⟨Try.t62, _, (by kernel_rfl : Try.prog.info? 62 = some Try.t62), rfl, rfl, rfl, rfl⟩, ⟨_, Try.underlying62, rfl, rfl, ⟨Try.t66, (by kernel_rfl : Try.prog.info? 66 = some Try.t66), rfl, by decide⟩, fun h => absurd rfl h⟩, ⟨rfl, rfl⟩, fun _ => ⟨Try.t62, _, (by kernel_rfl : Try.prog.info? 62 = some Try.t62), rfl, rfl⟩⟩

def T63 : TI := ⟨1, 24, false, [.slice none 0 0], [1], (.slice 66), 1, [], []⟩

theorem ok63 : TI.Ok Try.prog 63 T63 := ⟨⟨Try.t63, _, (by kernel_rfl : Try.prog.info? 63 = some Try.t63), rfl, rfl, rfl, rfl⟩, ⟨_, Try.underlying63, rfl, rfl, ⟨Try.t66, (by kernel_rfl : Try.prog.info? 66 = some Try.t66), rfl, by decide⟩, fun h => absurd rfl h⟩, ⟨rfl, rfl⟩, fun _ => ⟨Try.t63, _, (by kernel_rfl : Try.prog.info? 63 = some Try.t63), rfl, rfl⟩⟩

def T66 : TI := ⟨1, 24, false, [.slice none 0 0], [1], (.slice 3), 1, [], []⟩

theorem ok66 : TI.Ok Try.prog 66 T66 := ⟨⟨Try.t66, _, (by kernel_rfl : Try.prog.info? 66 = some Try.t66), rfl, rfl, rfl, rfl⟩, ⟨_, Try.underlying66, rfl, rfl, ⟨Try.t3, (by kernel_rfl : Try.prog.info? 3 = some Try.t3), rfl, by decide⟩, fun h => absurd rfl h⟩, ⟨rfl, rfl⟩, fun _ => ⟨Try.t66, _, (by kernel_rfl : Try.prog.info? 66 = some Try.t66), rfl, rfl⟩⟩

def T81 : TI := ⟨1, 8, false, [.int .u64 0], [1], (.int .u64), 0, [], []⟩

theorem ok81 : TI.Ok Try.prog 81 T81 := ⟨⟨Try.t81, _, (by kernel_rfl : Try.prog.info? 81 = some Try.t81), rfl, rfl, rfl, rfl⟩, ⟨_, Try.underlying81, rfl, rfl, trivial, fun h => absurd rfl h⟩, ⟨rfl, rfl⟩, fun _ => ⟨Try.t81, _, (by kernel_rfl : Try.prog.info? 81 = some Try.t81), rfl, rfl⟩⟩

def T85 : TI := ⟨2, 16, true, [.int .u64 0, .int .u64 0], [1, 1], .struct, 0, [(0, 1, false), (1, 1, false)], [true, true]⟩

theorem ok85 : TI.Ok Try.prog 85 T85 := ⟨⟨Try.t85, _, (by kernel_rfl : Try.prog.info? 85 = some Try.t85), rfl, rfl, rfl, rfl⟩, ⟨_, Try.underlying85, rfl, rfl, ⟨_, _, rfl, ⟨Try.t81, _, (by kernel_rfl : Try.prog.info? 81 = some Try.t81), by decide, Try.underlying81, rfl⟩, ⟨_, _, rfl, ⟨Try.t81, _, (by kernel_rfl : Try.prog.info? 81 = some Try.t81), by decide, Try.underlying81, rfl⟩, rfl⟩⟩, fun _ => ⟨Try.stoodInHeld85, Try.eqGuardType85, ⟨by decide, rfl, .inl ⟨_, _, rfl, Try.underlying81, ⟨by decide, rfl, .inl ⟨_, _, rfl, Try.underlying81, rfl⟩⟩⟩⟩⟩⟩, ⟨rfl, rfl⟩, fun h => by cases h⟩

def T95 : TI := ⟨5, 88, true, [.slice none 0 0, .int .i64 0, .slice none 0 0, .slice none 0 0, .bool false], [1, 1, 1, 1, 1], .struct, 0, [(0, 1, false), (1, 1, false), (2, 1, false), (3, 1, false), (4, 1, false)], []⟩

theorem ok95 : TI.Ok Try.prog 95 T95 := ⟨⟨Try.t95, _, (by kernel_rfl : Try.prog.info? 95 = some Try.t95), rfl, rfl, rfl, rfl⟩, ⟨_, Try.underlying95, rfl, rfl, ⟨_, _, rfl, ⟨Try.t62, _, (by kernel_rfl : Try.prog.info? 62 = some Try.t62), by decide, Try.underlying62, rfl⟩, ⟨_, _, rfl, ⟨Try.t3, _, (by kernel_rfl : Try.prog.info? 3 = some Try.t3), by decide, Try.underlying3, rfl⟩, ⟨_, _, rfl, ⟨Try.t66, _, (by kernel_rfl : Try.prog.info? 66 = some Try.t66), by decide, Try.underlying66, rfl⟩, ⟨_, _, rfl, ⟨Try.t66, _, (by kernel_rfl : Try.prog.info? 66 = some Try.t66), by decide, Try.underlying66, rfl⟩, ⟨_, _, rfl, ⟨Try.t4, _, (by kernel_rfl : Try.prog.info? 4 = some Try.t4), by decide, Try.underlying4, rfl⟩, rfl⟩⟩⟩⟩⟩, fun h => absurd rfl h⟩, ⟨rfl, rfl⟩, fun h => by cases h⟩

def T112 : TI := ⟨2, 16, true, [.int .u64 0, .int .u64 0], [1, 1], .struct, 0, [(0, 1, false), (1, 1, false)], [true, true]⟩

theorem ok112 : TI.Ok Try.prog 112 T112 := ⟨⟨Try.t112, _, (by kernel_rfl : Try.prog.info? 112 = some Try.t112), rfl, rfl, rfl, rfl⟩, ⟨_, Try.underlying112, rfl, rfl, ⟨_, _, rfl, ⟨Try.t81, _, (by kernel_rfl : Try.prog.info? 81 = some Try.t81), by decide, Try.underlying81, rfl⟩, ⟨_, _, rfl, ⟨Try.t81, _, (by kernel_rfl : Try.prog.info? 81 = some Try.t81), by decide, Try.underlying81, rfl⟩, rfl⟩⟩, fun _ => ⟨Try.stoodInHeld112, Try.eqGuardType112, ⟨by decide, rfl, .inl ⟨_, _, rfl, Try.underlying81, ⟨by decide, rfl, .inl ⟨_, _, rfl, Try.underlying81, rfl⟩⟩⟩⟩⟩⟩, ⟨rfl, rfl⟩, fun h => by cases h⟩

def T115 : TI := ⟨1, 8, false, [.map none], [1], (.map 9 4), 0, [], []⟩

theorem ok115 : TI.Ok Try.prog 115 T115 := ⟨⟨Try.t115, _, (by kernel_rfl : Try.prog.info? 115 = some Try.t115), rfl, rfl, rfl, rfl⟩, ⟨_, Try.underlying115, rfl, rfl, trivial, fun h => absurd rfl h⟩, ⟨rfl, rfl⟩, fun _ => ⟨Try.t115, _, (by kernel_rfl : Try.prog.info? 115 = some Try.t115), rfl, rfl⟩⟩

def T131 : TI := ⟨1, 24, false, [.slice none 0 0], [1], (.slice 28), 1, [], []⟩

theorem ok131 : TI.Ok Try.prog 131 T131 := ⟨⟨Try.t131, _, (by kernel_rfl : Try.prog.info? 131 = some Try.t131), rfl, rfl, rfl, rfl⟩, ⟨_, Try.underlying131, rfl, rfl, ⟨Try.t28, (by kernel_rfl : Try.prog.info? 28 = some Try.t28), rfl, by decide⟩, fun h => absurd rfl h⟩, ⟨rfl, rfl⟩, fun _ => ⟨Try.t131, _, (by kernel_rfl : Try.prog.info? 131 = some Try.t131), rfl, rfl⟩⟩

def T135 : TI := ⟨1, 8, false, [.int .u64 0], [1], (.int .u64), 0, [], []⟩

theorem ok135 : TI.Ok Try.prog 135 T135 := ⟨⟨Try.t135, _, (by kernel_rfl : Try.prog.info? 135 = some Try.t135), rfl, rfl, rfl, rfl⟩, ⟨_, Try.underlying135, rfl, rfl, trivial, fun h => absurd rfl h⟩, ⟨rfl, rfl⟩, fun _ => ⟨Try.t135, _, (by kernel_rfl : Try.prog.info? 135 = some Try.t135), rfl, rfl⟩⟩

def T157 : TI := ⟨1, 4, false, [.int .u32 0], [1], (.int .u32), 0, [], []⟩

theorem ok157 : TI.Ok Try.prog 157 T157 := ⟨⟨Try.t157, _, (by kernel_rfl : Try.prog.info? 157 = some Try.t157), rfl, rfl, rfl, rfl⟩, ⟨_, Try.underlying157, rfl, rfl, trivial, fun h => absurd rfl h⟩, ⟨rfl, rfl⟩, fun _ => ⟨Try.t157, _, (by kernel_rfl : Try.prog.info? 157 = some Try.t157), rfl, rfl⟩⟩

def T170 : TI := ⟨1, 1, false, [.int .u8 0], [1], (.int .u8), 0, [], []⟩

theorem ok170 : TI.Ok Try.prog 170 T170 := ⟨⟨Try.t170, _, (by kernel_rfl : Try.prog.info? 170 = some Try.t170), rfl, rfl, rfl, rfl⟩, ⟨_, Try.underlying170, rfl, rfl, trivial, fun h => absurd rfl h⟩, ⟨rfl, rfl⟩, fun _ => ⟨Try.t170, _, (by kernel_rfl : Try.prog.info? 170 = some Try.t170), rfl, rfl⟩⟩

def tab : Tab
  | 2 => some T2
  | 3 => some T3
  | 4 => some T4
  | 5 => some T5
  | 6 => some T6
  | 8 => some T8
  | 9 => some T9
  | 10 => some T10
  | 11 => some T11
  | 12 => some T12
  | 14 => some T14
  | 19 => some T19
  | 22 => some T22
  | 23 => some T23
  | 25 => some T25
  | 28 => some T28
  | 29 => some T29
  | 35 => some T35
  | 37 => some T37
  | 39 => some T39
  | 42 => some T42
  | 46 => some T46
  | 48 => some T48
  | 53 => some T53
  | 55 => some T55
  | 62 => some T62
  | 63 => some T63
  | 66 => some T66
  | 81 => some T81
  | 85 => some T85
  | 95 => some T95
  | 112 => some T112
  | 115 => some T115
  | 131 => some T131
  | 135 => some T135
  | 157 => some T157
  | 170 => some T170
  | _ => none

theorem tab_ok : Tab.Ok Try.prog tab := fun t i h => by
  unfold tab at h
  split at h <;> first
    | (cases h; done)
    | (cases h; exact ok2)
    | (cases h; exact ok3)
    | (cases h; exact ok4)
    | (cases h; exact ok5)
    | (cases h; exact ok6)
    | (cases h; exact ok8)
    | (cases h; exact ok9)
    | (cases h; exact ok10)
    | (cases h; exact ok11)
    | (cases h; exact ok12)
    | (cases h; exact ok14)
    | (cases h; exact ok19)
    | (cases h; exact ok22)
    | (cases h; exact ok23)
    | (cases h; exact ok25)
    | (cases h; exact ok28)
    | (cases h; exact ok29)
    | (cases h; exact ok35)
    | (cases h; exact ok37)
    | (cases h; exact ok39)
    | (cases h; exact ok42)
    | (cases h; exact ok46)
    | (cases h; exact ok48)
    | (cases h; exact ok53)
    | (cases h; exact ok55)
    | (cases h; exact ok62)
    | (cases h; exact ok63)
    | (cases h; exact ok66)
    | (cases h; exact ok81)
    | (cases h; exact ok85)
    | (cases h; exact ok95)
    | (cases h; exact ok112)
    | (cases h; exact ok115)
    | (cases h; exact ok131)
    | (cases h; exact ok135)
    | (cases h; exact ok157)
    | (cases h; exact ok170)

theorem bt : type_of% @T2.eq_1 ∧ type_of% @T3.eq_1 ∧ type_of% @T4.eq_1 ∧ type_of% @T5.eq_1 ∧ type_of% @T6.eq_1 ∧ type_of% @T8.eq_1 ∧ type_of% @T9.eq_1 ∧ type_of% @T10.eq_1 ∧ type_of% @T11.eq_1 ∧ type_of% @T12.eq_1 ∧ type_of% @T14.eq_1 ∧ type_of% @T19.eq_1 ∧ type_of% @T22.eq_1 ∧ type_of% @T23.eq_1 ∧ type_of% @T25.eq_1 ∧ type_of% @T28.eq_1 ∧ type_of% @T29.eq_1 ∧ type_of% @T35.eq_1 ∧ type_of% @T37.eq_1 ∧ type_of% @T39.eq_1 ∧ type_of% @T42.eq_1 ∧ type_of% @T46.eq_1 ∧ type_of% @T48.eq_1 ∧ type_of% @T53.eq_1 ∧ type_of% @T55.eq_1 ∧ type_of% @T62.eq_1 ∧ type_of% @T63.eq_1 ∧ type_of% @T66.eq_1 ∧ type_of% @T81.eq_1 ∧ type_of% @T85.eq_1 ∧ type_of% @T95.eq_1 ∧ type_of% @T112.eq_1 ∧ type_of% @T115.eq_1 ∧ type_of% @T131.eq_1 ∧ type_of% @T135.eq_1 ∧ type_of% @T157.eq_1 ∧ type_of% @T170.eq_1 ∧ type_of% @tab.eq_1 ∧ type_of% @tab.eq_2 ∧ type_of% @tab.eq_3 ∧ type_of% @tab.eq_4 ∧ type_of% @tab.eq_5 ∧ type_of% @tab.eq_6 ∧ type_of% @tab.eq_7 ∧ type_of% @tab.eq_8 ∧ type_of% @tab.eq_9 ∧ type_of% @tab.eq_10 ∧ type_of% @tab.eq_11 ∧ type_of% @tab.eq_12 ∧ type_of% @tab.eq_13 ∧ type_of% @tab.eq_14 ∧ type_of% @tab.eq_15 ∧ type_of% @tab.eq_16 ∧ type_of% @tab.eq_17 ∧ type_of% @tab.eq_18 ∧ type_of% @tab.eq_19 ∧ type_of% @tab.eq_20 ∧ type_of% @tab.eq_21 ∧ type_of% @tab.eq_22 ∧ type_of% @tab.eq_23 ∧ type_of% @tab.eq_24 ∧ type_of% @tab.eq_25 ∧ type_of% @tab.eq_26 ∧ type_of% @tab.eq_27 ∧ type_of% @tab.eq_28 ∧ type_of% @tab.eq_29 ∧ type_of% @tab.eq_30 ∧ type_of% @tab.eq_31 ∧ type_of% @tab.eq_32 ∧ type_of% @tab.eq_33 ∧ type_of% @tab.eq_34 ∧ type_of% @tab.eq_35 ∧ type_of% @tab.eq_36 ∧ type_of% @tab.eq_37 := ⟨@T2.eq_1, @T3.eq_1, @T4.eq_1, @T5.eq_1, @T6.eq_1, @T8.eq_1, @T9.eq_1, @T10.eq_1, @T11.eq_1, @T12.eq_1, @T14.eq_1, @T19.eq_1, @T22.eq_1, @T23.eq_1, @T25.eq_1, @T28.eq_1, @T29.eq_1, @T35.eq_1, @T37.eq_1, @T39.eq_1, @T42.eq_1, @T46.eq_1, @T48.eq_1, @T53.eq_1, @T55.eq_1, @T62.eq_1, @T63.eq_1, @T66.eq_1, @T81.eq_1, @T85.eq_1, @T95.eq_1, @T112.eq_1, @T115.eq_1, @T131.eq_1, @T135.eq_1, @T157.eq_1, @T170.eq_1, @tab.eq_1, @tab.eq_2, @tab.eq_3, @tab.eq_4, @tab.eq_5, @tab.eq_6, @tab.eq_7, @tab.eq_8, @tab.eq_9, @tab.eq_10, @tab.eq_11, @tab.eq_12, @tab.eq_13, @tab.eq_14, @tab.eq_15, @tab.eq_16, @tab.eq_17, @tab.eq_18, @tab.eq_19, @tab.eq_20, @tab.eq_21, @tab.eq_22, @tab.eq_23, @tab.eq_24, @tab.eq_25, @tab.eq_26, @tab.eq_27, @tab.eq_28, @tab.eq_29, @tab.eq_30, @tab.eq_31, @tab.eq_32, @tab.eq_33, @tab.eq_34, @tab.eq_35, @tab.eq_36, @tab.eq_37⟩

theorem follows_mixed : Try.prog.follows .mixedOrders = true := by kernel_rfl

end Go.Proofs.Ytpcakodemleoiaa.T
