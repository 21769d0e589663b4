/- The table of this seat's types: sizes, kinds, places of fields, each held against the program. -/
import Derived.Test.YtjmmenfbcbagoaaTO
import Derived.Test.YtjmmenfbcbagoaaProg
import Derived.KernelRfl
namespace Go.Proofs.Ytjmmenfbcbagoaa.T
open Go Go.RowKit

def T2 : TI := ⟨1, 8, false, [.int .i64 0], [1], (.int .i64), 0, [], []⟩

theorem ok2 : TI.Ok Try.prog 2 T2 := ⟨⟨Try.t2, _, (by kernel_rfl : Try.prog.info? 2 = some Try.t2), rfl, rfl, rfl, rfl⟩, ⟨_, Try.underlying2, rfl, rfl, trivial, fun h => absurd rfl h⟩, ⟨rfl, rfl⟩, fun _ => ⟨Try.t2, _, (by kernel_rfl : Try.prog.info? 2 = some Try.t2), rfl, rfl⟩⟩

def T3 : TI := ⟨1, 8, false, [.int .i64 0], [1], (.int .i64), 0, [], []⟩

theorem ok3 : TI.Ok Try.prog 3 T3 := ⟨⟨Try.t3, _, (by kernel_rfl : Try.prog.info? 3 = some Try.t3), rfl, rfl, rfl, rfl⟩, ⟨_, Try.underlying3, rfl, rfl, trivial, fun h => absurd rfl h⟩, ⟨rfl, rfl⟩, fun _ => ⟨Try.t3, _, (by kernel_rfl : Try.prog.info? 3 = some Try.t3), rfl, rfl⟩⟩

def T4 : TI := ⟨1, 1, false, [.bool false], [1], .bool, 0, [], []⟩

theorem ok4 : TI.Ok Try.prog 4 T4 := ⟨⟨Try.t4, _, (by kernel_rfl : Try.prog.info? 4 = some Try.t4), rfl, rfl, rfl, rfl⟩, ⟨_, Try.underlying4, rfl, rfl, trivial, fun h => absurd rfl h⟩, ⟨rfl, rfl⟩, fun _ => ⟨Try.t4, _, (by kernel_rfl : Try.prog.info? 4 = some Try.t4), rfl, rfl⟩⟩

def T5 : TI := ⟨1, 1, false, [.int .u8 0], [1], (.int .u8), 0, [], []⟩

theorem ok5 : TI.Ok Try.prog 5 T5 := ⟨⟨Try.t5, _, (by kernel_rfl : Try.prog.info? 5 = some Try.t5), rfl, rfl, rfl, rfl⟩, ⟨_, Try.underlying5, rfl, rfl, trivial, fun h => absurd rfl h⟩, ⟨rfl, rfl⟩, fun _ => ⟨Try.t5, _, (by kernel_rfl : Try.prog.info? 5 = some Try.t5), rfl, rfl⟩⟩

def T6 : TI := ⟨1, 1, false, [.int .u8 0], [1], (.int .u8), 0, [], []⟩

theorem ok6 : TI.Ok Try.prog 6 T6 := ⟨⟨Try.t6, _, (by kernel_rfl : Try.prog.info? 6 = some Try.t6), rfl, rfl, rfl, rfl⟩, ⟨_, Try.underlying6, rfl, rfl, trivial, fun h => absurd rfl h⟩, ⟨rfl, rfl⟩, fun _ => ⟨Try.t6, _, (by kernel_rfl : Try.prog.info? 6 = some Try.t6), rfl, rfl⟩⟩

def T8 : TI := ⟨4, 24, true, [.int .i64 0, .int .i64 0, .bool false, .int .u8 0], [1, 1, 1, 1], .struct, 0, [(0, 1, false), (1, 1, false), (2, 1, false), (3, 1, false)], []⟩

theorem ok8 : TI.Ok Try.prog 8 T8 := ⟨⟨Try.t8, _, (by kernel_rfl : Try.prog.info? 8 = some Try.t8), rfl, rfl, rfl, rfl⟩, ⟨_, Try.underlying8, rfl, rfl, ⟨_, _, rfl, ⟨Try.t2, _, (by kernel_rfl : Try.prog.info? 2 = some Try.t2), by decide, Try.underlying2, rfl⟩, ⟨_, _, rfl, ⟨Try.t3, _, (by kernel_rfl : Try.prog.info? 3 = some Try.t3), by decide, Try.underlying3, rfl⟩, ⟨_, _, rfl, ⟨Try.t4, _, (by kernel_rfl : Try.prog.info? 4 = some Try.t4), by decide, Try.underlying4, rfl⟩, ⟨_, _, rfl, ⟨Try.t6, _, (by kernel_rfl : Try.prog.info? 6 = some Try.t6), by decide, Try.underlying6, rfl⟩, rfl⟩⟩⟩⟩, fun h => absurd rfl h⟩, ⟨rfl, rfl⟩, fun h => by cases h⟩

def T9 : TI := ⟨1, 16, false, [.string ⟨#[]⟩], [1], .str, 0, [], []⟩

theorem ok9 : TI.Ok Try.prog 9 T9 := ⟨⟨Try.t9, _, (by kernel_rfl : Try.prog.info? 9 = some Try.t9), rfl, rfl, rfl, rfl⟩, ⟨_, Try.underlying9, rfl, rfl, trivial, fun h => absurd rfl h⟩, ⟨rfl, rfl⟩, fun _ => ⟨Try.t9, _, (by kernel_rfl : Try.prog.info? 9 = some Try.t9), rfl, rfl⟩⟩

def T10 : TI := ⟨1, 16, false, [.string ⟨#[]⟩], [1], .str, 0, [], []⟩

theorem ok10 : TI.Ok Try.prog 10 T10 := ⟨⟨Try.t10, _, (by kernel_rfl : Try.prog.info? 10 = some Try.t10), rfl, rfl, rfl, rfl⟩, ⟨_, Try.underlying10, rfl, rfl, trivial, fun h => absurd rfl h⟩, ⟨rfl, rfl⟩, fun _ => ⟨Try.t10, _, (by kernel_rfl : Try.prog.info? 10 = some Try.t10), rfl, rfl⟩⟩

def T11 : TI := ⟨1, 16, false, [.string ⟨#[]⟩], [1], .str, 0, [], []⟩

theorem ok11 : TI.Ok Try.prog 11 T11 := ⟨⟨Try.t11, _, (by kernel_rfl : Try.prog.info? 11 = some Try.t11), rfl, rfl, rfl, rfl⟩, ⟨_, Try.underlying11, rfl, rfl, trivial, fun h => absurd rfl h⟩, ⟨rfl, rfl⟩, fun _ => ⟨Try.t11, _, (by kernel_rfl : Try.prog.info? 11 = some Try.t11), rfl, rfl⟩⟩

def T12 : TI := ⟨1, 8, false, [.int .u64 0], [1], (.int .u64), 0, [], []⟩

theorem ok12 : TI.Ok Try.prog 12 T12 := ⟨⟨Try.t12, _, (by kernel_rfl : Try.prog.info? 12 = some Try.t12), rfl, rfl, rfl, rfl⟩, ⟨_, Try.underlying12, rfl, rfl, trivial, fun h => absurd rfl h⟩, ⟨rfl, rfl⟩, fun _ => ⟨Try.t12, _, (by kernel_rfl : Try.prog.info? 12 = some Try.t12), rfl, rfl⟩⟩

def T14 : TI := ⟨2, 24, true, [.string ⟨#[]⟩, .int .u64 0], [1, 1], .struct, 0, [(0, 1, false), (1, 1, false)], []⟩

theorem ok14 : TI.Ok Try.prog 14 T14 := ⟨⟨Try.t14, _, (by kernel_rfl : Try.prog.info? 14 = some Try.t14), rfl, rfl, rfl, rfl⟩, ⟨_, Try.underlying14, rfl, rfl, ⟨_, _, rfl, ⟨Try.t9, _, (by kernel_rfl : Try.prog.info? 9 = some Try.t9), by decide, Try.underlying9, rfl⟩, ⟨_, _, rfl, ⟨Try.t12, _, (by kernel_rfl : Try.prog.info? 12 = some Try.t12), by decide, Try.underlying12, rfl⟩, rfl⟩⟩, fun h => absurd rfl h⟩, ⟨rfl, rfl⟩, fun h => by cases h⟩

def T19 : TI := ⟨1, 8, true, [.pointer none], [1], .struct, 0, [(0, 1, false)], []⟩

theorem ok19 : TI.Ok Try.prog 19 T19 := ⟨⟨Try.t19, _, (by kernel_rfl : Try.prog.info? 19 = some Try.t19), rfl, rfl, rfl, rfl⟩, ⟨_, Try.underlying19, rfl, rfl, ⟨_, _, rfl, ⟨Try.t17, _, (by kernel_rfl : Try.prog.info? 17 = some Try.t17), by decide, Try.underlying17, rfl⟩, rfl⟩, fun h => absurd rfl h⟩, ⟨rfl, rfl⟩, fun h => by cases h⟩

def T22 : TI := ⟨1, 24, false, [.slice none 0 0], [2], (.slice 35), 2, [], []⟩

theorem ok22 : TI.Ok Try.prog 22 T22 := ⟨⟨Try.t22, _, (by kernel_rfl : Try.prog.info? 22 = some Try.t22), rfl, rfl, rfl, rfl⟩, ⟨_, Try.underlying22, rfl, rfl, ⟨Try.t35, (by kernel_rfl : Try.prog.info? 35 = some Try.t35), rfl, by decide⟩, fun h => absurd rfl h⟩, ⟨rfl, rfl⟩, fun _ => ⟨Try.t22, _, (by kernel_rfl : Try.prog.info? 22 = some Try.t22), rfl, rfl⟩⟩

def T23 : TI := ⟨1, 24, false, [.slice none 0 0], [3], (.slice 39), 3, [], []⟩

theorem ok23 : TI.Ok Try.prog 23 T23 := ⟨⟨Try.t23, _, (by kernel_rfl : Try.prog.info? 23 = some Try.t23), rfl, rfl, rfl, rfl⟩, ⟨_, Try.underlying23, rfl, rfl, ⟨Try.t39, (by kernel_rfl : Try.prog.info? 39 = some Try.t39), rfl, by decide⟩, fun h => absurd rfl h⟩, ⟨rfl, rfl⟩, fun _ => ⟨Try.t23, _, (by kernel_rfl : Try.prog.info? 23 = some Try.t23), rfl, rfl⟩⟩

def T25 : TI := ⟨2, 48, true, [.slice none 0 0, .slice none 0 0], [2, 3], .struct, 0, [(0, 1, false), (1, 1, false)], []⟩

theorem ok25 : TI.Ok Try.prog 25 T25 := ⟨⟨Try.t25, _, (by kernel_rfl : Try.prog.info? 25 = some Try.t25), rfl, rfl, rfl, rfl⟩, ⟨_, Try.underlying25, rfl, rfl, ⟨_, _, rfl, ⟨Try.t22, _, (by kernel_rfl : Try.prog.info? 22 = some Try.t22), by decide, Try.underlying22, rfl⟩, ⟨_, _, rfl, ⟨Try.t23, _, (by kernel_rfl : Try.prog.info? 23 = some Try.t23), by decide, Try.underlying23, rfl⟩, rfl⟩⟩, fun h => absurd rfl h⟩, ⟨rfl, rfl⟩, fun h => by cases h⟩

def T28 : TI := ⟨1, 24, false, [.slice none 0 0], [2], (.slice 42), 2, [], []⟩

theorem ok28 : TI.Ok Try.prog 28 T28 := ⟨⟨Try.t28, _, (by kernel_rfl : Try.prog.info? 28 = some Try.t28), rfl, rfl, rfl, rfl⟩, ⟨_, Try.underlying28, rfl, rfl, ⟨Try.t42, (by kernel_rfl : Try.prog.info? 42 = some Try.t42), rfl, by decide⟩, fun h => absurd rfl h⟩, ⟨rfl, rfl⟩, fun _ => ⟨Try.t28, _, (by kernel_rfl : Try.prog.info? 28 = some Try.t28), rfl, rfl⟩⟩

def T29 : TI := ⟨1, 8, false, [.int .i64 0], [1], (.int .i64), 0, [], []⟩

theorem ok29 : TI.Ok Try.prog 29 T29 := ⟨⟨Try.t29, _, (by kernel_rfl : Try.prog.info? 29 = some Try.t29), rfl, rfl, rfl, rfl⟩, ⟨_, Try.underlying29, rfl, rfl, trivial, fun h => absurd rfl h⟩, ⟨rfl, rfl⟩, fun _ => ⟨Try.t29, _, (by kernel_rfl : Try.prog.info? 29 = some Try.t29), rfl, rfl⟩⟩

def T35 : TI := ⟨2, 24, true, [.string ⟨#[]⟩, .int .i64 0], [1, 1], .struct, 0, [(0, 1, false), (1, 1, false)], [false, true]⟩

theorem ok35 : TI.Ok Try.prog 35 T35 := ⟨⟨Try.t35, _, (by kernel_rfl : Try.prog.info? 35 = some Try.t35), rfl, rfl, rfl, rfl⟩, ⟨_, Try.underlying35, rfl, rfl, ⟨_, _, rfl, ⟨Try.t9, _, (by kernel_rfl : Try.prog.info? 9 = some Try.t9), by decide, Try.underlying9, rfl⟩, ⟨_, _, rfl, ⟨Try.t3, _, (by kernel_rfl : Try.prog.info? 3 = some Try.t3), by decide, Try.underlying3, rfl⟩, rfl⟩⟩, fun _ => ⟨Try.stoodInHeld35, Try.eqGuardType35, ⟨by decide, rfl, .inr (.inl ⟨_, rfl, Try.underlying9, ⟨by decide, rfl, .inl ⟨_, _, rfl, Try.underlying3, rfl⟩⟩⟩)⟩⟩⟩, ⟨rfl, rfl⟩, fun h => by cases h⟩

def T37 : TI := ⟨1, 24, false, [.slice none 0 0], [4], (.slice 46), 4, [], []⟩

theorem ok37 : TI.Ok Try.prog 37 T37 := ⟨⟨Try.t37, _, (by kernel_rfl : Try.prog.info? 37 = some Try.t37), rfl, rfl, rfl, rfl⟩, ⟨_, Try.underlying37, rfl, rfl, ⟨Try.t46, (by kernel_rfl : Try.prog.info? 46 = some Try.t46), rfl, by decide⟩, fun h => absurd rfl h⟩, ⟨rfl, rfl⟩, fun _ => ⟨Try.t37, _, (by kernel_rfl : Try.prog.info? 37 = some Try.t37), rfl, rfl⟩⟩

def T39 : TI := ⟨3, 48, true, [.string ⟨#[]⟩, .slice none 0 0, .bool false], [1, 4, 1], .struct, 0, [(0, 1, false), (1, 1, false), (2, 1, false)], []⟩

theorem ok39 : TI.Ok Try.prog 39 T39 := ⟨⟨Try.t39, _, (by kernel_rfl : Try.prog.info? 39 = some Try.t39), rfl, rfl, rfl, rfl⟩, ⟨_, Try.underlying39, rfl, rfl, ⟨_, _, rfl, ⟨Try.t9, _, (by kernel_rfl : Try.prog.info? 9 = some Try.t9), by decide, Try.underlying9, rfl⟩, ⟨_, _, rfl, ⟨Try.t37, _, (by kernel_rfl : Try.prog.info? 37 = some Try.t37), by decide, Try.underlying37, rfl⟩, ⟨_, _, rfl, ⟨Try.t4, _, (by kernel_rfl : Try.prog.info? 4 = some Try.t4), by decide, Try.underlying4, rfl⟩, rfl⟩⟩⟩, fun h => absurd rfl h⟩, ⟨rfl, rfl⟩, fun h => by cases h⟩

def T42 : TI := ⟨2, 16, true, [.int .i64 0, .int .i64 0], [1, 1], .struct, 0, [(0, 1, false), (1, 1, false)], [true, true]⟩

theorem ok42 : TI.Ok Try.prog 42 T42 := ⟨⟨Try.t42, _, (by kernel_rfl : Try.prog.info? 42 = some Try.t42), rfl, rfl, rfl, rfl⟩, ⟨_, Try.underlying42, rfl, rfl, ⟨_, _, rfl, ⟨Try.t3, _, (by kernel_rfl : Try.prog.info? 3 = some Try.t3), by decide, Try.underlying3, rfl⟩, ⟨_, _, rfl, ⟨Try.t3, _, (by kernel_rfl : Try.prog.info? 3 = some Try.t3), by decide, Try.underlying3, rfl⟩, rfl⟩⟩, fun _ => ⟨Try.stoodInHeld42, Try.eqGuardType42, ⟨by decide, rfl, .inl ⟨_, _, rfl, Try.underlying3, ⟨by decide, rfl, .inl ⟨_, _, rfl, Try.underlying3, rfl⟩⟩⟩⟩⟩⟩, ⟨rfl, rfl⟩, fun h => by cases h⟩

def T46 : TI := ⟨4, 40, true, [.string ⟨#[]⟩, .int .i64 0, .int .i64 0, .int .i64 0], [1, 1, 1, 1], .struct, 0, [(0, 1, false), (1, 1, false), (2, 2, true)], [false, true, true, true]⟩

theorem ok46 : TI.Ok Try.prog 46 T46 := ⟨⟨Try.t46, _, (by kernel_rfl : Try.prog.info? 46 = some Try.t46), rfl, rfl, rfl, rfl⟩, ⟨_, Try.underlying46, rfl, rfl, ⟨_, _, rfl, ⟨Try.t9, _, (by kernel_rfl : Try.prog.info? 9 = some Try.t9), by decide, Try.underlying9, rfl⟩, ⟨_, _, rfl, ⟨Try.t3, _, (by kernel_rfl : Try.prog.info? 3 = some Try.t3), by decide, Try.underlying3, rfl⟩, ⟨_, _, rfl, ⟨Try.t42, _, (by kernel_rfl : Try.prog.info? 42 = some Try.t42), by decide, Try.underlying42, rfl⟩, rfl⟩⟩⟩, fun _ => ⟨Try.stoodInHeld46, Try.eqGuardType46, ⟨by decide, rfl, .inr (.inl ⟨_, rfl, Try.underlying9, ⟨by decide, rfl, .inl ⟨_, _, rfl, Try.underlying3, ⟨by decide, rfl, .inr (.inr ⟨_, Try.t42, _, Try.underlying42, Try.stoodInHeld42, (by kernel_rfl : Try.prog.info? 42 = some Try.t42), rfl, ⟨⟨by decide, rfl, _, Try.underlying3⟩, ⟨⟨by decide, rfl, _, Try.underlying3⟩, trivial⟩⟩, rfl, rfl⟩)⟩⟩⟩⟩)⟩⟩⟩, ⟨rfl, rfl⟩, fun h => by cases h⟩

def T48 : TI := ⟨1, 24, false, [.slice none 0 0], [1], (.slice 49), 1, [], []⟩

theorem ok48 : TI.Ok Try.prog 48 T48 := ⟨⟨Try.t48, _, (by kernel_rfl : Try.prog.info? 48 = some Try.t48), rfl, rfl, rfl, rfl⟩, ⟨_, Try.underlying48, rfl, rfl, ⟨Try.t49, (by kernel_rfl : Try.prog.info? 49 = some Try.t49), rfl, by decide⟩, fun h => absurd rfl h⟩, ⟨rfl, rfl⟩, fun _ => ⟨Try.t48, _, (by kernel_rfl : Try.prog.info? 48 = some Try.t48), rfl, rfl⟩⟩

def T49 : TI := ⟨1, 2, false, [.int .u16 0], [1], (.int .u16), 0, [], []⟩

theorem ok49 : TI.Ok Try.prog 49 T49 := ⟨⟨Try.t49, _, (by kernel_rfl : Try.prog.info? 49 = some Try.t49), rfl, rfl, rfl, rfl⟩, ⟨_, Try.underlying49, rfl, rfl, trivial, fun h => absurd rfl h⟩, ⟨rfl, rfl⟩, fun _ => ⟨Try.t49, _, (by kernel_rfl : Try.prog.info? 49 = some Try.t49), rfl, rfl⟩⟩

def T55 : TI := ⟨1, 24, false, [.slice none 0 0], [1], (.slice 65), 1, [], []⟩

theorem ok55 : TI.Ok Try.prog 55 T55 := ⟨⟨Try.t55, _, (by kernel_rfl : Try.prog.info? 55 = some Try.t55), rfl, rfl, rfl, rfl⟩, ⟨_, Try.underlying55, rfl, rfl, ⟨Try.t65, (by kernel_rfl : Try.prog.info? 65 = some Try.t65), rfl, by decide⟩, fun h => absurd rfl h⟩, ⟨rfl, rfl⟩, fun _ => ⟨Try.t55, _, (by kernel_rfl : Try.prog.info? 55 = some Try.t55), rfl, rfl⟩⟩

def T56 : TI := ⟨1, 24, false, [.slice none 0 0], [1], (.slice 65), 1, [], []⟩

theorem ok56 : TI.Ok Try.prog 56 T56 := ⟨⟨Try.t56, _, (by kernel_rfl : Try.prog.info? 56 = some Try.t56), rfl, rfl, rfl, rfl⟩, ⟨_, Try.underlying56, rfl, rfl, ⟨Try.t65, (by kernel_rfl : Try.prog.info? 65 = some Try.t65), rfl, by decide⟩, fun h => absurd rfl h⟩, ⟨rfl, rfl⟩, fun _ => ⟨Try.t56, _, (by kernel_rfl : Try.prog.info? 56 = some Try.t56), rfl, rfl⟩⟩

def T59 : TI := ⟨1, 24, false, [.slice none 0 0], [1], (.slice 9), 1, [], []⟩

theorem ok59 : TI.Ok Try.prog 59 T59 := ⟨⟨Try.t59, _, (by kernel_rfl : Try.prog.info? 59 = some Try.t59), rfl, rfl, rfl, rfl⟩, ⟨_, Try.underlying59, rfl, rfl, ⟨Try.t9, (by kernel_rfl : Try.prog.info? 9 = some Try.t9), rfl, by decide⟩, fun h => absurd rfl h⟩, ⟨rfl, rfl⟩, fun _ => ⟨Try.t59, _, (by kernel_rfl : Try.prog.info? 59 = some Try.t59), rfl, rfl⟩⟩

def T65 : TI := ⟨1, 24, false, [.slice none 0 0], [1], (.slice 3), 1, [], []⟩

theorem ok65 : TI.Ok Try.prog 65 T65 := ⟨⟨Try.t65, _, (by kernel_rfl : Try.prog.info? 65 = some Try.t65), rfl, rfl, rfl, rfl⟩, ⟨_, Try.underlying65, rfl, rfl, ⟨Try.t3, (by kernel_rfl : Try.prog.info? 3 = some Try.t3), rfl, by decide⟩, fun h => absurd rfl h⟩, ⟨rfl, rfl⟩, fun _ => ⟨Try.t65, _, (by kernel_rfl : Try.prog.info? 65 = some Try.t65), rfl, rfl⟩⟩

def T83 : TI := ⟨1, 8, false, [.int .u64 0], [1], (.int .u64), 0, [], []⟩

theorem ok83 : TI.Ok Try.prog 83 T83 := ⟨⟨Try.t83, _, (by kernel_rfl : Try.prog.info? 83 = some Try.t83), rfl, rfl, rfl, rfl⟩, ⟨_, Try.underlying83, rfl, rfl, trivial, fun h => absurd rfl h⟩, ⟨rfl, rfl⟩, fun _ => ⟨Try.t83, _, (by kernel_rfl : Try.prog.info? 83 = some Try.t83), rfl, rfl⟩⟩

def T86 : TI := ⟨2, 16, true, [.int .u64 0, .int .u64 0], [1, 1], .struct, 0, [(0, 1, false), (1, 1, false)], [true, true]⟩

theorem ok86 : TI.Ok Try.prog 86 T86 := ⟨⟨Try.t86, _, (by kernel_rfl : Try.prog.info? 86 = some Try.t86), rfl, rfl, rfl, rfl⟩, ⟨_, Try.underlying86, rfl, rfl, ⟨_, _, rfl, ⟨Try.t83, _, (by kernel_rfl : Try.prog.info? 83 = some Try.t83), by decide, Try.underlying83, rfl⟩, ⟨_, _, rfl, ⟨Try.t83, _, (by kernel_rfl : Try.prog.info? 83 = some Try.t83), by decide, Try.underlying83, rfl⟩, rfl⟩⟩, fun _ => ⟨Try.stoodInHeld86, Try.eqGuardType86, ⟨by decide, rfl, .inl ⟨_, _, rfl, Try.underlying83, ⟨by decide, rfl, .inl ⟨_, _, rfl, Try.underlying83, rfl⟩⟩⟩⟩⟩⟩, ⟨rfl, rfl⟩, fun h => by cases h⟩

def T95 : TI := ⟨1, 24, false, [.slice none 0 0], [1], (.slice 28), 1, [], []⟩

theorem ok95 : TI.Ok Try.prog 95 T95 := ⟨⟨Try.t95, _, (by kernel_rfl : Try.prog.info? 95 = some Try.t95), rfl, rfl, rfl, rfl⟩, ⟨_, Try.underlying95, rfl, rfl, ⟨Try.t28, (by kernel_rfl : Try.prog.info? 28 = some Try.t28), rfl, by decide⟩, fun h => absurd rfl h⟩, ⟨rfl, rfl⟩, fun _ => ⟨Try.t95, _, (by kernel_rfl : Try.prog.info? 95 = some Try.t95), rfl, rfl⟩⟩

def T102 : TI := ⟨2, 48, true, [.slice none 0 0, .slice none 0 0], [1, 1], .struct, 0, [(0, 1, false), (1, 1, false)], []⟩

theorem ok102 : TI.Ok Try.prog 102 T102 := ⟨⟨Try.t102, _, (by kernel_rfl : Try.prog.info? 102 = some Try.t102), rfl, rfl, rfl, rfl⟩, ⟨_, Try.underlying102, rfl, rfl, ⟨_, _, rfl, ⟨Try.t65, _, (by kernel_rfl : Try.prog.info? 65 = some Try.t65), by decide, Try.underlying65, rfl⟩, ⟨_, _, rfl, ⟨Try.t56, _, (by kernel_rfl : Try.prog.info? 56 = some Try.t56), by decide, Try.underlying56, rfl⟩, rfl⟩⟩, fun h => absurd rfl h⟩, ⟨rfl, rfl⟩, fun h => by cases h⟩

def T121 : TI := ⟨1, 8, false, [.map none], [1], (.map 9 4), 0, [], []⟩

theorem ok121 : TI.Ok Try.prog 121 T121 := ⟨⟨Try.t121, _, (by kernel_rfl : Try.prog.info? 121 = some Try.t121), rfl, rfl, rfl, rfl⟩, ⟨_, Try.underlying121, rfl, rfl, trivial, fun h => absurd rfl h⟩, ⟨rfl, rfl⟩, fun _ => ⟨Try.t121, _, (by kernel_rfl : Try.prog.info? 121 = some Try.t121), rfl, rfl⟩⟩

def T127 : TI := ⟨5, 88, true, [.slice none 0 0, .int .i64 0, .slice none 0 0, .slice none 0 0, .bool false], [1, 1, 1, 1, 1], .struct, 0, [(0, 1, false), (1, 1, false), (2, 1, false), (3, 1, false), (4, 1, false)], []⟩

theorem ok127 : TI.Ok Try.prog 127 T127 := ⟨⟨Try.t127, _, (by kernel_rfl : Try.prog.info? 127 = some Try.t127), rfl, rfl, rfl, rfl⟩, ⟨_, Try.underlying127, rfl, rfl, ⟨_, _, rfl, ⟨Try.t55, _, (by kernel_rfl : Try.prog.info? 55 = some Try.t55), by decide, Try.underlying55, rfl⟩, ⟨_, _, rfl, ⟨Try.t3, _, (by kernel_rfl : Try.prog.info? 3 = some Try.t3), by decide, Try.underlying3, rfl⟩, ⟨_, _, rfl, ⟨Try.t65, _, (by kernel_rfl : Try.prog.info? 65 = some Try.t65), by decide, Try.underlying65, rfl⟩, ⟨_, _, rfl, ⟨Try.t65, _, (by kernel_rfl : Try.prog.info? 65 = some Try.t65), by decide, Try.underlying65, rfl⟩, ⟨_, _, rfl, ⟨Try.t4, _, (by kernel_rfl : Try.prog.info? 4 = some Try.t4), by decide, Try.underlying4, rfl⟩, rfl⟩⟩⟩⟩⟩, fun h => absurd rfl h⟩, ⟨rfl, rfl⟩, fun h => by cases h⟩

def T145 : TI := ⟨2, 16, true, [.int .u64 0, .int .u64 0], [1, 1], .struct, 0, [(0, 1, false), (1, 1, false)], [true, true]⟩

theorem ok145 : TI.Ok Try.prog 145 T145 := ⟨⟨Try.t145, _, (by kernel_rfl : Try.prog.info? 145 = some Try.t145), rfl, rfl, rfl, rfl⟩, ⟨_, Try.underlying145, rfl, rfl, ⟨_, _, rfl, ⟨Try.t83, _, (by kernel_rfl : Try.prog.info? 83 = some Try.t83), by decide, Try.underlying83, rfl⟩, ⟨_, _, rfl, ⟨Try.t83, _, (by kernel_rfl : Try.prog.info? 83 = some Try.t83), by decide, Try.underlying83, rfl⟩, rfl⟩⟩, fun _ => ⟨Try.stoodInHeld145, Try.eqGuardType145, ⟨by decide, rfl, .inl ⟨_, _, rfl, Try.underlying83, ⟨by decide, rfl, .inl ⟨_, _, rfl, Try.underlying83, rfl⟩⟩⟩⟩⟩⟩, ⟨rfl, rfl⟩, fun h => by cases h⟩

def T156 : TI := ⟨1, 8, false, [.int .u64 0], [1], (.int .u64), 0, [], []⟩

theorem ok156 : TI.Ok Try.prog 156 T156 := ⟨⟨Try.t156, _, (by kernel_rfl : Try.prog.info? 156 = some Try.t156), rfl, rfl, rfl, rfl⟩, ⟨_, Try.underlying156, rfl, rfl, trivial, fun h => absurd rfl h⟩, ⟨rfl, rfl⟩, fun _ => ⟨Try.t156, _, (by kernel_rfl : Try.prog.info? 156 = some Try.t156), rfl, rfl⟩⟩

def T166 : TI := ⟨1, 4, false, [.int .u32 0], [1], (.int .u32), 0, [], []⟩

theorem ok166 : TI.Ok Try.prog 166 T166 := ⟨⟨Try.t166, _, (by kernel_rfl : Try.prog.info? 166 = some Try.t166), rfl, rfl, rfl, rfl⟩, ⟨_, Try.underlying166, rfl, rfl, trivial, fun h => absurd rfl h⟩, ⟨rfl, rfl⟩, fun _ => ⟨Try.t166, _, (by kernel_rfl : Try.prog.info? 166 = some Try.t166), rfl, rfl⟩⟩

def T179 : TI := ⟨1, 1, false, [.int .u8 0], [1], (.int .u8), 0, [], []⟩

theorem ok179 : TI.Ok Try.prog 179 T179 := ⟨⟨Try.t179, _, (by kernel_rfl : Try.prog.info? 179 = some Try.t179), rfl, rfl, rfl, rfl⟩, ⟨_, Try.underlying179, rfl, rfl, trivial, fun h => absurd rfl h⟩, ⟨rfl, rfl⟩, fun _ => ⟨Try.t179, _, (by kernel_rfl : Try.prog.info? 179 = some Try.t179), rfl, rfl⟩⟩

def tab : Tab
  | 2 => some T2
  | 3 => some T3
  | 4 => some T4
  | 5 => some T5
  | 6 => some T6
  | 8 => some T8
  | 9 => some T9
  | 10 => some T10
  | 11 => some T11
  | 12 => some T12
  | 14 => some T14
  | 19 => some T19
  | 22 => some T22
  | 23 => some T23
  | 25 => some T25
  | 28 => some T28
  | 29 => some T29
  | 35 => some T35
  | 37 => some T37
  | 39 => some T39
  | 42 => some T42
  | 46 => some T46
  | 48 => some T48
  | 49 => some T49
  | 55 => some T55
  | 56 => some T56
  | 59 => some T59
  | 65 => some T65
  | 83 => some T83
  | 86 => some T86
  | 95 => some T95
  | 102 => some T102
  | 121 => some T121
  | 127 => some T127
  | 145 => some T145
  | 156 => some T156
  | 166 => some T166
  | 179 => some T179
  | _ => none

theorem tab_ok : Tab.Ok Try.prog tab := fun t i h => by
  unfold tab at h
  split at h <;> first
    | (cases h; done)
    | (cases h; exact ok2)
    | (cases h; exact ok3)
    | (cases h; exact ok4)
    | (cases h; exact ok5)
    | (cases h; exact ok6)
    | (cases h; exact ok8)
    | (cases h; exact ok9)
    | (cases h; exact ok10)
    | (cases h; exact ok11)
    | (cases h; exact ok12)
    | (cases h; exact ok14)
    | (cases h; exact ok19)
    | (cases h; exact ok22)
    | (cases h; exact ok23)
    | (cases h; exact ok25)
    | (cases h; exact ok28)
    | (cases h; exact ok29)
    | (cases h; exact ok35)
    | (cases h; exact ok37)
    | (cases h; exact ok39)
    | (cases h; exact ok42)
    | (cases h; exact ok46)
    | (cases h; exact ok48)
    | (cases h; exact ok49)
    | (cases h; exact ok55)
    | (cases h; exact ok56)
    | (cases h; exact ok59)
    | (cases h; exact ok65)
    | (cases h; exact ok83)
    | (cases h; exact ok86)
    | (cases h; exact ok95)
    | (cases h; exact ok102)
    | (cases h; exact ok121)
    | (cases h; exact ok127)
    | (cases h; exact ok145)
    | (cases h; exact ok156)
    | (cases h; exact ok166)
    | (cases h; exact ok179)

theorem bt : type_of% @T2.eq_1 ∧ type_of% @T3.eq_1 ∧ type_of% @T4.eq_1 ∧ type_of% @T5.eq_1 ∧ type_of% @T6.eq_1 ∧ type_of% @T8.eq_1 ∧ type_of% @T9.eq_1 ∧ type_of% @T10.eq_1 ∧ type_of% @T11.eq_1 ∧ type_of% @T12.eq_1 ∧ type_of% @T14.eq_1 ∧ type_of% @T19.eq_1 ∧ type_of% @T22.eq_1 ∧ type_of% @T23.eq_1 ∧ type_of% @T25.eq_1 ∧ type_of% @T28.eq_1 ∧ type_of% @T29.eq_1 ∧ type_of% @T35.eq_1 ∧ type_of% @T37.eq_1 ∧ type_of% @T39.eq_1 ∧ type_of% @T42.eq_1 ∧ type_of% @T46.eq_1 ∧ type_of% @T48.eq_1 ∧ type_of% @T49.eq_1 ∧ type_of% @T55.eq_1 ∧ type_of% @T56.eq_1 ∧ type_of% @T59.eq_1 ∧ type_of% @T65.eq_1 ∧ type_of% @T83.eq_1 ∧ type_of% @T86.eq_1 ∧ type_of% @T95.eq_1 ∧ type_of% @T102.eq_1 ∧ type_of% @T121.eq_1 ∧ type_of% @T127.eq_1 ∧ type_of% @T145.eq_1 ∧ type_of% @T156.eq_1 ∧ type_of% @T166.eq_1 ∧ type_of% @T179.eq_1 ∧ type_of% @tab.eq_1 ∧ type_of% @tab.eq_2 ∧ type_of% @tab.eq_3 ∧ type_of% @tab.eq_4 ∧ type_of% @tab.eq_5 ∧ type_of% @tab.eq_6 ∧ type_of% @tab.eq_7 ∧ type_of% @tab.eq_8 ∧ type_of% @tab.eq_9 ∧ type_of% @tab.eq_10 ∧ type_of% @tab.eq_11 ∧ type_of% @tab.eq_12 ∧ type_of% @tab.eq_13 ∧ type_of% @tab.eq_14 ∧ type_of% @tab.eq_15 ∧ type_of% @tab.eq_16 ∧ type_of% @tab.eq_17 ∧ type_of% @tab.eq_18 ∧ type_of% @tab.eq_19 ∧ type_of% @tab.eq_20 ∧ type_of% @tab.eq_21 ∧ type_of% @tab.eq_22 ∧ type_of% @tab.eq_23 ∧ type_of% @tab.eq_24 ∧ type_of% @tab.eq_25 ∧ type_of% @tab.eq_26 ∧ type_of% @tab.eq_27 ∧ type_of% @tab.eq_28 ∧ type_of% @tab.eq_29 ∧ type_of% @tab.eq_30 ∧ type_of% @tab.eq_31 ∧ type_of% @tab.eq_32 ∧ type_of% @tab.eq_33 ∧ type_of% @tab.eq_34 ∧ type_of% @tab.eq_35 ∧ type_of% @tab.eq_36 ∧ type_of% @tab.eq_37 ∧ type_of% @tab.eq_38 := ⟨@T2.eq_1, @T3.eq_1, @T4.eq_1, @T5.eq_1, @T6.eq_1, @T8.eq_1, @T9.eq_1, @T10.eq_1, @T11.eq_1, @T12.eq_1, @T14.eq_1, @T19.eq_1, @T22.eq_1, @T23.eq_1, @T25.eq_1, @T28.eq_1, @T29.eq_1, @T35.eq_1, @T37.eq_1, @T39.eq_1, @T42.eq_1, @T46.eq_1, @T48.eq_1, @T49.eq_1, @T55.eq_1, @T56.eq_1, @T59.eq_1, @T65.eq_1, @T83.eq_1, @T86.eq_1, @T95.eq_1, @T102.eq_1, @T121.eq_1, @T127.eq_1, @T145.eq_1, @T156.eq_1, @T166.eq_1, @T179.eq_1, @tab.eq_1, @tab.eq_2, @tab.eq_3, @tab.eq_4, @tab.eq_5, @tab.eq_6, @tab.eq_7, @tab.eq_8, @tab.eq_9, @tab.eq_10, @tab.eq_11, @tab.eq_12, @tab.eq_13, @tab.eq_14, @tab.eq_15, @tab.eq_16, @tab.eq_17, @tab.eq_18, @tab.eq_19, @tab.eq_20, @tab.eq_21, @tab.eq_22, @tab.eq_23, @tab.eq_24, @tab.eq_25, @tab.eq_26, @tab.eq_27, @tab.eq_28, @tab.eq_29, @tab.eq_30, @tab.eq_31, @tab.eq_32, @tab.eq_33, @tab.eq_34, @tab.eq_35, @tab.eq_36, @tab.eq_37, @tab.eq_38⟩

theorem follows_mixed : Try.prog.follows .mixedOrders = true := by kernel_rfl

end Go.Proofs.Ytjmmenfbcbagoaa.T
